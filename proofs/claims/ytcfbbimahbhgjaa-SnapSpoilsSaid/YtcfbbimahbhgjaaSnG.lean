/- Snap: readers, as lists; slices cut. -/
import Derived.Test.YtcfbbimahbhgjaaSnE
import Derived.Test.YtcfbbimahbhgjaaWrote
namespace Go.Proofs.Ytcfbbimahbhgjaa
open Go.RowKit
set_option linter.unusedSimpArgs false
set_option linter.unusedVariables false

/-! ## Slices cut. -/
def restA (a : Option Addr) (z cap : Nat) : Option Addr := if cap = z then a else a.map (·.add z)
theorem BL.rest {w : World} {a : Option Addr} {cap z : Nat} {l : List Nat} (h : BL w a l) (hz : z ≤ l.length) (hc : l.length ≤ cap) : BL w (restA a z cap) (l.drop z) := by
  unfold restA
  split
  · intro i x hx
    have : l.drop z = [] := List.drop_eq_nil_of_le (by omega)
    rw [this] at hx
    simp at hx
  · intro i x hx
    rw [List.getElem?_drop] at hx
    obtain ⟨ad, rfl, hl, hc2⟩ := h (z + i) x hx
    exact ⟨ad.add z, rfl, by rw [add_blk]; exact hl, by rw [Go.Addr.add_add]; exact hc2⟩
theorem BL.take {w : World} {a : Option Addr} {l : List Nat} (h : BL w a l) (z : Nat) : BL w a (l.take z) := by
  intro i x hx
  rw [List.getElem?_take] at hx
  split at hx
  · exact h i x hx
  · cases hx
theorem restA_ne {a : Option Addr} {z cap m : Nat} (h : ∀ ad, a = some ad → ad.block ≠ m) : ∀ ad, restA a z cap = some ad → ad.block ≠ m := by
  unfold restA
  split
  · exact h
  · intro ad e
    cases a with
    | none => cases e
    | some b =>
      simp only [Option.map_some, Option.some.injEq] at e
      subst e
      rw [add_blk]; exact h b rfl
theorem sz8 (w : World) : (sizeOf 5).run Try.prog w = .ok 1 w := by kernel_rfl
theorem el8 : Try.prog.elem 29 = 5 := by kernel_rfl
theorem run_rest (a : Option Addr) (r cap z : Nat) (hz : z ≤ r) (w : World) : (Instr.slice 29 (.slice a r cap) (some (.int .i64 (z : Int))) none none).run Try.prog w = .ok (.slice (restA a z cap) (r - z) (cap - z)) w := by
  rw [run_slice_l w _ a r cap (by rw [el8]; exact Try.underlying29) .i64 (z : Int) (by omega) (by omega), el8, sz8]
  simp [Result.andThen, sliced, restA]
theorem run_front (a : Option Addr) (r cap z : Nat) (hz : z ≤ cap) (w : World) : (Instr.slice 29 (.slice a r cap) none (some (.int .i64 (z : Int))) none).run Try.prog w = .ok (.slice a z cap) w := by
  rw [run_slice_h w _ a r cap (by rw [el8]; exact Try.underlying29) .i64 (z : Int) (by omega) (by omega), el8, sz8]
  simp [Result.andThen, sliced]
  intro _
  cases a <;> simp [Addr.add]
/-! ## What is read. -/
def numR : Nat → Nat → Nat → List Nat → Except Int (Nat × Nat)
  | 0, _, _, _ => .error 5
  | _ + 1, _, _, [] => .error 5
  | k + 1, i, n, x :: l => if (i = 9 ∧ 1 < x) ∨ (0 < i ∧ x = 0) then .error 2 else if x < 128 then .ok (n + 128 ^ i * x, i + 1) else numR k (i + 1) (n + 128 ^ i * (x % 128)) l
abbrev RS := List Nat × Int
def numS (s : RS) : Nat × RS := if s.2 ≠ 0 then (0, s) else match numR 10 0 0 s.1 with
  | .ok (v, c) => (v, (s.1.drop c, 0))
  | .error e => (0, (s.1, e))
def unzig (v : Nat) : Int := if v % 2 = 0 then (v / 2 : Nat) else -((v / 2 : Nat) : Int) - 1
def truthS (s : RS) : Bool × RS := if s.2 ≠ 0 then (false, s) else match s.1 with
  | [] => (false, (s.1, 5))
  | x :: l => if 1 < x then (false, (s.1, 2)) else (x == 1, (l, 0))
def rawS (s : RS) (most : Int) : List Nat × RS := if s.2 ≠ 0 then ([], s) else
  let r := numS s
  if r.2.2 ≠ 0 then ([], r.2) else if most < 0 ∨ most < (r.1 : Int) then ([], (s.1, 4)) else if r.2.1.length < r.1 then ([], (s.1, 5)) else (r.2.1.take r.1, (r.2.1.drop r.1, 0))
theorem numR_ok : ∀ (k i n : Nat) (l : List Nat) (v c : Nat), k + i = 10 → n < 128 ^ i → (∀ x ∈ l, x < 256) → numR k i n l = .ok (v, c) → v < 18446744073709551616 ∧ i < c ∧ c ≤ i + l.length
  | 0, _, _, _, _, _, _, _, _, h => by simp [numR] at h
  | k + 1, i, n, [], _, _, _, _, _, h => by simp [numR] at h
  | k + 1, i, n, x :: l, v, c, hk, hn, h8, h => by
    unfold numR at h
    by_cases h1 : (i = 9 ∧ 1 < x) ∨ (0 < i ∧ x = 0)
    · rw [if_pos h1] at h; cases h
    · rw [if_neg h1] at h
      by_cases h2 : x < 128
      · rw [if_pos h2] at h
        simp at h
        obtain ⟨rfl, rfl⟩ := h
        refine ⟨?_, by omega, by simp⟩
        by_cases h9 : i = 9
        · subst h9
          have : (128 : Nat) ^ 9 = 9223372036854775808 := by decide
          rw [this] at hn ⊢
          have : x ≤ 1 := by omega
          have : 9223372036854775808 * x ≤ 9223372036854775808 * 1 := Nat.mul_le_mul_left _ this
          omega
        · have hp : (128 : Nat) ^ i ≤ 128 ^ 8 := Nat.pow_le_pow_right (by omega) (by omega)
          have : (128 : Nat) ^ 8 = 72057594037927936 := by decide
          have : 128 ^ i * x ≤ 128 ^ i * 127 := Nat.mul_le_mul_left _ (by omega)
          omega
      · rw [if_neg h2] at h
        have hx := h8 x (List.mem_cons_self ..)
        obtain ⟨r1, r2, r3⟩ := numR_ok k (i + 1) _ l v c (by omega) (by
          have : 128 ^ i * (x % 128) ≤ 128 ^ i * 127 := Nat.mul_le_mul_left _ (by omega)
          rw [Nat.pow_succ]; omega) (fun y hy => h8 y (List.mem_cons_of_mem _ hy)) h
        exact ⟨r1, by omega, by simp; omega⟩
theorem numR_err : ∀ (k i n : Nat) (l : List Nat) (e : Int), numR k i n l = .error e → e = 2 ∨ e = 5
  | 0, _, _, _, _, h => by simp [numR] at h; omega
  | k + 1, i, n, [], _, h => by simp [numR] at h; omega
  | k + 1, i, n, x :: l, e, h => by
    unfold numR at h
    split at h
    · simp at h; omega
    · split at h
      · cases h
      · exact numR_err k _ _ l e h
/-! ## A reader in memory. -/
structure RD (T : TypeId) (w : World) (rb : Nat) (a : Option Addr) (n cap : Nat) (s : RS) : Prop where
  hb : w.heap[rb]? = some (.cells #[.slice a n cap, .int .i64 s.2] T)
  len : s.1.length = n
  lc : n ≤ cap
  hn : n ≤ 1000000000
  bl : BL w a s.1
  h8 : ∀ x ∈ s.1, x < 256
  ne : ∀ ad, a = some ad → ad.block ≠ rb
theorem RD.lt {T : TypeId} {w : World} {rb n cap : Nat} {a : Option Addr} {s : RS} (h : RD T w rb a n cap s) : rb < w.heap.size := lt_of_at h.hb
theorem RD.keep {T : TypeId} {w w' : World} {rb n cap : Nat} {a : Option Addr} {s : RS} (h : RD T w rb a n cap s) (hb : Below w.heap.size w w') : RD T w' rb a n cap s := ⟨keepB hb h.hb, h.len, h.lc, h.hn, h.bl.keep hb, h.h8, h.ne⟩
theorem RD.cells {T : TypeId} {w : World} {rb n cap : Nat} {a : Option Addr} {s : RS} (h : RD T w rb a n cap s) : w.cell? ⟨rb, 0, none⟩ = some (.slice a n cap) ∧ w.cell? ⟨rb, 1, none⟩ = some (.int .i64 s.2) ∧ (∀ o, w.frozen? ⟨rb, o, none⟩ = false) := by
  have k := h.hb
  exact ⟨by rw [cell_at k]; rfl, by rw [cell_at k]; rfl, fun o => by simp [World.frozen?, k]⟩
theorem RD.setE {T : TypeId} {w : World} {rb n cap : Nat} {a : Option Addr} {l : List Nat} {e : Int} (h : RD T w rb a n cap (l, e)) (e' : Int) : RD T (w.setCell ⟨rb, 1, none⟩ (.int .i64 e')) rb a n cap (l, e') :=
  ⟨by simp [World.setCell, Array.getElem?_modify, h.hb], h.len, h.lc, h.hn, h.bl.same (by simp [World.setCell]) fun ad ea _ _ => RowKit.Below.heap_setCell _ _ _ _ (h.ne ad ea), h.h8, h.ne⟩
theorem RD.setB {T : TypeId} {w : World} {rb n cap : Nat} {a : Option Addr} {l : List Nat} {e : Int} (h : RD T w rb a n cap (l, e)) {a' : Option Addr} {n' cap' : Nat} {l' : List Nat} (hl : l'.length = n') (hc : n' ≤ cap') (hn : n' ≤ 1000000000) (hb : BL w a' l') (h8 : ∀ x ∈ l', x < 256) (hne : ∀ ad, a' = some ad → ad.block ≠ rb) :
    RD T (w.setCell ⟨rb, 0, none⟩ (.slice a' n' cap')) rb a' n' cap' (l', e) :=
  ⟨by simp [World.setCell, Array.getElem?_modify, h.hb], hl, hc, hn, hb.same (by simp [World.setCell]) fun ad ea _ _ => RowKit.Below.heap_setCell _ _ _ _ (hne ad ea), h8, hne⟩
theorem RD.drop {T : TypeId} {w : World} {rb n cap : Nat} {a : Option Addr} {l : List Nat} {e : Int} (h : RD T w rb a n cap (l, e)) {z : Nat} (hz : z ≤ n) : RD T (w.setCell ⟨rb, 0, none⟩ (.slice (restA a z cap) (n - z) (cap - z))) rb (restA a z cap) (n - z) (cap - z) (l.drop z, e) :=
  h.setB (by rw [List.length_drop]; have := h.len; simp at this; omega) (by have := h.lc; omega) (by have := h.hn; omega) (h.bl.rest (by have := h.len; simp at this ⊢; omega) (by have := h.len; have := h.lc; simp at *; omega)) (fun x hx => h.h8 x (List.mem_of_mem_drop hx)) (restA_ne h.ne)
/-- What a reader's step gives: the reader in its new state, and only its own block is written. -/
def RP (T : TypeId) (rb : Nat) (s : RS) (w w' : World) : Prop := (∃ a n cap, RD T w' rb a n cap s) ∧ Wrote rb w w'
/-- The bytes from i on. -/
theorem numR_at {l : List Nat} {k i n x : Nat} (h : l[i]? = some x) : numR (k + 1) i n (l.drop i) = if (i = 9 ∧ 1 < x) ∨ (0 < i ∧ x = 0) then .error 2 else if x < 128 then .ok (n + 128 ^ i * x, i + 1) else numR k (i + 1) (n + 128 ^ i * (x % 128)) (l.drop (i + 1)) := by
  obtain ⟨hi, e⟩ := List.getElem?_eq_some_iff.1 h
  rw [List.drop_eq_getElem_cons hi, e, numR]
theorem numR_end {l : List Nat} {k i n : Nat} (h : l.length ≤ i ∨ k = 0) : numR k i n (l.drop i) = .error 5 := by
  cases k with
  | zero => rfl
  | succ k =>
    have : l.drop i = [] := List.drop_eq_nil_of_le (by omega)
    rw [this, numR]
end Go.Proofs.Ytcfbbimahbhgjaa
