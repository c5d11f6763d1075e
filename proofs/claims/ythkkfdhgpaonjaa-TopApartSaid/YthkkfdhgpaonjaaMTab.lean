import Derived.Test.YthkkfdhgpaonjaaArr
import Derived.Test.YthkkfdhgpaonjaaFr
import Derived.Test.YthkkfdhgpaonjaaBit
import Derived.Lib.Hide
/- The table of causes, and the contract of roebuckref21.Rows: it lays that table in a new block. -/
namespace Go.Proofs.Ythkkfdhgpaonjaa
open Go.RowKit

def tab21 : List (Bool × Int × ByteArray) := [(false, 0, ⟨#[105, 110, 115, 110, 45, 97, 108, 105, 103, 110]⟩), (false, 1, ⟨#[105, 110, 115, 110, 45, 102, 97, 117, 108, 116]⟩), (false, 2, ⟨#[105, 108, 108, 101, 103, 97, 108]⟩), (false, 3, ⟨#[98, 114, 101, 97, 107]⟩), (false, 4, ⟨#[108, 111, 97, 100, 45, 97, 108, 105, 103, 110]⟩), (false, 5, ⟨#[108, 111, 97, 100, 45, 102, 97, 117, 108, 116]⟩), (false, 6, ⟨#[115, 116, 111, 114, 101, 45, 97, 108, 105, 103, 110]⟩), (false, 7, ⟨#[115, 116, 111, 114, 101, 45, 102, 97, 117, 108, 116]⟩), (false, 8, ⟨#[99, 97, 108, 108, 45, 117, 115, 101, 114]⟩), (false, 9, ⟨#[99, 97, 108, 108, 45, 115, 117, 112, 101, 114]⟩), (false, 11, ⟨#[99, 97, 108, 108, 45, 109, 97, 99, 104, 105, 110, 101]⟩), (false, 12, ⟨#[105, 110, 115, 110, 45, 112, 97, 103, 101]⟩), (false, 13, ⟨#[108, 111, 97, 100, 45, 112, 97, 103, 101]⟩), (false, 15, ⟨#[115, 116, 111, 114, 101, 45, 112, 97, 103, 101]⟩), (true, 1, ⟨#[115, 117, 112, 101, 114, 45, 115, 111, 102, 116]⟩), (true, 3, ⟨#[109, 97, 99, 104, 105, 110, 101, 45, 115, 111, 102, 116]⟩), (true, 5, ⟨#[115, 117, 112, 101, 114, 45, 116, 105, 109, 101]⟩), (true, 7, ⟨#[109, 97, 99, 104, 105, 110, 101, 45, 116, 105, 109, 101]⟩), (true, 9, ⟨#[115, 117, 112, 101, 114, 45, 111, 117, 116, 101, 114]⟩), (true, 11, ⟨#[109, 97, 99, 104, 105, 110, 101, 45, 111, 117, 116, 101, 114]⟩)]

def cells21 : Array Value := (tab21.flatMap fun r => [.bool r.1, .int .i64 r.2.1, .string r.2.2]).toArray

set_option maxRecDepth 100000 in
set_option maxHeartbeats 1000000 in
theorem rows21_any (w : World) :
    Calls Try.prog 121 #[] w fun e w' => e = .returned (.slice (some ⟨w.heap.size, 0, none⟩) 20 20) ∧ w' = w.alloc (.cells cells21 171) := by
  go_enter Try.func121, Try.ntmps121
  go_wp2
  go_ret
  exact ⟨rfl, rfl⟩

end Go.Proofs.Ythkkfdhgpaonjaa
/- The contracts of Name, Find, Of, Word of causes. -/
namespace Go.Proofs.Ythkkfdhgpaonjaa
open Go.RowKit

theorem fr_out {w wr : World} {x : Obj} (h : Fr (w.heap.size + 1) (w.alloc x) wr) : Fr w.heap.size w wr :=
  ⟨((Below.refl _ w).alloc (Nat.le_refl _) x).trans (h.1.mono (by omega)), by have := h.2; omega⟩

theorem not_frozen {w : World} {b : Nat} {c : Array Value} {t : TypeId} (h : w.heap[b]? = some (.cells c t)) (o : Nat) : w.frozen? ⟨b, o, none⟩ = false := by
  simp [World.frozen?, h]
theorem two_cells {w : World} {b : Nat} {v0 v1 : Value} {t : TypeId} (h : w.heap[b]? = some (.cells #[v0, v1] t)) : w.cell? ⟨b, 0, none⟩ = some v0 ∧ w.cell? ⟨b, 1, none⟩ = some v1 := by
  rw [cell_at h, cell_at h]; exact ⟨rfl, rfl⟩

def findOf (s : ByteArray) : Option (Bool × Int × ByteArray) := tab21.find? fun r => r.2.2.toList == s.toList
def optCause : Option (Bool × Int × ByteArray) → Value
  | some r => .tuple #[.agg #[.bool r.1, .int .i64 r.2.1], .bool true]
  | none => .tuple #[.agg #[.bool false, .int .i64 0], .bool false]

theorem flat3 {l : List (Bool × Int × ByteArray)} (k : Nat) {r : Bool × Int × ByteArray} (h : l[k]? = some r) :
    (l.flatMap fun r => [Value.bool r.1, .int .i64 r.2.1, .string r.2.2])[3 * k]? = some (.bool r.1) ∧
    (l.flatMap fun r => [Value.bool r.1, .int .i64 r.2.1, .string r.2.2])[3 * k + 1]? = some (.int .i64 r.2.1) ∧
    (l.flatMap fun r => [Value.bool r.1, .int .i64 r.2.1, .string r.2.2])[3 * k + 2]? = some (.string r.2.2) := by
  induction l generalizing k with
  | nil => simp at h
  | cons a l ih =>
    cases k with
    | zero => simp at h; subst h; simp
    | succ k =>
      have := ih k (by simpa using h)
      have e : 3 * (k + 1) = 3 * k + 3 := by omega
      simp [e, this]

theorem cells21_get (k : Nat) (hk : k < 20) :
    cells21[k * 3]? = some (.bool (tab21.getD k default).1) ∧ cells21[k * 3 + 1]? = some (.int .i64 (tab21.getD k default).2.1) ∧ cells21[k * 3 + 2]? = some (.string (tab21.getD k default).2.2) := by
  have hr : tab21[k]? = some (tab21.getD k default) := by
    have : k < tab21.length := hk
    simp [this]
  have := flat3 k hr
  rw [Nat.mul_comm 3 k] at this
  simpa [cells21] using this

theorem cells21_at {w : World} {b : Nat} {t : TypeId} (h : w.heap[b]? = some (.cells cells21 t)) (k : Nat) (hk : k < 20) :
    w.cell? ⟨b, k * 3, none⟩ = some (.bool (tab21.getD k default).1) ∧ w.cell? ⟨b, k * 3 + 1, none⟩ = some (.int .i64 (tab21.getD k default).2.1) ∧ w.cell? ⟨b, k * 3 + 2, none⟩ = some (.string (tab21.getD k default).2.2) := by
  rw [cell_at h, cell_at h, cell_at h]
  exact cells21_get k hk

theorem find_step (p : Bool × Int × ByteArray → Bool) (k : Nat) (hk : k < 20) : (tab21.drop k).find? p = if p (tab21.getD k default) then some (tab21.getD k default) else (tab21.drop (k + 1)).find? p := by
  have : k < tab21.length := hk
  rw [List.drop_eq_getElem_cons this, List.find?_cons]
  simp only [List.getD_eq_getElem?_getD, List.getElem?_eq_getElem this, Option.getD_some]
  split <;> simp_all
theorem find_end (p : Bool × Int × ByteArray → Bool) : (tab21.drop 20).find? p = none := rfl

set_option maxRecDepth 100000 in
set_option maxHeartbeats 1000000 in
theorem rfind_any (s : ByteArray) (w : World) :
    Calls Try.prog 119 #[.string s] w fun e w' => e = .returned (optCause (findOf s)) ∧ Below w.heap.size w w' := by
  go_enter Try.func119, Try.ntmps119
  go_wp2_with (go_at_call 121; refine (rows21_any _).mono ?_; rintro e w' ⟨rfl, rfl⟩)
  go_loop [5] (fun i => ∃ k : Nat, k ≤ 20 ∧ i = .int .i64 k ∧ Hid ((tab21.drop k).find? (fun r => r.2.2.toList == s.toList) = findOf s)) (fun i => 20 - (intOf i).toNat)
  case atStart => exact ⟨0, by omega, rfl, rfl⟩
  case round =>
    obtain ⟨k, hk, rfl, H⟩ := hrel
    by_cases hlt : k < 20
    · obtain ⟨c0, c1, c2⟩ := cells21_get k hlt
      obtain ⟨r, hr⟩ : ∃ r, r = tab21.getD k default := ⟨_, rfl⟩
      have HS := find_step (fun r => r.2.2.toList == s.toList) k hlt
      rw [← hr] at c0 c1 c2 HS
      have HH : Hid (findOf s = if (r.2.2.toList == s.toList) = true then some r else (tab21.drop (k + 1)).find? (fun r => r.2.2.toList == s.toList)) := by rw [← H.out]; exact HS
      clear HS hr H
      go_wp2
      · refine bodyPost_ret (v := .tuple #[.agg #[.bool r.1, .int .i64 r.2.1], .bool true]) (by simp [results, Try.results119, go_sem]) rfl ⟨?_, ?_⟩
        · rw [HH.out, if_pos (by assumption)]; rfl
        · repeat (first | exact Below.refl _ _ | refine Below.alloc ?_ (by simp) _)
      · go_round
        case rel => exact ⟨k + 1, by omega, by go_num, by rw [HH.out, if_neg (by simp only [Bool.not_eq_true]; assumption)]; rfl⟩
        case measure => simp [intOf]; omega
    · obtain rfl : k = 20 := by omega
      go_wp2
      refine bodyPost_ret (v := .tuple #[.agg #[.bool false, .int .i64 0], .bool false]) (by simp [results, Try.results119, go_sem]) rfl ⟨?_, ?_⟩
      · rw [← H.out]; rfl
      · repeat (first | exact Below.refl _ _ | refine Below.alloc ?_ (by simp) _)
end Go.Proofs.Ythkkfdhgpaonjaa
/- The contracts of cause.Word, roebuckref21.Word, and Of. -/
namespace Go.Proofs.Ythkkfdhgpaonjaa
open Go.RowKit
set_option linter.unusedSimpArgs false
set_option linter.unusedVariables false

def top63 : Nat := 9223372036854775808
def wordOf (i : Bool) (c : Int) : Nat := (if 0 ≤ c ∧ c ≤ 63 then c.toNat else 0) + (if i then top63 else 0)

theorem or_top (c : Int) (h0 : 0 ≤ c) (h1 : c ≤ 63) : bits BinOp.or IntKind.u64 c 9223372036854775808 = c + 9223372036854775808 := by
  obtain ⟨n, rfl⟩ := Int.eq_ofNat_of_zero_le h0
  have h := u64_or_nat n 9223372036854775808 (by omega) (by omega)
  have e : n ||| 9223372036854775808 = n + 9223372036854775808 := by
    have := Nat.two_pow_add_eq_or_of_lt (i := 63) (b := n) (by omega) 1
    rw [Nat.or_comm]
    simpa [Nat.add_comm] using this.symm
  rw [e] at h
  exact h

theorem word_in (i : Bool) (c : Int) (h0 : 0 ≤ c) (h1 : c ≤ 63) : ((wordOf i c : Nat) : Int) = c + if i then 9223372036854775808 else 0 := by
  unfold wordOf top63
  rw [if_pos ⟨h0, h1⟩]
  split <;> omega
theorem word_out (i : Bool) (c : Int) (h : ¬ (0 ≤ c ∧ c ≤ 63)) : ((wordOf i c : Nat) : Int) = if i then 9223372036854775808 else 0 := by
  unfold wordOf top63
  rw [if_neg h]
  split <;> omega

set_option maxRecDepth 100000 in
theorem cword_any (i : Bool) (c : Int) (w : World) :
    Calls Try.prog 65 #[.agg #[.bool i, .int .i64 c]] w fun e w' => e = .returned (.int .u64 (wordOf i c : Nat)) ∧ Below w.heap.size w w' := by
  by_cases h : 0 ≤ c ∧ c ≤ 63
  · obtain ⟨h0, h1⟩ := h
    have hw := Lib.hid (word_in i c h0 h1)
    cases i
    · go_enter Try.func65, Try.ntmps65
      go_wp2
      go_ret
      exact ⟨val_u64 (by rw [hw.out]; simp), (Below.refl _ _).alloc (Nat.le_refl _) _⟩
    · go_enter Try.func65, Try.ntmps65
      go_wp2
      go_ret
      exact ⟨val_u64 (by rw [hw.out, or_top c h0 h1]; simp), (Below.refl _ _).alloc (Nat.le_refl _) _⟩
  · have hw := Lib.hid (word_out i c h)
    have hz : c < 0 ∨ 63 < c := by omega
    clear h
    rcases hz with hz | hz <;> cases i
    all_goals
      go_enter Try.func65, Try.ntmps65
      go_wp2
      go_ret
      exact ⟨val_u64 (by rw [hw.out]; rfl), (Below.refl _ _).alloc (Nat.le_refl _) _⟩

set_option maxRecDepth 100000 in
theorem rword_any (i : Bool) (c : Int) (w : World) :
    Calls Try.prog 101 #[.agg #[.bool i, .int .i64 c]] w fun e w' => e = .returned (.int .u64 (wordOf i c : Nat)) ∧ Below w.heap.size w w' := by
  by_cases h : 0 < c ∧ c < 64
  · obtain ⟨h0, h1⟩ := h
    have hw := Lib.hid (word_in i c (by omega) (by omega))
    cases i
    · go_enter Try.func101, Try.ntmps101
      go_wp2
      go_ret
      exact ⟨val_u64 (by rw [hw.out]; simp), (Below.refl _ _).alloc (Nat.le_refl _) _⟩
    · go_enter Try.func101, Try.ntmps101
      go_wp2
      go_ret
      exact ⟨val_u64 (by rw [hw.out]; simp), (Below.refl _ _).alloc (Nat.le_refl _) _⟩
  · have hw : Hid (((wordOf i c : Nat) : Int) = if i then 9223372036854775808 else 0) := by
      show _ = _
      by_cases hc : c = 0
      · subst hc; rw [word_in i 0 (by omega) (by omega)]; simp
      · exact word_out i c (by omega)
    have hz : c ≤ 0 ∨ 63 < c := by omega
    clear h
    rcases hz with hz | hz <;> cases i
    all_goals
      go_enter Try.func101, Try.ntmps101
      go_wp2
      go_ret
      exact ⟨val_u64 (by rw [hw.out]; rfl), (Below.refl _ _).alloc (Nat.le_refl _) _⟩
end Go.Proofs.Ythkkfdhgpaonjaa
