/- Snap: bytes as lists, in memory; slices of the call's own, and what is appended to them. -/
import Derived.Test.YtcfbbimahbhgjaaProg
import Derived.Test.YtcfbbimahbhgjaaFr
import Derived.Maps.AppendAt
import Derived.Deep.AppendSrc
import Derived.Lib.Hide
namespace Go.Proofs.Ytcfbbimahbhgjaa
open Go.RowKit
set_option linter.unusedSimpArgs false
set_option linter.unusedVariables false

theorem info_u8 : (Try.prog.info? 5).map (fun i => (i.zero, i.size, i.bytes)) = some (some (.int .u8 0), 1, 1) := by kernel_rfl
/-- Bytes, as cells. -/
def bc (l : List Nat) : List Value := l.map fun (x : Nat) => Value.int .u8 (x : Int)
theorem bc_len (l : List Nat) : (bc l).length = l.length := List.length_map ..
theorem bc_app (l m : List Nat) : bc (l ++ m) = bc l ++ bc m := List.map_append ..
theorem bc_one (l : List Nat) : ∀ u ∈ bc l, u.oneCell' = true := by
  intro u hu
  obtain ⟨x, _, rfl⟩ := List.mem_map.1 hu
  rfl
theorem bc_get {l : List Nat} {j : Nat} {u : Value} (h : (bc l)[j]? = some u) : ∃ x : Nat, l[j]? = some x ∧ u = .int .u8 (x : Int) := by
  unfold bc at h
  rw [List.getElem?_map] at h
  cases hl : l[j]? with
  | none => rw [hl] at h; cases h
  | some x => rw [hl] at h; exact ⟨x, rfl, by simpa using h.symm⟩
/-- A list of bytes lies at an address. -/
def BL (w : World) (a : Option Addr) (l : List Nat) : Prop := ∀ (i x : Nat), l[i]? = some x → ∃ ad, a = some ad ∧ ad.block < w.heap.size ∧ w.cell? (ad.add i) = some (.int .u8 (x : Int))
theorem add_blk (ad : Addr) (i : Nat) : (ad.add i).block = ad.block := by unfold Addr.add; split <;> rfl
theorem BL.same {w w' : World} {a : Option Addr} {l : List Nat} (h : BL w a l) (hs : w.heap.size ≤ w'.heap.size) (hb : ∀ ad, a = some ad → ad.block < w.heap.size → 0 < l.length → w'.heap[ad.block]? = w.heap[ad.block]?) : BL w' a l := by
  intro i x hx
  obtain ⟨ad, e, hl, hc⟩ := h i x hx
  have h0 : 0 < l.length := by have := (List.getElem?_eq_some_iff.1 hx).1; omega
  exact ⟨ad, e, Nat.lt_of_lt_of_le hl hs, (World.cell?_of_block (by rw [add_blk]; exact hb ad e hl h0)).trans hc⟩
theorem BL.keep {w w' : World} {a : Option Addr} {l : List Nat} (h : BL w a l) (hb : Below w.heap.size w w') : BL w' a l := h.same hb.size fun ad _ hl _ => hb.block _ hl
theorem BL.fr {w0 w : World} {B : Nat} {a : Option Addr} {l : List Nat} (h : BL w0 a l) (hB : B = w0.heap.size) (hf : Fr B w0 w) : BL w a l := by subst hB; exact h.keep hf.1
theorem BL.cell {w : World} {a : Option Addr} {l : List Nat} (h : BL w a l) {i : Nat} (hi : i < l.length) : ∃ ad x, a = some ad ∧ l[i]? = some x ∧ w.cell? (ad.add i) = some (.int .u8 (x : Int)) := by
  have hx : l[i]? = some l[i] := List.getElem?_eq_getElem hi
  obtain ⟨ad, e, _, hc⟩ := h i _ hx
  exact ⟨ad, _, e, hx, hc⟩
/-- A slice of the call's own. -/
def OB (w : World) (base : Nat) (a : Option Addr) (n cap : Nat) (l : List Nat) : Prop := l.length = n ∧ w.ownsRow base 5 1 (.slice a n cap) n (bc l)
def ob : Option Addr → Option Nat
  | some ad => some ad.block
  | none => none
theorem ob_eq (a : Option Addr) (n cap : Nat) : (Value.slice a n cap).ownBlock = ob a := by cases a <;> rfl
theorem OB.cases {w : World} {base n cap : Nat} {a : Option Addr} {l : List Nat} (h : OB w base a n cap l) : (a = none ∧ n = 0 ∧ cap = 0 ∧ l = []) ∨ ∃ g, a = some ⟨g, 0, none⟩ ∧ base ≤ g ∧ g < w.heap.size ∧ n ≤ cap := by
  obtain ⟨hl, _, hv | ⟨g, cap', cur, hv, hb, hh, hle, _⟩⟩ := h
  · obtain ⟨hv, h0⟩ := hv
    simp only [Value.slice.injEq] at hv
    obtain ⟨rfl, rfl, rfl⟩ := hv
    exact .inl ⟨rfl, rfl, rfl, List.eq_nil_of_length_eq_zero hl⟩
  · simp only [Value.slice.injEq] at hv
    obtain ⟨rfl, _, rfl⟩ := hv
    exact .inr ⟨g, rfl, hb, lt_of_at hh, hle⟩
theorem OB.lt {w : World} {base n cap : Nat} {a : Option Addr} {l : List Nat} (h : OB w base a n cap l) {g : Nat} (hg : ob a = some g) : base ≤ g ∧ g < w.heap.size := by
  rcases h.cases with ⟨rfl, _⟩ | ⟨g', rfl, h1, h2, _⟩
  · cases hg
  · cases hg; exact ⟨h1, h2⟩
theorem OB.nil (w : World) (base : Nat) : OB w base none 0 0 [] := ⟨rfl, World.ownsRow_nil _ _ _ _⟩
theorem OB.base {w : World} {base base' n cap : Nat} {a : Option Addr} {l : List Nat} (h : OB w base a n cap l) (hb : base' ≤ base) : OB w base' a n cap l := by
  obtain ⟨hl, h1, hv | ⟨g, cap', cur, hv, hb1, hh⟩⟩ := h
  · exact ⟨hl, h1, .inl hv⟩
  · exact ⟨hl, h1, .inr ⟨g, cap', cur, hv, Nat.le_trans hb hb1, hh⟩⟩
theorem OB.same {w w' : World} {base n cap : Nat} {a : Option Addr} {l : List Nat} (h : OB w base a n cap l) (hb : ∀ g, ob a = some g → w'.heap[g]? = w.heap[g]?) : OB w' base a n cap l := by
  obtain ⟨hl, h1, hv | ⟨g, cap', cur, hv, hb1, hh, hr⟩⟩ := h
  · exact ⟨hl, h1, .inl hv⟩
  · refine ⟨hl, h1, .inr ⟨g, cap', cur, hv, hb1, ?_, hr⟩⟩
    simp only [Value.slice.injEq] at hv
    obtain ⟨rfl, _, rfl⟩ := hv
    rw [hb g rfl]; exact hh
theorem OB.keep {w w' : World} {base n cap : Nat} {a : Option Addr} {l : List Nat} (h : OB w base a n cap l) (hb : Below w.heap.size w w') : OB w' base a n cap l := h.same fun g hg => hb.block g (h.lt hg).2
theorem OB.bl {w : World} {base n cap : Nat} {a : Option Addr} {l : List Nat} (h : OB w base a n cap l) : BL w a l := by
  intro i x hx
  rcases h.cases with ⟨_, _, _, rfl⟩ | ⟨g, rfl, h1, h2, _⟩
  · simp at hx
  · refine ⟨_, rfl, h2, ?_⟩
    have hw := h.2
    have hi : (bc l)[i]? = some (.int .u8 (x : Int)) := by unfold bc; rw [List.getElem?_map, hx]; rfl
    exact hw.cells (g := g) rfl i _ hi
theorem storeCells_nil (P : Program) (w : World) (a : Addr) : (storeCells a []).run P w = .ok () w := by simp [storeCells]
theorem run_append_zero {w : World} {base n cap : Nat} {a : Option Addr} {l : List Nat} (h : OB w base a n cap l) (xa : Option Addr) (xc : Nat) (ty : TypeId) :
    (Builtin.append_ #[29, 29] ty #[.slice a n cap, .slice xa 0 xc]).run Try.prog w = .ok (.slice a n cap) w := by
  obtain ⟨i, hi, hz0, hz1, hz2⟩ := info_parts info_u8
  have hk := Try.underlying29
  have hs : Src Try.prog i.size 29 (.slice xa 0 xc) 0 [] w := by
    cases xa with
    | none => exact Src.ofNil w hk xc
    | some ad => exact Src.ofSlice w hk ad 0 xc [] (by simp) (fun j u hu => by simp at hu) (fun u hu => by cases hu)
  have hle : n ≤ cap := by
    rcases h.cases with ⟨_, rfl, rfl, _⟩ | ⟨g, _, _, _, hle⟩
    · exact Nat.le_refl _
    · exact hle
  have hc := hs.cells
  rcases h.cases with ⟨rfl, rfl, rfl, _⟩ | ⟨g, rfl, _, _, _⟩
  · simp [Builtin.append_, run_underlying hk, sizeOf, typeInfo, hi, Builtin.lenOf, hc]
  · simp [Builtin.append_, run_underlying hk, sizeOf, typeInfo, hi, Builtin.lenOf, hc, hle, storeCells_nil]
theorem run_append_b {w : World} {base n cap : Nat} {a : Option Addr} {l : List Nat} (h : OB w base a n cap l) (xa : Option Addr) (m xc : Nat) (ml : List Nat) (ty : TypeId) (hm : ml.length = m) (hx : BL w xa ml) (hl : n + m ≤ 1000000000) (hb : base ≤ w.heap.size) :
    ∃ a' cap' w', (Builtin.append_ #[29, 29] ty #[.slice a n cap, .slice xa m xc]).run Try.prog w = .ok (.slice a' (n + m) cap') w' ∧ OB w' base a' (n + m) cap' (l ++ ml) ∧ w.grownBy w' (ob a) ∧ (ob a' = ob a ∨ ob a' = some w.heap.size) := by
  by_cases h0 : m = 0
  · subst h0
    have e : ml = [] := List.eq_nil_of_length_eq_zero hm
    subst e
    exact ⟨a, cap, w, run_append_zero h xa xc ty, by rw [List.append_nil]; exact h, ⟨rfl, rfl, rfl, Nat.le_refl _, fun _ _ _ => rfl⟩, .inl rfl⟩
  · obtain ⟨i, hi, hz0, hz1, hz2⟩ := info_parts info_u8
    obtain ⟨ad, x, rfl, _, _⟩ := hx.cell (i := 0) (by omega)
    obtain ⟨v', w', hr, h2, h3, h4, h5⟩ := run_append_own_at (P := Try.prog) w base 29 ty 5 i (.int .u8 0) 1 1 Try.underlying29 hi hz0 hz1 hz2 rfl (by decide) _ n (bc l) h.2 ad m xc (bc ml) (by rw [bc_len, hm, Nat.mul_one])
      (fun j u hu => by
        obtain ⟨y, hy, rfl⟩ := bc_get hu
        obtain ⟨ad', e, _, hc⟩ := hx j y hy
        cases e
        exact hc) (bc_one ml) (by unfold maxLen; omega) (by omega) hb
    rw [ob_eq] at h3 h5
    have hown := h2
    obtain ⟨hh1, hv | ⟨g, cap', cur, hv, hb1, hh⟩⟩ := h2
    · omega
    · subst hv
      rw [ob_eq] at h5
      exact ⟨_, cap', w', hr, ⟨by rw [List.length_append, h.1, hm], by rw [bc_app]; exact hown⟩, h3, h5⟩
/-- At the list of a plain region's operations. -/
theorem wpList_append_b {ops : Array Oper} {rest : List Oper} {o : Oper} {act : Act} {Q : Exit → Act → World → Prop} (w : World) (hgd : o.guard = none) (s x : Operand)
    (ho : o.op = .call { callee := .builtin .append, args := #[s, x], argTypes := #[29, 29] })
    {base n cap : Nat} {a : Option Addr} {l : List Nat} (hs : act.eval s = .slice a n cap) (hown : OB w base a n cap l) (xa : Option Addr) (m xc : Nat) (ml : List Nat) (hx : act.eval x = .slice xa m xc) (hm : ml.length = m) (hb : BL w xa ml) (hl : n + m ≤ 1000000000) (hbase : base ≤ w.heap.size)
    (h : ∀ a' cap' w', OB w' base a' (n + m) cap' (l ++ ml) → w.grownBy w' (ob a) → (ob a' = ob a ∨ ob a' = some w.heap.size) → wpList Try.prog ops Q rest (act.put o.dst (.slice a' (n + m) cap')) w') : wpList Try.prog ops Q (o :: rest) act w := by
  refine wpList_plain hgd fun K hK => ?_
  obtain ⟨a', cap', w', hr, h2, h3, h4⟩ := run_append_b hown xa m xc ml o.type hm hb hl hbase
  unfold Oper.wp execOp
  simp only [ho, resolve, invoke, builtin, Sem.run_bind, Sem.run_pure, Result.andThen_ok, List.map_toArray, List.map_cons, List.map_nil, hs, hx, hr]
  exact hK _ _ (h a' cap' w' h2 h3 h4)
/-! ## The bytes of numbers. -/
def numL (n : Nat) : List Nat := if n < 128 then [n] else (128 + n % 128) :: numL (n / 128)
termination_by n
decreasing_by omega
theorem numL_lt {n : Nat} (h : n < 128) : numL n = [n] := by rw [numL, if_pos h]
theorem numL_ge {n : Nat} (h : ¬ n < 128) : numL n = (128 + n % 128) :: numL (n / 128) := by rw [numL, if_neg h]
theorem numL_len : ∀ k n, n < 128 ^ (k + 1) → (numL n).length ≤ k + 1
  | 0, n, h => by rw [numL_lt (by simpa using h)]; simp
  | k + 1, n, h => by
    by_cases h1 : n < 128
    · rw [numL_lt h1]; simp
    · rw [numL_ge h1, List.length_cons]
      have := numL_len k (n / 128) (by rw [Nat.pow_succ] at h; omega)
      omega
theorem numL_ten {n : Nat} (h : n < 18446744073709551616) : (numL n).length ≤ 10 := numL_len 9 n (by omega)
theorem numL_pos (n : Nat) : 0 < (numL n).length := by
  by_cases h : n < 128
  · rw [numL_lt h]; simp
  · rw [numL_ge h]; simp
theorem numL_8 : ∀ n, ∀ x ∈ numL n, x < 256 := by
  intro n
  induction n using Nat.strongRecOn with
  | ind n ih =>
    intro x hx
    by_cases h : n < 128
    · rw [numL_lt h] at hx
      simp at hx; omega
    · rw [numL_ge h] at hx
      rcases List.mem_cons.1 hx with rfl | hx
      · omega
      · exact ih (n / 128) (by omega) x hx
end Go.Proofs.Ytcfbbimahbhgjaa
