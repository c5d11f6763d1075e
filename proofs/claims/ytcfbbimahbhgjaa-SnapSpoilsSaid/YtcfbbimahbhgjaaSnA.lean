/- Snap: bytes as lists, in memory; slices of the call's own, and what is appended to them. -/
import Derived.Test.YtcfbbimahbhgjaaProg
import Derived.Test.YtcfbbimahbhgjaaFr
import Derived.Maps.AppendAt
import Derived.Deep.AppendSrc
import Derived.Lib.Hide
namespace Go.Proofs.Ytcfbbimahbhgjaa
open Go.RowKit
set_option linter.unusedSimpArgs false
set_option linter.unusedVariables false

theorem info_u8 : (Try.prog.info? 5).map (fun i => (i.zero, i.size, i.bytes)) = some (some (.int .u8 0), 1, 1) := by kernel_rfl
/-- Bytes, as cells. -/
def bc (l : List Nat) : List Value := l.map fun (x : Nat) => Value.int .u8 (x : Int)
theorem bc_len (l : List Nat) : (bc l).length = l.length := List.length_map ..
theorem bc_app (l m : List Nat) : bc (l ++ m) = bc l ++ bc m := List.map_append ..
theorem bc_one (l : List Nat) : ∀ u ∈ bc l, u.oneCell' = true := by
  intro u hu
  obtain ⟨x, _, rfl⟩ := List.mem_map.1 hu
  rfl
theorem bc_get {l : List Nat} {j : Nat} {u : Value} (h : (bc l)[j]? = some u) : ∃ x : Nat, l[j]? = some x ∧ u = .int .u8 (x : Int) := by
  unfold bc at h
  rw [List.getElem?_map] at h
  cases hl : l[j]? with
  | none => rw [hl] at h; cases h
  | some x => rw [hl] at h; exact ⟨x, rfl, by simpa using h.symm⟩
/-- A list of bytes lies at an address. -/
def BL (w : World) (a : Option Addr) (l : List Nat) : Prop := ∀ (i x : Nat), l[i]? = some x → ∃ ad, a = some ad ∧ ad.block < w.heap.size ∧ w.cell? (ad.add i) = some (.int .u8 (x : Int))
theorem add_blk (ad : Addr) (i : Nat) : (ad.add i).block = ad.block := by unfold Addr.add; split <;> rfl
theorem BL.same {w w' : World} {a : Option Addr} {l : List Nat} (h : BL w a l) (hs : w.heap.size ≤ w'.heap.size) (hb : ∀ ad, a = some ad → ad.block < w.heap.size → 0 < l.length → w'.heap[ad.block]? = w.heap[ad.block]?) : BL w' a l := by
  intro i x hx
  obtain ⟨ad, e, hl, hc⟩ := h i x hx
  have h0 : 0 < l.length := by have := (List.getElem?_eq_some_iff.1 hx).1; omega
  exact ⟨ad, e, Nat.lt_of_lt_of_le hl hs, (World.cell?_of_block (by rw [add_blk]; exact hb ad e hl h0)).trans hc⟩
theorem BL.keep {w w' : World} {a : Option Addr} {l : List Nat} (h : BL w a l) (hb : Below w.heap.size w w') : BL w' a l := h.same hb.size fun ad _ hl _ => hb.block _ hl
theorem BL.fr {w0 w : World} {B : Nat} {a : Option Addr} {l : List Nat} (h : BL w0 a l) (hB : B = w0.heap.size) (hf : Fr B w0 w) : BL w a l := by subst hB; exact h.keep hf.1
theorem BL.cell {w : World} {a : Option Addr} {l : List Nat} (h : BL w a l) {i : Nat} (hi : i < l.length) : ∃ ad x, a = some ad ∧ l[i]? = some x ∧ w.cell? (ad.add i) = some (.int .u8 (x : Int)) := by
  have hx : l[i]? = some l[i] := List.getElem?_eq_getElem hi
  obtain ⟨ad, e, _, hc⟩ := h i _ hx
  exact ⟨ad, _, e, hx, hc⟩
/-- A slice of the call's own: no cell of its row is frozen (a mark may stand behind the cells). -/
def OwnM (w : World) (base : Nat) (a : Option Addr) (n cap : Nat) (xs : List Value) : Prop :=
  (a = none ∧ n = 0 ∧ cap = 0 ∧ xs = []) ∨ ∃ g cur fz, a = some ⟨g, 0, none⟩ ∧ base ≤ g ∧ w.heap[g]? = some (.cells cur 5 fz) ∧ (fz.1 = fz.2 ∨ cap ≤ fz.1) ∧ n ≤ cap ∧ cap ≤ maxLen ∧ cur.size = cap ∧ cur.toList.take n = xs
def OB (w : World) (base : Nat) (a : Option Addr) (n cap : Nat) (l : List Nat) : Prop := l.length = n ∧ OwnM w base a n cap (bc l)
def ob : Option Addr → Option Nat
  | some ad => some ad.block
  | none => none
theorem ob_eq (a : Option Addr) (n cap : Nat) : (Value.slice a n cap).ownBlock = ob a := by cases a <;> rfl
theorem OB.row {w : World} {base n cap : Nat} {a : Option Addr} {l : List Nat} (hl : l.length = n) (h : w.ownsRow base 5 1 (.slice a n cap) n (bc l)) : OB w base a n cap l := by
  obtain ⟨_, hv | ⟨g, cap', cur, hv, hb, hh, hle, hm, hz, ht⟩⟩ := h
  · obtain ⟨hv, h0⟩ := hv
    simp only [Value.slice.injEq] at hv
    obtain ⟨rfl, rfl, rfl⟩ := hv
    exact ⟨hl, .inl ⟨rfl, rfl, rfl, by rw [List.eq_nil_of_length_eq_zero hl]; rfl⟩⟩
  · simp only [Value.slice.injEq] at hv
    obtain ⟨rfl, _, rfl⟩ := hv
    exact ⟨hl, .inr ⟨g, cur, (0, 0), rfl, hb, hh, .inl rfl, hle, hm, by omega, by rwa [Nat.mul_one] at ht⟩⟩
theorem OB.cases {w : World} {base n cap : Nat} {a : Option Addr} {l : List Nat} (h : OB w base a n cap l) : (a = none ∧ n = 0 ∧ cap = 0 ∧ l = []) ∨ ∃ g, a = some ⟨g, 0, none⟩ ∧ base ≤ g ∧ g < w.heap.size ∧ n ≤ cap := by
  obtain ⟨hl, ⟨rfl, rfl, rfl, _⟩ | ⟨g, cur, fz, rfl, hb, hh, _, hle, _⟩⟩ := h
  · exact .inl ⟨rfl, rfl, rfl, List.eq_nil_of_length_eq_zero hl⟩
  · exact .inr ⟨g, rfl, hb, lt_of_at hh, hle⟩
theorem OB.lt {w : World} {base n cap : Nat} {a : Option Addr} {l : List Nat} (h : OB w base a n cap l) {g : Nat} (hg : ob a = some g) : base ≤ g ∧ g < w.heap.size := by
  rcases h.cases with ⟨rfl, _⟩ | ⟨g', rfl, h1, h2, _⟩
  · cases hg
  · cases hg; exact ⟨h1, h2⟩
theorem OB.nil (w : World) (base : Nat) : OB w base none 0 0 [] := ⟨rfl, .inl ⟨rfl, rfl, rfl, rfl⟩⟩
theorem OB.base {w : World} {base base' n cap : Nat} {a : Option Addr} {l : List Nat} (h : OB w base a n cap l) (hb : base' ≤ base) : OB w base' a n cap l := by
  obtain ⟨hl, h1 | ⟨g, cur, fz, hv, hb1, hh⟩⟩ := h
  · exact ⟨hl, .inl h1⟩
  · exact ⟨hl, .inr ⟨g, cur, fz, hv, Nat.le_trans hb hb1, hh⟩⟩
theorem OB.same {w w' : World} {base n cap : Nat} {a : Option Addr} {l : List Nat} (h : OB w base a n cap l) (hb : ∀ g, ob a = some g → w'.heap[g]? = w.heap[g]?) : OB w' base a n cap l := by
  obtain ⟨hl, h1 | ⟨g, cur, fz, rfl, hb1, hh, hr⟩⟩ := h
  · exact ⟨hl, .inl h1⟩
  · exact ⟨hl, .inr ⟨g, cur, fz, rfl, hb1, by rw [hb g rfl]; exact hh, hr⟩⟩
theorem OB.keep {w w' : World} {base n cap : Nat} {a : Option Addr} {l : List Nat} (h : OB w base a n cap l) (hb : Below w.heap.size w w') : OB w' base a n cap l := h.same fun g hg => hb.block g (h.lt hg).2
theorem add0 (g i : Nat) : (⟨g, 0, none⟩ : Addr).add i = ⟨g, i, none⟩ := by unfold Addr.add; split <;> simp_all
theorem own_get {cur : Array Value} {n j : Nat} {xs : List Value} {u : Value} (h : cur.toList.take n = xs) (hu : xs[j]? = some u) : cur[j]? = some u := by
  rw [← h, List.getElem?_take] at hu
  split at hu
  · rwa [Array.getElem?_toList] at hu
  · cases hu
theorem OB.bl {w : World} {base n cap : Nat} {a : Option Addr} {l : List Nat} (h : OB w base a n cap l) : BL w a l := by
  intro i x hx
  obtain ⟨hl, ⟨_, _, _, e⟩ | ⟨g, cur, fz, rfl, hb1, hh, _, _, _, _, ht⟩⟩ := h
  · cases l with
    | nil => simp at hx
    | cons _ _ => cases e
  · have hi : (bc l)[i]? = some (.int .u8 (x : Int)) := by unfold bc; rw [List.getElem?_map, hx]; rfl
    exact ⟨_, rfl, lt_of_at hh, by rw [add0, cell_at hh]; exact own_get ht hi⟩
theorem storeCells_nil (P : Program) (w : World) (a : Addr) : (storeCells a []).run P w = .ok () w := by simp [storeCells]
theorem run_append_zero {w : World} {base n cap : Nat} {a : Option Addr} {l : List Nat} (h : OB w base a n cap l) (xa : Option Addr) (xc : Nat) (ty : TypeId) :
    (Builtin.append_ #[29, 29] ty #[.slice a n cap, .slice xa 0 xc]).run Try.prog w = .ok (.slice a n cap) w := by
  obtain ⟨i, hi, hz0, hz1, hz2⟩ := info_parts info_u8
  have hk := Try.underlying29
  have hs : Src Try.prog i.size 29 (.slice xa 0 xc) 0 [] w := by
    cases xa with
    | none => exact Src.ofNil w hk xc
    | some ad => exact Src.ofSlice w hk ad 0 xc [] (by simp) (fun j u hu => by simp at hu) (fun u hu => by cases hu)
  have hle : n ≤ cap := by
    rcases h.cases with ⟨_, rfl, rfl, _⟩ | ⟨g, _, _, _, hle⟩
    · exact Nat.le_refl _
    · exact hle
  have hc := hs.cells
  rcases h.cases with ⟨rfl, rfl, rfl, _⟩ | ⟨g, rfl, _, _, _⟩
  · simp [Builtin.append_, run_underlying hk, sizeOf, typeInfo, hi, Builtin.lenOf, hc]
  · simp [Builtin.append_, run_underlying hk, sizeOf, typeInfo, hi, Builtin.lenOf, hc, hle, storeCells_nil]
/-- Cells are laid into a row of which none is frozen: place by place. -/
theorem store_row (P : Program) (g : Nat) (t : TypeId) (fz : Nat × Nat) : ∀ (vs : List Value) (o i : Nat) (cur : Array Value) (w : World), w.heap[g]? = some (.cells cur t fz) → (fz.1 = fz.2 ∨ cur.size ≤ fz.1) → o + i + vs.length ≤ cur.size → (∀ v ∈ vs, v.oneCell' = true) →
    ∃ cur', (storeCells ⟨g, o, none⟩ vs i).run P w = .ok () (w.setRow g cur') ∧ cur'.size = cur.size ∧ ∀ j, cur'[j]? = if o + i ≤ j ∧ j < o + i + vs.length then vs[j - (o + i)]? else cur[j]?
  | [], o, i, cur, w, hg, _, _, _ => ⟨cur, by rw [setRow_self w g cur t fz hg]; rfl, rfl, fun j => by rw [if_neg (by simp)]⟩
  | v :: rest, o, i, cur, w, hg, hfz, hl, h1 => by
    simp only [List.length_cons] at hl
    have hi : o + i < cur.size := by omega
    have hadd : (⟨g, o, none⟩ : Addr).add i = ⟨g, o + i, none⟩ := by unfold Addr.add; split <;> simp_all
    have hc : w.cell? ⟨g, o + i, none⟩ = some cur[o + i] := by rw [cell_at hg]; exact Array.getElem?_eq_getElem hi
    have hf : w.frozen? ⟨g, o + i, none⟩ = false := by
      simp only [World.frozen?, hg, Bool.and_eq_false_iff, decide_eq_false_iff_not]
      omega
    have hst : (store ((⟨g, o, none⟩ : Addr).add i) v).run P w = .ok () (w.setRow g (cur.setIfInBounds (o + i) v)) := by
      rw [hadd, run_store P w _ v _ (h1 v (by simp)), hc]
      simp [hf, setCell_eq_setRow w g (o + i) cur t fz v hg]
    obtain ⟨cur', hr, hs, hj⟩ := store_row P g t fz rest o (i + 1) (cur.setIfInBounds (o + i) v) (w.setRow g (cur.setIfInBounds (o + i) v)) (setRow_heap w g cur _ t _ hg) (by simpa using hfz) (by simp; omega) (fun x hx => h1 x (by simp [hx]))
    refine ⟨cur', ?_, by rw [hs]; simp, fun j => ?_⟩
    · simp only [storeCells, Sem.run_bind, hst, Result.andThen_ok, hr, setRow_setRow]
    · rw [hj j, List.length_cons]
      by_cases hja : j = o + i
      · subst hja
        rw [if_neg (by omega), if_pos (by omega)]
        simp [hi]
      · by_cases hjb : o + (i + 1) ≤ j ∧ j < o + (i + 1) + rest.length
        · rw [if_pos hjb, if_pos (by omega)]
          rw [show j - (o + i) = (j - (o + (i + 1))) + 1 by omega]
          rfl
        · rw [if_neg hjb, if_neg (by omega)]
          rw [Array.getElem?_setIfInBounds_ne (by omega)]
theorem run_append_b {w : World} {base n cap : Nat} {a : Option Addr} {l : List Nat} (h : OB w base a n cap l) (xa : Option Addr) (m xc : Nat) (ml : List Nat) (ty : TypeId) (hm : ml.length = m) (hx : BL w xa ml) (hl : n + m ≤ 1000000000) (hb : base ≤ w.heap.size) :
    ∃ a' cap' w', (Builtin.append_ #[29, 29] ty #[.slice a n cap, .slice xa m xc]).run Try.prog w = .ok (.slice a' (n + m) cap') w' ∧ OB w' base a' (n + m) cap' (l ++ ml) ∧ w.grownBy w' (ob a) ∧ (ob a' = ob a ∨ ob a' = some w.heap.size) := by
  by_cases h0 : m = 0
  · subst h0
    have e : ml = [] := List.eq_nil_of_length_eq_zero hm
    subst e
    exact ⟨a, cap, w, run_append_zero h xa xc ty, by rw [List.append_nil]; exact h, ⟨rfl, rfl, rfl, Nat.le_refl _, fun _ _ _ => rfl⟩, .inl rfl⟩
  · obtain ⟨i, hi, hz0, hz1, hz2⟩ := info_parts info_u8
    obtain ⟨ad, x, rfl, _, _⟩ := hx.cell (i := 0) (by omega)
    have hk := Try.underlying29
    have hnews : ∀ j u, (bc ml)[j]? = some u → w.cell? (ad.add j) = some u := fun j u hu => by
      obtain ⟨y, hy, rfl⟩ := bc_get hu
      obtain ⟨ad', e, _, hc⟩ := hx j y hy
      cases e
      exact hc
    have hlen : (bc l ++ bc ml).length = n + m := by rw [List.length_append, bc_len, bc_len, h.1, hm]
    have hll : (l ++ ml).length = n + m := by rw [List.length_append, h.1, hm]
    obtain ⟨hl1, ⟨rfl, rfl, rfl, e0⟩ | ⟨g, cur, fz, rfl, hbg, hg, hfz, hnc, hcm, hcs, ht⟩⟩ := h
    · have e : l = [] := List.eq_nil_of_length_eq_zero hl1
      subst e
      have hr := run_append_nil (P := Try.prog) w 29 ty 5 i (.int .u8 0) hk hi hz0 ad m xc (bc ml) (by rw [bc_len, hm, hz1, Nat.mul_one]) hnews (by omega) (by omega) (by rw [hz2]; omega)
      rw [Nat.zero_add]
      refine ⟨_, _, _, hr, ⟨by simpa using hm, .inr ⟨w.heap.size, _, (0, 0), rfl, hb, heap_alloc_new w.drew _, .inl rfl, grownCap_ge .., grownCap_le_maxLen _ _ _ _ (by unfold maxLen; omega), ?_, ?_⟩⟩, ⟨rfl, rfl, rfl, by simp, fun k hk _ => heap_alloc_old w.drew _ hk⟩, .inr rfl⟩
      · have hge := grownCap_ge w m 0 5
        have hz1' : (Value.int IntKind.u8 0).cells.size = 1 := rfl
        simp only [Array.size_append, List.size_toArray, size_zeroCells, hz1', bc_len, hm, List.size_toArray, List.length_nil, Array.size_empty]
        omega
      · rw [List.nil_append]
        have e5 : m = (bc ml).length := by rw [bc_len, hm]
        simp only [Array.toList_append, Array.empty_append, List.nil_append]
        rw [e5]
        exact List.take_left
    · by_cases hroom : n + m ≤ cap
      · have hf := run_firstCells_some (P := Try.prog) w i.size m ad m xc (bc ml) (by rw [bc_len, hm, hz1, Nat.mul_one]) hnews
        obtain ⟨cur', hst, hs', hj⟩ := store_row Try.prog g 5 fz (bc ml) n 0 cur w hg (by rw [hcs]; exact hfz) (by rw [bc_len, hm, hcs]; omega) (bc_one ml)
        simp only [Nat.add_zero] at hst hj
        rw [bc_len, hm] at hj
        have hr : (Builtin.append_ #[29, 29] ty #[.slice (some ⟨g, 0, none⟩) n cap, .slice (some ad) m xc]).run Try.prog w = .ok (.slice (some ⟨g, 0, none⟩) (n + m) cap) (w.setRow g cur') := by
          rw [hz1] at hf
          simp [Builtin.append_, run_underlying hk, sizeOf, typeInfo, hi, Builtin.lenOf, hroom, hf, hz1, Addr.add_lit, hst]
        refine ⟨_, _, _, hr, ⟨hll, .inr ⟨g, cur', fz, rfl, hbg, setRow_heap w g cur _ _ _ hg, hfz, hroom, hcm, by rw [hs', hcs], ?_⟩⟩, ⟨rfl, rfl, rfl, by simp [World.setRow], fun k _ hk => setRow_other w g k _ (fun e => hk (by simp [ob, e]))⟩, .inl rfl⟩
        refine List.ext_getElem? fun j => ?_
        rw [List.getElem?_take, bc_app]
        by_cases h1 : j < n + m
        · rw [if_pos h1, Array.getElem?_toList, hj j]
          by_cases h2 : n ≤ j
          · rw [if_pos ⟨h2, h1⟩, List.getElem?_append_right (by rw [bc_len, hl1]; exact h2), bc_len, hl1]
          · rw [if_neg (by omega), List.getElem?_append_left (by rw [bc_len, hl1]; omega), ← ht, List.getElem?_take, if_pos (by omega), Array.getElem?_toList]
        · rw [if_neg h1, List.getElem?_eq_none (by rw [hlen]; omega)]
      · have holds : ∀ j u, (bc l)[j]? = some u → w.cell? ((⟨g, 0, none⟩ : Addr).add j) = some u := fun j u hu => by rw [add0, cell_at hg]; exact own_get ht hu
        have hr := run_append_grow (P := Try.prog) w 29 ty 5 i (.int .u8 0) hk hi hz0 ⟨g, 0, none⟩ n cap (bc l) (by rw [bc_len, hl1, hz1, Nat.mul_one]) holds ad m xc (bc ml) (by rw [bc_len, hm, hz1, Nat.mul_one]) hnews (by omega) (by omega) (growslice_fits (by omega) (by rw [hz2]; omega))
        have hge := grownCap_ge w (n + m) cap 5
        refine ⟨_, _, _, hr, ⟨hll, .inr ⟨w.heap.size, _, (0, 0), rfl, hb, heap_alloc_new w.drew _, .inl rfl, hge, grownCap_le_maxLen _ _ _ _ (by unfold maxLen; omega), ?_, ?_⟩⟩, ⟨rfl, rfl, rfl, by simp, fun k hk _ => heap_alloc_old w.drew _ hk⟩, .inr rfl⟩
        · have hz1' : (Value.int IntKind.u8 0).cells.size = 1 := rfl
          simp only [Array.size_append, List.size_toArray, size_zeroCells, hz1', bc_len, hl1, hm]
          omega
        · simp only [Array.toList_append, List.append_assoc]
          rw [← List.append_assoc, ← hlen, bc_app]
          exact List.take_left
/-- At the list of a plain region's operations. -/
theorem wpList_append_b {ops : Array Oper} {rest : List Oper} {o : Oper} {act : Act} {Q : Exit → Act → World → Prop} (w : World) (hgd : o.guard = none) (s x : Operand)
    (ho : o.op = .call { callee := .builtin .append, args := #[s, x], argTypes := #[29, 29] })
    {base n cap : Nat} {a : Option Addr} {l : List Nat} (hs : act.eval s = .slice a n cap) (hown : OB w base a n cap l) (xa : Option Addr) (m xc : Nat) (ml : List Nat) (hx : act.eval x = .slice xa m xc) (hm : ml.length = m) (hb : BL w xa ml) (hl : n + m ≤ 1000000000) (hbase : base ≤ w.heap.size)
    (h : ∀ a' cap' w', OB w' base a' (n + m) cap' (l ++ ml) → w.grownBy w' (ob a) → (ob a' = ob a ∨ ob a' = some w.heap.size) → wpList Try.prog ops Q rest (act.put o.dst (.slice a' (n + m) cap')) w') : wpList Try.prog ops Q (o :: rest) act w := by
  refine wpList_plain hgd fun K hK => ?_
  obtain ⟨a', cap', w', hr, h2, h3, h4⟩ := run_append_b hown xa m xc ml o.type hm hb hl hbase
  unfold Oper.wp execOp
  simp only [ho, resolve, invoke, builtin, Sem.run_bind, Sem.run_pure, Result.andThen_ok, List.map_toArray, List.map_cons, List.map_nil, hs, hx, hr]
  exact hK _ _ (h a' cap' w' h2 h3 h4)
/-! ## The bytes of numbers. -/
def numL (n : Nat) : List Nat := if n < 128 then [n] else (128 + n % 128) :: numL (n / 128)
termination_by n
decreasing_by omega
theorem numL_lt {n : Nat} (h : n < 128) : numL n = [n] := by rw [numL, if_pos h]
theorem numL_ge {n : Nat} (h : ¬ n < 128) : numL n = (128 + n % 128) :: numL (n / 128) := by rw [numL, if_neg h]
theorem numL_len : ∀ k n, n < 128 ^ (k + 1) → (numL n).length ≤ k + 1
  | 0, n, h => by rw [numL_lt (by simpa using h)]; simp
  | k + 1, n, h => by
    by_cases h1 : n < 128
    · rw [numL_lt h1]; simp
    · rw [numL_ge h1, List.length_cons]
      have := numL_len k (n / 128) (by rw [Nat.pow_succ] at h; omega)
      omega
theorem numL_ten {n : Nat} (h : n < 18446744073709551616) : (numL n).length ≤ 10 := numL_len 9 n (by omega)
theorem numL_pos (n : Nat) : 0 < (numL n).length := by
  by_cases h : n < 128
  · rw [numL_lt h]; simp
  · rw [numL_ge h]; simp
theorem numL_8 : ∀ n, ∀ x ∈ numL n, x < 256 := by
  intro n
  induction n using Nat.strongRecOn with
  | ind n ih =>
    intro x hx
    by_cases h : n < 128
    · rw [numL_lt h] at hx
      simp at hx; omega
    · rw [numL_ge h] at hx
      rcases List.mem_cons.1 hx with rfl | hx
      · omega
      · exact ih (n / 128) (by omega) x hx
end Go.Proofs.Ytcfbbimahbhgjaa
