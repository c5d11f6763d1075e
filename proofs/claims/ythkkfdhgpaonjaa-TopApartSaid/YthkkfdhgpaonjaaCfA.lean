/- The CSR file's state as cells, of the program and of the document. Plain. Written by wip/gen_cf.py. -/
import Derived.Test.YthkkfdhgpaonjaaMHeld
import Derived.Lib.Hide
import Derived.Deep.WholeRow
import Derived.Test.YthkkfdhgpaonjaaChecked
namespace Go.Proofs.Ythkkfdhgpaonjaa
open Go.RowKit
set_option linter.unusedSimpArgs false
set_option linter.unusedVariables false

/-- A file: the hart, the words that it has, and whether the counters were written. -/
structure FS where
  hart : Int
  g : Nat → Nat
  cy : Bool
  il : Bool
def own22 : List Int := [261, 262, 320, 321, 322, 323, 384, 768, 770, 771, 772, 773, 774, 832, 833, 834, 835, 836, 1472, 1473, 2816, 2818]
def rowNo : List Int := [256, 260, 261, 262, 320, 321, 322, 323, 324, 384, 768, 769, 770, 771, 772, 773, 774, 832, 833, 834, 835, 836, 1472, 1473, 1474, 2816, 2818, 3072, 3073, 3074, 3857, 3858, 3859, 3860]
/-- Where a row's word stands among the words. -/
def rowIx : List (Option Nat) := [none, none, some 0, some 1, some 2, some 3, some 4, some 5, none, some 6, some 7, none, some 8, some 9, some 10, some 11, some 12, some 13, some 14, some 15, some 16, some 17, some 18, some 19, none, some 20, some 21, none, none, none, none, none, none, none]
def cellsF (s : FS) : Array Value := #[.int .i64 s.hart, .int .u64 (s.g 0 : Int), .int .u64 (s.g 1 : Int), .int .u64 (s.g 2 : Int), .int .u64 (s.g 3 : Int), .int .u64 (s.g 4 : Int), .int .u64 (s.g 5 : Int), .int .u64 (s.g 6 : Int), .int .u64 (s.g 7 : Int), .int .u64 (s.g 8 : Int), .int .u64 (s.g 9 : Int), .int .u64 (s.g 10 : Int), .int .u64 (s.g 11 : Int), .int .u64 (s.g 12 : Int), .int .u64 (s.g 13 : Int), .int .u64 (s.g 14 : Int), .int .u64 (s.g 15 : Int), .int .u64 (s.g 16 : Int), .int .u64 (s.g 17 : Int), .int .u64 (s.g 18 : Int), .int .u64 (s.g 19 : Int), .int .u64 (s.g 20 : Int), .int .u64 (s.g 21 : Int), .bool s.cy, .bool s.il]
def cellsR (s : FS) : Array Value := #[.int .i64 s.hart, .int .u64 ((0 : Nat) : Int), .int .u64 ((0 : Nat) : Int), .int .u64 (s.g 0 : Int), .int .u64 (s.g 1 : Int), .int .u64 (s.g 2 : Int), .int .u64 (s.g 3 : Int), .int .u64 (s.g 4 : Int), .int .u64 (s.g 5 : Int), .int .u64 ((0 : Nat) : Int), .int .u64 (s.g 6 : Int), .int .u64 (s.g 7 : Int), .int .u64 ((0 : Nat) : Int), .int .u64 (s.g 8 : Int), .int .u64 (s.g 9 : Int), .int .u64 (s.g 10 : Int), .int .u64 (s.g 11 : Int), .int .u64 (s.g 12 : Int), .int .u64 (s.g 13 : Int), .int .u64 (s.g 14 : Int), .int .u64 (s.g 15 : Int), .int .u64 (s.g 16 : Int), .int .u64 (s.g 17 : Int), .int .u64 (s.g 18 : Int), .int .u64 (s.g 19 : Int), .int .u64 ((0 : Nat) : Int), .int .u64 (s.g 20 : Int), .int .u64 (s.g 21 : Int), .int .u64 ((0 : Nat) : Int), .int .u64 ((0 : Nat) : Int), .int .u64 ((0 : Nat) : Int), .int .u64 ((0 : Nat) : Int), .int .u64 ((0 : Nat) : Int), .int .u64 ((0 : Nat) : Int), .int .u64 ((0 : Nat) : Int), .bool s.cy, .bool s.il]
theorem lt22 {h : Nat} (hh : h < 22) : h = 0 ∨ h = 1 ∨ h = 2 ∨ h = 3 ∨ h = 4 ∨ h = 5 ∨ h = 6 ∨ h = 7 ∨ h = 8 ∨ h = 9 ∨ h = 10 ∨ h = 11 ∨ h = 12 ∨ h = 13 ∨ h = 14 ∨ h = 15 ∨ h = 16 ∨ h = 17 ∨ h = 18 ∨ h = 19 ∨ h = 20 ∨ h = 21 := by omega
theorem cellsF_g (s : FS) {h : Nat} (hh : h < 22) : (cellsF s)[1 + h]? = some (.int .u64 (s.g h : Int)) := by
  rcases lt22 hh with rfl | rfl | rfl | rfl | rfl | rfl | rfl | rfl | rfl | rfl | rfl | rfl | rfl | rfl | rfl | rfl | rfl | rfl | rfl | rfl | rfl | rfl <;> rfl
def setG (s : FS) (h v : Nat) : FS := { s with g := fun i => if i = h then v else s.g i }
def setCy (s : FS) (q : Bool) : FS := { s with cy := q }
def setIl (s : FS) (q : Bool) : FS := { s with il := q }
theorem cellsF_setG (s : FS) {h : Nat} (hh : h < 22) (v : Nat) : (cellsF s).setIfInBounds (1 + h) (.int .u64 (v : Int)) = cellsF (setG s h v) := by
  rcases lt22 hh with rfl | rfl | rfl | rfl | rfl | rfl | rfl | rfl | rfl | rfl | rfl | rfl | rfl | rfl | rfl | rfl | rfl | rfl | rfl | rfl | rfl | rfl <;> rfl
theorem cellsF_setCy (s : FS) (q : Bool) : (cellsF s).setIfInBounds 23 (.bool q) = cellsF (setCy s q) := rfl
theorem cellsF_setIl (s : FS) (q : Bool) : (cellsF s).setIfInBounds 24 (.bool q) = cellsF (setIl s q) := rfl
theorem lt34 {j : Nat} (hh : j < 34) : j = 0 ∨ j = 1 ∨ j = 2 ∨ j = 3 ∨ j = 4 ∨ j = 5 ∨ j = 6 ∨ j = 7 ∨ j = 8 ∨ j = 9 ∨ j = 10 ∨ j = 11 ∨ j = 12 ∨ j = 13 ∨ j = 14 ∨ j = 15 ∨ j = 16 ∨ j = 17 ∨ j = 18 ∨ j = 19 ∨ j = 20 ∨ j = 21 ∨ j = 22 ∨ j = 23 ∨ j = 24 ∨ j = 25 ∨ j = 26 ∨ j = 27 ∨ j = 28 ∨ j = 29 ∨ j = 30 ∨ j = 31 ∨ j = 32 ∨ j = 33 := by omega
/-- The word of a row. -/
def rowG (s : FS) (j : Nat) : Nat := match rowIx.getD j none with | some i => s.g i | none => 0
theorem cellsR_g (s : FS) {j : Nat} (hh : j < 34) : (cellsR s)[1 + j]? = some (.int .u64 (rowG s j : Int)) := by
  rcases lt34 hh with rfl | rfl | rfl | rfl | rfl | rfl | rfl | rfl | rfl | rfl | rfl | rfl | rfl | rfl | rfl | rfl | rfl | rfl | rfl | rfl | rfl | rfl | rfl | rfl | rfl | rfl | rfl | rfl | rfl | rfl | rfl | rfl | rfl | rfl <;> rfl
theorem cellsR_setG (s : FS) {j h : Nat} (hh : j < 34) (hj : rowIx.getD j none = some h) (v : Nat) : (cellsR s).setIfInBounds (1 + j) (.int .u64 (v : Int)) = cellsR (setG s h v) := by
  rcases lt34 hh with rfl | rfl | rfl | rfl | rfl | rfl | rfl | rfl | rfl | rfl | rfl | rfl | rfl | rfl | rfl | rfl | rfl | rfl | rfl | rfl | rfl | rfl | rfl | rfl | rfl | rfl | rfl | rfl | rfl | rfl | rfl | rfl | rfl | rfl <;> simp [rowIx] at hj <;> subst hj <;> rfl
theorem cellsR_setCy (s : FS) (q : Bool) : (cellsR s).setIfInBounds 35 (.bool q) = cellsR (setCy s q) := rfl
theorem cellsR_setIl (s : FS) (q : Bool) : (cellsR s).setIfInBounds 36 (.bool q) = cellsR (setIl s q) := rfl
def zeroF : FS := ⟨0, fun _ => 0, false, false⟩
def hartF (n : Int) : FS := ⟨n, fun _ => 0, false, false⟩
def newF (n : Int) : FS := setG (hartF n) 7 42949672960
structure OkF (s : FS) : Prop where
  h0 : -9223372036854775808 ≤ s.hart
  h1 : s.hart ≤ 9223372036854775807
  g : ∀ i, s.g i < 18446744073709551616
theorem OkF.setG {s : FS} (ok : OkF s) (h v : Nat) (hv : v < 18446744073709551616) : OkF (setG s h v) :=
  ⟨ok.h0, ok.h1, fun i => by show (if i = h then v else s.g i) < _; split; exact hv; exact ok.g i⟩
theorem OkF.setCy {s : FS} (ok : OkF s) (q : Bool) : OkF (setCy s q) := ⟨ok.h0, ok.h1, ok.g⟩
theorem OkF.setIl {s : FS} (ok : OkF s) (q : Bool) : OkF (setIl s q) := ⟨ok.h0, ok.h1, ok.g⟩
theorem OkF.hart (n : Int) (h0 : -9223372036854775808 ≤ n) (h1 : n ≤ 9223372036854775807) : OkF (hartF n) := ⟨h0, h1, fun _ => by show 0 < _; omega⟩
theorem OkF.new (n : Int) (h0 : -9223372036854775808 ≤ n) (h1 : n ≤ 9223372036854775807) : OkF (newF n) := (OkF.hart n h0 h1).setG 7 _ (by omega)
theorem rowG_lt {s : FS} (ok : OkF s) (j : Nat) : rowG s j < 18446744073709551616 := by
  unfold rowG
  split
  · exact ok.g _
  · omega

theorem knownF {w : World} {b : Nat} {s : FS} {t : TypeId} (h : w.heap[b]? = some (.cells (cellsF s) t)) :
    w.cell? ⟨b, 0, none⟩ = some (.int .i64 s.hart) ∧ w.cell? ⟨b, 23, none⟩ = some (.bool s.cy) ∧ w.cell? ⟨b, 24, none⟩ = some (.bool s.il) ∧ b < w.heap.size ∧ (∀ o, w.frozen? ⟨b, o, none⟩ = false) := by
  refine ⟨by rw [cell_at h]; rfl, by rw [cell_at h]; rfl, by rw [cell_at h]; rfl, lt_of_at h, fun o => by simp [World.frozen?, h]⟩
theorem knownR {w : World} {b : Nat} {s : FS} {t : TypeId} (h : w.heap[b]? = some (.cells (cellsR s) t)) :
    w.cell? ⟨b, 0, none⟩ = some (.int .i64 s.hart) ∧ w.cell? ⟨b, 35, none⟩ = some (.bool s.cy) ∧ w.cell? ⟨b, 36, none⟩ = some (.bool s.il) ∧ b < w.heap.size ∧ (∀ o, w.frozen? ⟨b, o, none⟩ = false) := by
  refine ⟨by rw [cell_at h]; rfl, by rw [cell_at h]; rfl, by rw [cell_at h]; rfl, lt_of_at h, fun o => by simp [World.frozen?, h]⟩
theorem knownFg {w : World} {b : Nat} {s : FS} {t : TypeId} (h : w.heap[b]? = some (.cells (cellsF s) t)) {i : Nat} (hi : i < 22) : w.cell? ⟨b, 1 + i, none⟩ = some (.int .u64 (s.g i : Int)) := by
  rw [cell_at h]; exact cellsF_g s hi
theorem knownRg {w : World} {b : Nat} {s : FS} {t : TypeId} (h : w.heap[b]? = some (.cells (cellsR s) t)) {i : Nat} (hi : i < 34) : w.cell? ⟨b, 1 + i, none⟩ = some (.int .u64 (rowG s i : Int)) := by
  rw [cell_at h]; exact cellsR_g s hi

/-- Sizes, unopened: so that the walk does not unroll a row. -/
def szF : Nat := 25
def szR : Nat := 37
theorem size_cellsF (s : FS) : (cellsF s).size = szF := rfl
theorem size_cellsR (s : FS) : (cellsR s).size = szR := rfl
theorem one_cellsF (s : FS) : (cellsF s).all (·.oneCell') = true := by simp [cellsF, Value.oneCell']
theorem one_cellsR (s : FS) : (cellsR s).all (·.oneCell') = true := by simp [cellsR, Value.oneCell']
theorem ld_row {P : Program} {w : World} {b : Nat} {c : Array Value} {t : TypeId} (h : w.heap[b]? = some (.cells c t)) : (loadCellsFrom ⟨b, 0, none⟩ 0 c.size #[]).run P w = .ok c w := by
  have := run_loadCells_list (P := P) w ⟨b, 0, none⟩ c.toList (fun j v hv => by
    have hadd : (⟨b, 0, none⟩ : Addr).add j = ⟨b, j, none⟩ := by unfold Addr.add; split <;> simp_all
    rw [hadd, cell_at h]
    simpa using hv)
  rw [Array.length_toList] at this
  exact this
theorem row_at {w : World} {b : Nat} {c : Array Value} {t : TypeId} {f : Nat × Nat} (h : w.heap[b]? = some (.cells c t f)) (c' : Array Value) : (w.setRow b c').heap[b]? = some (.cells c' t f) := by
  simp [World.setRow, Array.getElem?_modify, h]
theorem keep_row {w : World} {b b' : Nat} {o : Obj} (h : w.heap[b']? = some o) (hne : b ≠ b') (c' : Array Value) : (w.setRow b c').heap[b']? = some o := by
  simp [World.setRow, Array.getElem?_modify, h, hne]
theorem Fr.row {B : Nat} {w0 w : World} (h : Fr B w0 w) {b : Nat} (hb : B ≤ b) (c' : Array Value) : Fr B w0 (w.setRow b c') :=
  ⟨⟨h.1.os, h.1.tape, h.1.output, by simpa [World.setRow] using h.1.size, fun j hj => by
      have e := h.1.block j hj
      rw [← e]
      simp [World.setRow, Array.getElem?_modify, show ¬ b = j by omega]⟩, by simpa [World.setRow] using h.2⟩
theorem st_row {w : World} {b : Nat} {c c' : Array Value} {t : TypeId} (P : Program) (h : w.heap[b]? = some (.cells c t)) (hs : c.size = c'.size) (h1 : c'.all (·.oneCell') = true) : (storeCells ⟨b, 0, none⟩ c'.toList).run P w = .ok () (w.setRow b c') := by
  have := run_storeCells_from (P := P) b t c'.toList 0 c w h (by simp [hs]) (fun v hv => (Array.all_eq_true_iff_forall_mem.1 h1) v (by simpa using hv))
  simpa [hs] using this
theorem ldF {P : Program} {w : World} {b : Nat} {s : FS} {t : TypeId} (h : w.heap[b]? = some (.cells (cellsF s) t)) : (loadCellsFrom ⟨b, 0, none⟩ 0 szF #[]).run P w = .ok (cellsF s) w := ld_row h
theorem ldR {P : Program} {w : World} {b : Nat} {s : FS} {t : TypeId} (h : w.heap[b]? = some (.cells (cellsR s) t)) : (loadCellsFrom ⟨b, 0, none⟩ 0 szR #[]).run P w = .ok (cellsR s) w := ld_row h
theorem stF {w : World} {b : Nat} {s : FS} {t : TypeId} (P : Program) (h : w.heap[b]? = some (.cells (cellsF s) t)) (s' : FS) : (storeCells ⟨b, 0, none⟩ (cellsF s').toList).run P w = .ok () (w.setRow b (cellsF s')) := st_row P h rfl (one_cellsF s')
theorem stR {w : World} {b : Nat} {s : FS} {t : TypeId} (P : Program) (h : w.heap[b]? = some (.cells (cellsR s) t)) (s' : FS) : (storeCells ⟨b, 0, none⟩ (cellsR s').toList).run P w = .ok () (w.setRow b (cellsR s')) := st_row P h rfl (one_cellsR s')

theorem infoF : (Try.prog.info? 31).map (·.size) = some 25 := by kernel_rfl
theorem zeroFv (w : World) : (zeroValue 31).run Try.prog w = .ok (.agg (cellsF zeroF)) w := by rw [Try.zeroValue31]; rfl
theorem sizeFv (w : World) : (sizeOf 31).run Try.prog w = .ok szF w := by rw [Try.sizeOf31]; rfl
theorem lvF {w : World} {b : Nat} {s : FS} {t : TypeId} (h : w.heap[b]? = some (.cells (cellsF s) t)) : (loadVar 31 ⟨b, 0, none⟩).run Try.prog w = .ok (.agg (cellsF s)) w := run_loadVar_row w b _ _ _ _ _ h Try.underlying31 rfl infoF
theorem bdF (w : World) : (Instr.build 31 #[]).run Try.prog w = .ok (.agg (cellsF zeroF)) w := by
  simp [Instr.build, zeroFv, go_sem]
  rfl
theorem stnF (w : World) (s s' : FS) : (storeCells ⟨w.heap.size, 0, none⟩ (cellsF s').toList).run Try.prog (w.alloc (.cells (cellsF s) 31)) = .ok () (w.alloc (.cells (cellsF s') 31)) :=
  run_storeCells_new w _ _ _ infoF rfl (one_cellsF s')
theorem stnF_1 (w : World) (o : Obj) (s s' : FS) : (storeCells ⟨w.heap.size + 1, 0, none⟩ (cellsF s').toList).run Try.prog ((w.alloc o).alloc (.cells (cellsF s) 31)) = .ok () ((w.alloc o).alloc (.cells (cellsF s') 31)) := by
  have h := stnF (w.alloc o) s s'
  have e : (w.alloc o).heap.size = w.heap.size + 1 := by simp
  rw [e] at h
  exact h
theorem cellsF_hart (n : Int) : (cellsF zeroF).setIfInBounds 0 (.int .i64 n) = cellsF (hartF n) := rfl
theorem infoR : (Try.prog.info? 34).map (·.size) = some 37 := by kernel_rfl
theorem zeroRv (w : World) : (zeroValue 34).run Try.prog w = .ok (.agg (cellsR zeroF)) w := by rw [Try.zeroValue34]; rfl
theorem sizeRv (w : World) : (sizeOf 34).run Try.prog w = .ok szR w := by rw [Try.sizeOf34]; rfl
theorem lvR {w : World} {b : Nat} {s : FS} {t : TypeId} (h : w.heap[b]? = some (.cells (cellsR s) t)) : (loadVar 34 ⟨b, 0, none⟩).run Try.prog w = .ok (.agg (cellsR s)) w := run_loadVar_row w b _ _ _ _ _ h Try.underlying34 rfl infoR
theorem bdR (w : World) : (Instr.build 34 #[]).run Try.prog w = .ok (.agg (cellsR zeroF)) w := by
  simp [Instr.build, zeroRv, go_sem]
  rfl
theorem stnR (w : World) (s s' : FS) : (storeCells ⟨w.heap.size, 0, none⟩ (cellsR s').toList).run Try.prog (w.alloc (.cells (cellsR s) 34)) = .ok () (w.alloc (.cells (cellsR s') 34)) :=
  run_storeCells_new w _ _ _ infoR rfl (one_cellsR s')
theorem stnR_1 (w : World) (o : Obj) (s s' : FS) : (storeCells ⟨w.heap.size + 1, 0, none⟩ (cellsR s').toList).run Try.prog ((w.alloc o).alloc (.cells (cellsR s) 34)) = .ok () ((w.alloc o).alloc (.cells (cellsR s') 34)) := by
  have h := stnR (w.alloc o) s s'
  have e : (w.alloc o).heap.size = w.heap.size + 1 := by simp
  rw [e] at h
  exact h
theorem cellsR_hart (n : Int) : (cellsR zeroF).setIfInBounds 0 (.int .i64 n) = cellsR (hartF n) := rfl

/-- Where a CSR's word stands. -/
def ownIx (n : Int) : Option Nat := own22.findIdx? fun k => k == n
theorem ownIx_hit (n : Int) (k : Nat) (hk : k < 22) (hb : ∀ j, j < k → own22.getD j 0 ≠ n) (h : own22.getD k 0 = n) : ownIx n = some k := by
  unfold ownIx
  rw [List.findIdx?_eq_some_iff_getElem]
  have hl : k < own22.length := hk
  refine ⟨hl, by simpa [List.getD_eq_getElem?_getD, List.getElem?_eq_getElem hl] using h, fun j hj => ?_⟩
  have := hb j hj
  have hl2 : j < own22.length := by omega
  simpa [List.getD_eq_getElem?_getD, List.getElem?_eq_getElem hl2] using this
theorem ownIx_miss (n : Int) (hb : ∀ j, j < 22 → own22.getD j 0 ≠ n) : ownIx n = none := by
  unfold ownIx
  rw [List.findIdx?_eq_none_iff]
  intro x hx
  obtain ⟨j, hj, rfl⟩ := List.getElem_of_mem hx
  have := hb j hj
  simpa [List.getD_eq_getElem?_getD, List.getElem?_eq_getElem hj] using this
theorem ownIx_lt {n : Int} {k : Nat} (h : ownIx n = some k) : k < 22 ∧ own22.getD k 0 = n := by
  unfold ownIx at h
  rw [List.findIdx?_eq_some_iff_getElem] at h
  obtain ⟨hl, h1, _⟩ := h
  refine ⟨hl, ?_⟩
  simpa [List.getD_eq_getElem?_getD, List.getElem?_eq_getElem hl] using h1
def ownCells : Array Value := (own22.map (Value.int .i64)).toArray
theorem ownCells_size : ownCells.size = 22 := rfl
theorem ownCells_get (k : Nat) (hk : k < 22) : ownCells.getD k undef = .int .i64 (own22.getD k 0) := by
  rcases lt22 hk with rfl | rfl | rfl | rfl | rfl | rfl | rfl | rfl | rfl | rfl | rfl | rfl | rfl | rfl | rfl | rfl | rfl | rfl | rfl | rfl | rfl | rfl <;> rfl
def ptrOf (b : Nat) (n : Int) : Value := match ownIx n with | some i => .pointer (some ⟨b, 1 + i, none⟩) | none => .pointer none
end Go.Proofs.Ythkkfdhgpaonjaa
