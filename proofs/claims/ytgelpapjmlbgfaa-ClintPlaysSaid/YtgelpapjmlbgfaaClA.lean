/- The clint's state as cells; clint.New and the document's. -/
import Derived.Test.YtgelpapjmlbgfaaWd
import Derived.Lib.Hide
import Derived.Deep.WholeRow
import Derived.Test.YtgelpapjmlbgfaaChecked
namespace Go.Proofs.Ytgelpapjmlbgfaa
open Go.RowKit
set_option linter.unusedSimpArgs false
set_option linter.unusedVariables false

/-- A clint: harts, time, what each waits for, and the soft lines. -/
structure CS where
  n : Int
  t : Nat
  c : Nat → Nat
  f : Nat → Bool

def cellsC (s : CS) : Array Value := #[.int .i64 s.n, .int .u64 (s.t : Int), .int .u64 (s.c 0 : Int), .int .u64 (s.c 1 : Int), .int .u64 (s.c 2 : Int), .int .u64 (s.c 3 : Int), .int .u64 (s.c 4 : Int), .int .u64 (s.c 5 : Int), .int .u64 (s.c 6 : Int), .int .u64 (s.c 7 : Int),
  .bool (s.f 0), .bool (s.f 1), .bool (s.f 2), .bool (s.f 3), .bool (s.f 4), .bool (s.f 5), .bool (s.f 6), .bool (s.f 7)]

theorem lt8 {h : Nat} (hh : h < 8) : h = 0 ∨ h = 1 ∨ h = 2 ∨ h = 3 ∨ h = 4 ∨ h = 5 ∨ h = 6 ∨ h = 7 := by omega
theorem cellsC_cmp (s : CS) {h : Nat} (hh : h < 8) : (cellsC s)[2 + h]? = some (.int .u64 (s.c h : Int)) := by
  rcases lt8 hh with rfl | rfl | rfl | rfl | rfl | rfl | rfl | rfl <;> rfl
theorem cellsC_soft (s : CS) {h : Nat} (hh : h < 8) : (cellsC s)[10 + h]? = some (.bool (s.f h)) := by
  rcases lt8 hh with rfl | rfl | rfl | rfl | rfl | rfl | rfl | rfl <;> rfl
def setC (s : CS) (h : Nat) (v : Nat) : CS := { s with c := fun i => if i = h then v else s.c i }
def setF (s : CS) (h : Nat) (v : Bool) : CS := { s with f := fun i => if i = h then v else s.f i }
def setT (s : CS) (v : Nat) : CS := { s with t := v }
theorem cellsC_setC (s : CS) {h : Nat} (hh : h < 8) (v : Nat) : (cellsC s).setIfInBounds (2 + h) (.int .u64 (v : Int)) = cellsC (setC s h v) := by
  rcases lt8 hh with rfl | rfl | rfl | rfl | rfl | rfl | rfl | rfl <;> rfl
theorem cellsC_setF (s : CS) {h : Nat} (hh : h < 8) (v : Bool) : (cellsC s).setIfInBounds (10 + h) (.bool v) = cellsC (setF s h v) := by
  rcases lt8 hh with rfl | rfl | rfl | rfl | rfl | rfl | rfl | rfl <;> rfl
theorem cellsC_setT (s : CS) (v : Nat) : (cellsC s).setIfInBounds 1 (.int .u64 (v : Int)) = cellsC (setT s v) := rfl

def zeroC : CS := ⟨0, 0, fun _ => 0, fun _ => false⟩
def newC (n : Int) : CS := if n < 1 ∨ 8 < n then zeroC else ⟨n, 0, fun i => if (i : Int) < n then 18446744073709551615 else 0, fun _ => false⟩

/-- A block that holds a clint: what the walk wants to know of it. -/
theorem knownC {w : World} {b : Nat} {s : CS} {t : TypeId} (h : w.heap[b]? = some (.cells (cellsC s) t)) :
    w.cell? ⟨b, 0, none⟩ = some (.int .i64 s.n) ∧ w.cell? ⟨b, 1, none⟩ = some (.int .u64 (s.t : Int)) ∧ b < w.heap.size ∧ (∀ o, w.frozen? ⟨b, o, none⟩ = false) := by
  refine ⟨by rw [cell_at h]; rfl, by rw [cell_at h]; rfl, lt_of_at h, fun o => by simp [World.frozen?, h]⟩
theorem knownCc {w : World} {b : Nat} {s : CS} {t : TypeId} (h : w.heap[b]? = some (.cells (cellsC s) t)) {i : Nat} (hi : i < 8) : w.cell? ⟨b, 2 + i, none⟩ = some (.int .u64 (s.c i : Int)) := by
  rw [cell_at h]; exact cellsC_cmp s hi
theorem knownCf {w : World} {b : Nat} {s : CS} {t : TypeId} (h : w.heap[b]? = some (.cells (cellsC s) t)) {i : Nat} (hi : i < 8) : w.cell? ⟨b, 10 + i, none⟩ = some (.bool (s.f i)) := by
  rw [cell_at h]; exact cellsC_soft s hi


def partC (n : Int) (k : Nat) : CS := ⟨n, 0, fun i => if i < k then 18446744073709551615 else 0, fun _ => false⟩
theorem partC_step (n : Int) (k : Nat) : setC (partC n k) k 18446744073709551615 = partC n (k + 1) := by
  unfold setC partC
  simp only [CS.mk.injEq, true_and, and_true]
  funext i
  by_cases h : i = k
  · simp [h]
  · by_cases h2 : i < k
    · simp [h, h2, Nat.lt_succ_of_lt h2]
    · simp [h, h2]; omega
theorem partC_end (n : Int) (k : Nat) (hk : (k : Int) = n) (h1 : 1 ≤ n) (h8 : n ≤ 8) : partC n k = newC n := by
  unfold newC partC
  rw [if_neg (by omega)]
  simp only [CS.mk.injEq, true_and, and_true]
  funext i
  by_cases h : i < k
  · rw [if_pos h, if_pos (by omega)]
  · rw [if_neg h, if_neg (by omega)]

theorem cellsC_n0 (n : Int) : (cellsC zeroC).setIfInBounds 0 (.int .i64 n) = cellsC (partC n 0) := rfl
/-- 18, unopened: so that the walk does not unroll a row. -/
def sz18 : Nat := 18
theorem size_cellsC (s : CS) : (cellsC s).size = sz18 := rfl
theorem one_cellsC (s : CS) : (cellsC s).all (·.oneCell') = true := by simp [cellsC, Value.oneCell']
theorem ldC {P : Program} {w : World} {b : Nat} {s : CS} {t : TypeId} (h : w.heap[b]? = some (.cells (cellsC s) t)) : (loadCellsFrom ⟨b, 0, none⟩ 0 sz18 #[]).run P w = .ok (cellsC s) w := by
  have := run_loadCells_list (P := P) w ⟨b, 0, none⟩ (cellsC s).toList (fun j v hv => by
    have hadd : (⟨b, 0, none⟩ : Addr).add j = ⟨b, j, none⟩ := by unfold Addr.add; split <;> simp_all
    rw [hadd, cell_at h]
    simpa using hv)
  exact this
theorem row_at {w : World} {b : Nat} {c : Array Value} {t : TypeId} {f : Nat × Nat} (h : w.heap[b]? = some (.cells c t f)) (c' : Array Value) : (w.setRow b c').heap[b]? = some (.cells c' t f) := by
  simp [World.setRow, Array.getElem?_modify, h]
theorem keep_row {w : World} {b b' : Nat} {o : Obj} (h : w.heap[b']? = some o) (hne : b ≠ b') (c' : Array Value) : (w.setRow b c').heap[b']? = some o := by
  simp [World.setRow, Array.getElem?_modify, h, hne]
theorem Fr.row {B : Nat} {w0 w : World} (h : Fr B w0 w) {b : Nat} (hb : B ≤ b) (c' : Array Value) : Fr B w0 (w.setRow b c') :=
  ⟨⟨h.1.os, h.1.tape, h.1.output, by simpa [World.setRow] using h.1.size, fun j hj => by
      have e := h.1.block j hj
      rw [← e]
      simp [World.setRow, Array.getElem?_modify, show ¬ b = j by omega]⟩, by simpa [World.setRow] using h.2⟩
theorem stC {w : World} {b : Nat} {s : CS} {t : TypeId} (P : Program) (h : w.heap[b]? = some (.cells (cellsC s) t)) (s' : CS) : (storeCells ⟨b, 0, none⟩ (cellsC s').toList).run P w = .ok () (w.setRow b (cellsC s')) := by
  have := run_storeCells_from (P := P) b t (cellsC s').toList 0 (cellsC s) w h (by simp [size_cellsC]) (fun v hv => (Array.all_eq_true_iff_forall_mem.1 (one_cellsC s')) v (by simpa using hv))
  simpa using this

theorem info27 : (Try.prog.info? 27).map (·.size) = some 18 := by kernel_rfl
theorem zero27 (w : World) : (zeroValue 27).run Try.prog w = .ok (.agg (cellsC zeroC)) w := by rw [Try.zeroValue27]; rfl
theorem size27 (w : World) : (sizeOf 27).run Try.prog w = .ok sz18 w := by rw [Try.sizeOf27]; rfl
theorem lv27 {w : World} {b : Nat} {s : CS} {t : TypeId} (h : w.heap[b]? = some (.cells (cellsC s) t)) : (loadVar 27 ⟨b, 0, none⟩).run Try.prog w = .ok (.agg (cellsC s)) w := run_loadVar_row w b _ _ _ _ _ h Try.underlying27 rfl info27
theorem bd27 (w : World) : (Instr.build 27 #[]).run Try.prog w = .ok (.agg (cellsC zeroC)) w := by
  simp [Instr.build, zero27, go_sem]
  rfl
theorem stn27 (w : World) (s s' : CS) : (storeCells ⟨w.heap.size, 0, none⟩ (cellsC s').toList).run Try.prog (w.alloc (.cells (cellsC s) 27)) = .ok () (w.alloc (.cells (cellsC s') 27)) :=
  run_storeCells_new w _ _ _ info27 rfl (one_cellsC s')
theorem stn27_1 (w : World) (o : Obj) (s s' : CS) : (storeCells ⟨w.heap.size + 1, 0, none⟩ (cellsC s').toList).run Try.prog ((w.alloc o).alloc (.cells (cellsC s) 27)) = .ok () ((w.alloc o).alloc (.cells (cellsC s') 27)) := by
  have h := stn27 (w.alloc o) s s'
  have e : (w.alloc o).heap.size = w.heap.size + 1 := by simp
  rw [e] at h
  exact h

theorem info41 : (Try.prog.info? 41).map (·.size) = some 18 := by kernel_rfl
theorem zero41 (w : World) : (zeroValue 41).run Try.prog w = .ok (.agg (cellsC zeroC)) w := by rw [Try.zeroValue41]; rfl
theorem size41 (w : World) : (sizeOf 41).run Try.prog w = .ok sz18 w := by rw [Try.sizeOf41]; rfl
theorem lv41 {w : World} {b : Nat} {s : CS} {t : TypeId} (h : w.heap[b]? = some (.cells (cellsC s) t)) : (loadVar 41 ⟨b, 0, none⟩).run Try.prog w = .ok (.agg (cellsC s)) w := run_loadVar_row w b _ _ _ _ _ h Try.underlying41 rfl info41
theorem bd41 (w : World) : (Instr.build 41 #[]).run Try.prog w = .ok (.agg (cellsC zeroC)) w := by
  simp [Instr.build, zero41, go_sem]
  rfl
theorem stn41 (w : World) (s s' : CS) : (storeCells ⟨w.heap.size, 0, none⟩ (cellsC s').toList).run Try.prog (w.alloc (.cells (cellsC s) 41)) = .ok () (w.alloc (.cells (cellsC s') 41)) :=
  run_storeCells_new w _ _ _ info41 rfl (one_cellsC s')
theorem stn41_1 (w : World) (o : Obj) (s s' : CS) : (storeCells ⟨w.heap.size + 1, 0, none⟩ (cellsC s').toList).run Try.prog ((w.alloc o).alloc (.cells (cellsC s) 41)) = .ok () ((w.alloc o).alloc (.cells (cellsC s') 41)) := by
  have h := stn41 (w.alloc o) s s'
  have e : (w.alloc o).heap.size = w.heap.size + 1 := by simp
  rw [e] at h
  exact h

attribute [local simp high] size27 zero27
set_option maxRecDepth 100000 in
set_option maxHeartbeats 2000000 in
theorem new_none (n : Int) (w : World) (hn : n < 1 ∨ 8 < n) :
    Calls Try.prog 14 #[.int .i64 n] w fun e w' => e = .returned (.agg (cellsC (newC n))) ∧ Below w.heap.size w w' := by
  have H : Hid (newC n = zeroC) := by show _ = _; unfold newC; rw [if_pos hn]
  have l1 := zero27
  have l2 := size27
  have l3 := size_cellsC
  have l4 := stn27
  have l5 := bd27
  by_cases h1 : n < 1
  · go_enter Try.func14, Try.ntmps14
    go_wp2
    refine bodyPost_ret (v := .agg (cellsC zeroC)) (by simp [results, Try.results14, asAddr, lv27 (heap_alloc_new w (.cells (cellsC zeroC) 27))]) rfl ⟨by rw [H.out], ((Fr.refl w).alloc _).1⟩
  · have h2 : 8 < n := by omega
    go_enter Try.func14, Try.ntmps14
    go_wp2
    refine bodyPost_ret (v := .agg (cellsC zeroC)) (by simp [results, Try.results14, asAddr, lv27 (heap_alloc_new w (.cells (cellsC zeroC) 27))]) rfl ⟨by rw [H.out], ((Fr.refl w).alloc _).1⟩

set_option maxRecDepth 100000 in
set_option maxHeartbeats 2000000 in
theorem new_some (n : Int) (w : World) (hn : 1 ≤ n) (h8 : n ≤ 8) :
    Calls Try.prog 14 #[.int .i64 n] w fun e w' => e = .returned (.agg (cellsC (newC n))) ∧ Below w.heap.size w w' := by
  have l1 := zero27
  have l2 := size27
  have l3 := size_cellsC
  have l4 := stn27_1
  have l6 := cellsC_n0
  have d1 : decide (n < 1) = false := by simp; omega
  have d2 : decide (8 < n) = false := by simp; omega
  go_enter Try.func14, Try.ntmps14
  go_wp2
  obtain ⟨w1, hw1⟩ : ∃ w1, w1 = (w.alloc (.cells (cellsC zeroC) 27)).alloc (.cells (cellsC (partC n 0)) 27) := ⟨_, rfl⟩
  have hf : Fr w.heap.size w w1 := by rw [hw1]; exact ((Fr.refl w).alloc _).alloc _
  have h0 : w1.heap[w.heap.size]? = some (.cells (cellsC zeroC) 27) := by rw [hw1]; exact keep_alloc (heap_alloc_new _ _) _
  have h1 : w1.heap[w.heap.size + 1]? = some (.cells (cellsC (partC n 0)) 27) := by rw [hw1]; simpa using heap_alloc_new (w.alloc (.cells (cellsC zeroC) 27)) (.cells (cellsC (partC n 0)) 27)
  rw [← hw1]
  clear hw1 l1 l4 l6
  go_loopw [15] (fun i wr => ∃ k : Nat, (k : Int) ≤ n ∧ i = .int .i64 k ∧ Fr w.heap.size w wr ∧ wr.heap[w.heap.size]? = some (.cells (cellsC zeroC) 27) ∧ wr.heap[w.heap.size + 1]? = some (.cells (cellsC (partC n k)) 27)) (fun i _ => 8 - (intOf i).toNat)
  case atStart => exact ⟨0, by omega, rfl, hf, h0, h1⟩
  case round =>
    obtain ⟨k, hk, rfl, hfr, hr0, hr1⟩ := hrel
    by_cases hlt : (k : Int) < n
    · have hk8 : k < 8 := by omega
      have hc := knownCc hr1 hk8
      obtain ⟨-, -, hlt1, hfz⟩ := knownC hr1
      have e1 := set_at hr1 (2 + k) (.int .u64 ((18446744073709551615 : Nat) : Int))
      rw [cellsC_setC _ hk8, partC_step] at e1
      have e0 := keep_setCell hr0 (p := ⟨w.heap.size + 1, 2 + k, none⟩) (by simp) (.int .u64 ((18446744073709551615 : Nat) : Int))
      have ef := hfr.setCell (p := ⟨w.heap.size + 1, 2 + k, none⟩) (by simp) (.int .u64 ((18446744073709551615 : Nat) : Int))
      have E0 := Lib.hid e0
      have E1 := Lib.hid e1
      have EF := Lib.hid ef
      clear e0 e1 ef
      go_wp2
      go_roundw
      case rel => exact ⟨k + 1, by omega, by go_num, EF.out, E0.out, E1.out⟩
      case measure => simp [intOf]; omega
    · have hkn : (k : Int) = n := by omega
      have hl := ldC (P := Try.prog) hr1
      have hs := stC Try.prog hr0 (partC n k)
      go_wp2
      have e2 := row_at hr0 (cellsC (partC n k))
      refine bodyPost_ret (v := .agg (cellsC (partC n k))) (by simp [results, Try.results14, asAddr, lv27 e2]) rfl ⟨by rw [partC_end n k hkn hn h8], (hfr.row (Nat.le_refl _) _).1⟩
theorem new_any (n : Int) (w : World) :
    Calls Try.prog 14 #[.int .i64 n] w fun e w' => e = .returned (.agg (cellsC (newC n))) ∧ Below w.heap.size w w' := by
  by_cases h : n < 1 ∨ 8 < n
  · exact new_none n w h
  · exact new_some n w (by omega) (by omega)
end Go.Proofs.Ytgelpapjmlbgfaa
