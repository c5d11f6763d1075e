/- The document's New, Word, best, Line of the plic. -/
import Derived.Test.YtgelpapjmlbgfaaPlJ
import Derived.Deep.RegionHeld3
namespace Go.Proofs.Ytgelpapjmlbgfaa
open Go.RowKit
set_option linter.unusedSimpArgs false
set_option linter.unusedVariables false

theorem infoD : (Try.prog.info? 72).map (·.size) = some 657 := by kernel_rfl
theorem zeroDv (w : World) : (zeroValue 72).run Try.prog w = .ok (.agg (cellsD zeroP)) w := by kernel_rfl
theorem sizeDv (w : World) : (sizeOf 72).run Try.prog w = .ok szD w := by kernel_rfl
theorem sizeBv (w : World) : (sizeOf 62).run Try.prog w = .ok szB w := by kernel_rfl
theorem infoB : (Try.prog.info? 62).map (·.size) = some 32 := by kernel_rfl
theorem lvD {w : World} {b : Nat} {s : PS} {t : TypeId} (h : w.heap[b]? = some (.cells (cellsD s) t)) : (loadVar 72 ⟨b, 0, none⟩).run Try.prog w = .ok (.agg (cellsD s)) w := run_loadVar_row w b _ _ _ _ _ h Try.underlying72 rfl (by rw [infoD, size_cellsD]; rfl)
theorem bdD (w : World) : (Instr.build 72 #[]).run Try.prog w = .ok (.agg (cellsD zeroP)) w := by
  simp [Instr.build, zeroDv, go_sem]
set_option maxRecDepth 100000 in
theorem stnD (w : World) (s s' : PS) : (storeCells ⟨w.heap.size, 0, none⟩ (cellsD s').toList).run Try.prog (w.alloc (.cells (cellsD s) 72)) = .ok () (w.alloc (.cells (cellsD s') 72)) :=
  run_storeCells_new w _ _ _ infoD (by rw [size_cellsD]; rfl) (one_cellsD s')
theorem stnD_1 (w : World) (o : Obj) (s s' : PS) : (storeCells ⟨w.heap.size + 1, 0, none⟩ (cellsD s').toList).run Try.prog ((w.alloc o).alloc (.cells (cellsD s) 72)) = .ok () ((w.alloc o).alloc (.cells (cellsD s') 72)) := by
  have h := stnD (w.alloc o) s s'
  have e : (w.alloc o).heap.size = w.heap.size + 1 := by simp
  rw [e] at h
  exact h
attribute [local simp high] zeroPv sizePv zeroBv zeroDv sizeDv sizeBv
theorem cellsD_n0 (n : Int) : (cellsD zeroP).setIfInBounds 0 (.int .i64 n) = cellsD (setN zeroP n) := D_setN _ _
set_option maxRecDepth 100000 in
set_option maxHeartbeats 2000000 in
theorem rnew_any (n : Int) (w : World) :
    Calls Try.prog 31 #[.int .i64 n] w fun e w' => e = .returned (.agg (cellsD (newP n))) ∧ Below w.heap.size w w' := by
  have l3 := size_cellsD
  have l4 := stnD
  have l5 := bdD
  have l6 := cellsD_n0
  by_cases h : n < 1 ∨ 8 < n
  · have H : Hid (newP n = zeroP) := by show _ = _; unfold newP; rw [if_pos h]
    by_cases h1 : n < 1
    all_goals
      go_enter Try.func31, Try.ntmps31
      go_wp2
      refine bodyPost_ret (v := .agg (cellsD zeroP)) (by simp [results, Try.results31, asAddr, lvD (heap_alloc_new w (.cells (cellsD zeroP) 72))]) rfl ⟨by rw [H.out], ((Fr.refl w).alloc _).1⟩
  · have H : Hid (newP n = setN zeroP n) := by show _ = _; unfold newP; rw [if_neg h]
    have d1 : decide (n < 1) = false := by simp; omega
    have d2 : decide (8 < n) = false := by simp; omega
    go_enter Try.func31, Try.ntmps31
    go_wp2
    refine bodyPost_ret (v := .agg (cellsD (setN zeroP n))) (by simp [results, Try.results31, asAddr, lvD (heap_alloc_new w (.cells (cellsD (setN zeroP n)) 72))]) rfl ⟨by rw [H.out], ((Fr.refl w).alloc _).1⟩
theorem rnew_v {n : Int} {s : PS} (hs : newP n = s) (w : World) : Calls Try.prog 31 #[.int .i64 n] w fun e w' => e = .returned (.agg (cellsD s)) ∧ Below w.heap.size w w' := by
  rw [← hs]; exact rnew_any n w

/- Part of a row. -/
theorem ldSub {P : Program} {w : World} {b : Nat} {c c' : Array Value} {t : TypeId} {f : Nat × Nat} (h : w.heap[b]? = some (.cells c t f)) (o : Nat) (hg : ∀ j, j < c'.size → c[o + j]? = c'[j]?) : (loadCellsFrom ⟨b, o, none⟩ 0 c'.size #[]).run P w = .ok c' w := by
  have := run_loadCells_list (P := P) w ⟨b, o, none⟩ c'.toList (fun j v hv => by
    have hj : j < c'.size := by
      rcases Nat.lt_or_ge j c'.size with h1 | h1
      · exact h1
      · rw [List.getElem?_eq_none (by simpa using h1)] at hv; cases hv
    have hadd : (⟨b, o, none⟩ : Addr).add j = ⟨b, o + j, none⟩ := by unfold Addr.add; split <;> simp_all
    rw [hadd, cell_at h, hg j hj]
    simpa using hv)
  rw [Array.length_toList] at this
  exact this
theorem ld_wa {P : Program} {w : World} {b : Nat} {s : PS} {t : TypeId} (h : w.heap[b]? = some (.cells (cellsD s) t)) : (loadCellsFrom ⟨b, 65, none⟩ 0 szB #[]).run P w = .ok (cellsB s.wa) w := by
  have := ldSub (P := P) (c' := cellsB s.wa) h 65 (fun j hj => by rw [size_cellsB] at hj; rw [D_wa s hj, B_get _ hj])
  rwa [size_cellsB] at this
theorem ld_se {P : Program} {w : World} {b : Nat} {s : PS} {t : TypeId} (h : w.heap[b]? = some (.cells (cellsD s) t)) : (loadCellsFrom ⟨b, 97, none⟩ 0 szB #[]).run P w = .ok (cellsB s.se) w := by
  have := ldSub (P := P) (c' := cellsB s.se) h 97 (fun j hj => by rw [size_cellsB] at hj; rw [D_se s hj, B_get _ hj])
  rwa [size_cellsB] at this
theorem ld_on {P : Program} {w : World} {b : Nat} {s : PS} {t : TypeId} (h : w.heap[b]? = some (.cells (cellsD s) t)) {i : Nat} (hi : i < 16) : (loadCellsFrom ⟨b, 129 + i * 32, none⟩ 0 szB #[]).run P w = .ok (cellsB (s.on i)) w := by
  have := ldSub (P := P) (c' := cellsB (s.on i)) h (129 + i * 32) (fun j hj => by rw [size_cellsB] at hj; rw [D_on s hi hj, B_get _ hj])
  rwa [size_cellsB] at this

/- Word. -/
theorem hi_step (X k : Nat) : X / 2 ^ k = 2 * (X / 2 ^ (k + 1)) + (X.testBit k).toNat := by
  have e1 : X / 2 ^ (k + 1) = X / 2 ^ k / 2 := by rw [Nat.pow_succ, ← Nat.div_div_eq_div_mul]
  have e2 : (X.testBit k).toNat = X / 2 ^ k % 2 := by
    rw [Nat.testBit_eq_decide_div_mod_eq]
    rcases Nat.mod_two_eq_zero_or_one (X / 2 ^ k) with e | e <;> rw [e] <;> rfl
  rw [e1, e2]
  generalize X / 2 ^ k = y
  omega
theorem word_step (g : Nat → Bool) {k : Nat} (hk : k < 32) : W32 g / 2 ^ k = 2 * (W32 g / 2 ^ (k + 1)) + (g k).toNat := by
  have e2 : (W32 g).testBit k = g k := by rw [W32_bit]; simp [hk]
  have := hi_step (W32 g) k
  rwa [e2] at this
theorem word_hi (g : Nat → Bool) (k : Nat) : W32 g / 2 ^ k < 4294967296 := Nat.lt_of_le_of_lt (Nat.div_le_self _ _) (W32_lt g)
def hiW (g : Nat → Bool) (k : Nat) : Nat := W32 g / 2 ^ k
theorem hiW_32 (g : Nat → Bool) : hiW g 32 = 0 := Nat.div_eq_of_lt (W32_lt g)
theorem hiW_0 (g : Nat → Bool) : hiW g 0 = W32 g := by unfold hiW; simp
theorem hiW_step (g : Nat → Bool) {k : Nat} (hk : k < 32) : hiW g k = 2 * hiW g (k + 1) + (g k).toNat := word_step g hk
theorem hiW_lt (g : Nat → Bool) (k : Nat) : hiW g k < 4294967296 := word_hi g k
set_option maxRecDepth 100000 in
set_option maxHeartbeats 4000000 in
theorem word_any (g : Nat → Bool) (w : World) :
    Calls Try.prog 34 #[.agg (cellsB g)] w fun e w' => e = .returned (.int .u64 (W32 g : Int)) ∧ Below w.heap.size w w' := by
  have F0 := (Fr.refl w).alloc (.cells (cellsB g) 62)
  have k0 := heap_alloc_new w (.cells (cellsB g) 62)
  have HZ := Lib.hid (hiW_32 g)
  go_enter Try.func34, Try.ntmps34
  go_wp2
  go_loopw [3, 4] (fun x i wr => ∃ (k : Nat) (y : Nat), k ≤ 32 ∧ i = .int .i64 ((k : Int) - 1) ∧ x = .int .u64 (y : Int) ∧ Hid (hiW g k = y) ∧ Fr w.heap.size w wr ∧ wr.heap[w.heap.size]? = some (.cells (cellsB g) 62)) (fun _ i _ => (intOf i + 1).toNat)
  case atStart => exact ⟨32, 0, by omega, by go_num, by go_num, HZ, F0, k0⟩
  case round =>
    clear F0 k0
    obtain ⟨k, y, hk, rfl, rfl, HY, hfr, hr⟩ := hrel
    have hy32 : y < 4294967296 := by rw [← HY.out]; exact hiW_lt g k
    by_cases h0 : k = 0
    · subst h0
      have e : W32 g = y := by rw [← hiW_0]; exact HY.out
      have HE := Lib.hid e
      clear e
      go_wp2
      go_ret
      exact ⟨by rw [HE.out]; rfl, hfr.1⟩
    · obtain ⟨j, rfl⟩ : ∃ j, k = j + 1 := ⟨k - 1, by omega⟩
      have hj : j < 32 := by omega
      have ej : (((j + 1 : Nat) : Int) - 1) = (j : Int) := by omega
      have hst := hiW_step g hj
      rw [HY.out] at hst
      have hj0 : (0 : Int) ≤ j := by omega
      have hj32 : (j : Int) < 32 := by omega
      have cb := knownB hr hj
      rw [ej]
      cases hg : g j with
      | false =>
        rw [hg] at cb hst
        have hst2 := Lib.hid (show hiW g j = 2 * y by simpa using hst)
        clear hst
        go_wp2
        go_roundw
        case rel => exact ⟨j, 2 * y, by omega, by go_num, by go_num, hst2, hfr, hr⟩
        case measure => simp [intOf] <;> omega
      | true =>
        rw [hg] at cb hst
        have hst2 := Lib.hid (show hiW g j = 2 * y + 1 by simpa using hst)
        clear hst
        go_wp2
        go_roundw
        case rel => exact ⟨j, 2 * y + 1, by omega, by go_num, by go_num, hst2, hfr, hr⟩
        case measure => simp [intOf] <;> omega
theorem word_v {g : Nat → Bool} {x : Nat} (h : W32 g = x) (w : World) :
    Calls Try.prog 34 #[.agg (cellsB g)] w fun e w' => e = .returned (.int .u64 (x : Int)) ∧ Below w.heap.size w w' := by
  rw [← h]; exact word_any g w
end Go.Proofs.Ytgelpapjmlbgfaa
