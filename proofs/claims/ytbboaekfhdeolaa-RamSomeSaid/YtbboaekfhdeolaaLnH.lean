/- Lines: Words, and the example that must hold. -/
import Derived.Test.YtbboaekfhdeolaaLnG
namespace Go.Proofs.Ytbboaekfhdeolaa
open Go.RowKit
set_option linter.unusedSimpArgs false
set_option linter.unusedVariables false
attribute [local simp high] sizeLL zeroLL sizeLR zeroLR

def cellsW (u : Nat → Nat) : Array Value := ((List.range 8).map fun i => Value.int .u64 (u i : Int)).toArray
def szW : Nat := 8
theorem size_cellsW (u : Nat → Nat) : (cellsW u).size = szW := by simp [cellsW, szW]
theorem size_cellsW' (u : Nat → Nat) : (cellsW u).size = 8 := by simp [cellsW]
theorem one_cellsW (u : Nat → Nat) : (cellsW u).all (·.oneCell') = true := by simp [cellsW, Value.oneCell']
theorem cellsW_get (u : Nat → Nat) {i : Nat} (hi : i < 8) : (cellsW u)[i]? = some (.int .u64 (u i : Int)) := by simp [cellsW, hi]
theorem cellsW_set (u : Nat → Nat) {i : Nat} (hi : i < 8) (v : Nat) : (cellsW u).setIfInBounds i (.int .u64 (v : Int)) = cellsW (updL u i v) := by
  apply Array.ext_getElem?
  intro j
  rw [Array.getElem?_setIfInBounds]
  by_cases hj : j < 8
  · rw [cellsW_get _ hj, cellsW_get _ hj, size_cellsW']
    unfold updL
    by_cases e : i = j
    · subst e; simp [hj]
    · simp [e, Ne.symm e]
  · have n1 : (cellsW u)[j]? = none := by rw [Array.getElem?_eq_none]; rw [size_cellsW']; omega
    have n2 : (cellsW (updL u i v))[j]? = none := by rw [Array.getElem?_eq_none]; rw [size_cellsW']; omega
    rw [n1, n2, if_neg (by omega)]
theorem ld_rowW {P : Program} {w : World} {b : Nat} {u : Nat → Nat} {t : TypeId} (h : w.heap[b]? = some (.cells (cellsW u) t)) : (loadCellsFrom ⟨b, 0, none⟩ 0 szW #[]).run P w = .ok (cellsW u) w := by
  have := run_loadCells_list (P := P) w ⟨b, 0, none⟩ (cellsW u).toList (fun j v hv => by
    have hadd : (⟨b, 0, none⟩ : Addr).add j = ⟨b, j, none⟩ := by unfold Addr.add; split <;> simp_all
    rw [hadd, cell_at h]
    simpa using hv)
  rw [Array.length_toList, size_cellsW] at this
  exact this
theorem st_rowW {w : World} {b : Nat} {u : Nat → Nat} {t : TypeId} (P : Program) (h : w.heap[b]? = some (.cells (cellsW u) t)) (u' : Nat → Nat) : (storeCells ⟨b, 0, none⟩ (cellsW u').toList).run P w = .ok () (w.setRow b (cellsW u')) := by
  have := run_storeCells_from (P := P) b t (cellsW u').toList 0 (cellsW u) w h (by simp [size_cellsW']) (fun v hv => (Array.all_eq_true_iff_forall_mem.1 (one_cellsW u')) v (by simpa using hv))
  simpa [size_cellsW'] using this
theorem knownW {w : World} {b : Nat} {u : Nat → Nat} {t : TypeId} (h : w.heap[b]? = some (.cells (cellsW u) t)) {i : Nat} (hi : i < 8) : w.cell? ⟨b, i, none⟩ = some (.int .u64 (u i : Int)) := by
  rw [cell_at h]; exact cellsW_get u hi
theorem setW {w : World} {b : Nat} {u : Nat → Nat} {t : TypeId} (h : w.heap[b]? = some (.cells (cellsW u) t)) {i : Nat} (hi : i < 8) (v : Nat) : (w.setCell ⟨b, i, none⟩ (.int .u64 (v : Int))).heap[b]? = some (.cells (cellsW (updL u i v)) t) := by
  have := set_at h i (.int .u64 (v : Int))
  rwa [cellsW_set _ hi] at this
theorem infoWW : (Try.prog.info? 32).map (·.size) = some 8 := by kernel_rfl
theorem zeroWW (w : World) : (zeroValue 32).run Try.prog w = .ok (.agg (cellsW fun _ => 0)) w := by rw [Try.zeroValue32]; rfl
theorem sizeWW (w : World) : (sizeOf 32).run Try.prog w = .ok szW w := by rw [Try.sizeOf32]; rfl
theorem lvWW {w : World} {b : Nat} {u : Nat → Nat} {t : TypeId} (h : w.heap[b]? = some (.cells (cellsW u) t)) : (loadVar 32 ⟨b, 0, none⟩).run Try.prog w = .ok (.agg (cellsW u)) w := run_loadVar_row w b _ _ _ _ _ h Try.underlying32 rfl (by rw [size_cellsW']; exact infoWW)
theorem stnWW (w : World) (g g' : Nat → Nat) : (storeCells ⟨w.heap.size, 0, none⟩ (cellsW g').toList).run Try.prog (w.alloc (.cells (cellsW g) 32)) = .ok () (w.alloc (.cells (cellsW g') 32)) :=
  run_storeCells_new w _ _ _ infoWW (by simp [size_cellsW']) (one_cellsW g')
def wordsL (g : Nat → Nat) (k : Nat) : Nat → Nat := fun i => if i < k then numL g (8 * i) 8 else 0
theorem wordsL_zero (g : Nat → Nat) : wordsL g 0 = fun _ => 0 := by funext i; unfold wordsL; rw [if_neg (by omega)]
theorem wordsL_step (g : Nat → Nat) (k : Nat) : updL (wordsL g k) k (numL g (8 * k) 8) = wordsL g (k + 1) := by
  funext j
  unfold updL wordsL
  by_cases h : j = k
  · subst h; rw [if_pos rfl, if_pos (by omega)]
  · rw [if_neg h]
    by_cases h2 : j < k
    · rw [if_pos h2, if_pos (by omega)]
    · rw [if_neg h2, if_neg (by omega)]
theorem lget_v {g : Nat → Nat} {a n : Int} {y : Nat} {q : Bool} (hy : getV g a n = y) (hq : fitB a n = q) (w : World) (ok : OkL g) :
    Calls Try.prog 11 #[.agg (cellsL g), .int .i64 a, .int .i64 n] w fun e w' => e = .returned (.tuple #[.int .u64 (y : Int), .bool q]) ∧ Below w.heap.size w w' := by
  rw [← hy, ← hq]; exact lget_any g a n w ok
theorem rget_v {g : Nat → Nat} {a n : Int} {y : Nat} {q : Bool} (hy : getV g a n = y) (hq : fitB a n = q) (w : World) (ok : OkL g) :
    Calls Try.prog 12 #[.agg (cellsL g), .int .i64 a, .int .i64 n] w fun e w' => e = .returned (.tuple #[.int .u64 (y : Int), .bool q]) ∧ Below w.heap.size w w' := by
  rw [← hy, ← hq]; exact rget_any g a n w ok
theorem get8 (g : Nat → Nat) (k : Nat) (hk : k < 8) : getV g (8 * (k : Int)) 8 = numL g (8 * k) 8 ∧ fitB (8 * (k : Int)) 8 = true := by
  have hf : fitB (8 * (k : Int)) 8 = true := by unfold fitB; simp; omega
  refine ⟨?_, hf⟩
  unfold getV
  rw [if_pos hf, show (8 * (k : Int)).toNat = 8 * k by omega]
  rfl
attribute [local simp high] zeroWW sizeWW
set_option maxRecDepth 100000 in
set_option maxHeartbeats 2000000 in
theorem words_any (g : Nat → Nat) (w : World) (ok : OkL g) :
    Calls Try.prog 13 #[.agg (cellsL g)] w fun e w' => e = .returned (.agg (cellsW (wordsL g 8))) ∧ Below w.heap.size w w' := by
  have l3 := size_cellsL
  have l4 := size_cellsW
  go_enter Try.func13, Try.ntmps13
  go_wp2
  obtain ⟨w1, hw1⟩ : ∃ w1, w1 = ((w.alloc (.cells (cellsL g) 26)).alloc (.cells (cellsW fun _ => 0) 32)).alloc (.cells (cellsW fun _ => 0) 32) := ⟨_, rfl⟩
  have F0 : Fr w.heap.size w w1 := by rw [hw1]; exact (((Fr.refl w).alloc _).alloc _).alloc _
  have k0 : w1.heap[w.heap.size]? = some (.cells (cellsL g) 26) := by rw [hw1]; exact keep_alloc (keep_alloc (heap_alloc_new _ _) _) _
  have r0 : w1.heap[w.heap.size + 1]? = some (.cells (cellsW fun _ => 0) 32) := by rw [hw1]; exact keep_alloc (by simpa using heap_alloc_new (w.alloc (.cells (cellsL g) 26)) (.cells (cellsW fun _ => 0) 32)) _
  have u0 : w1.heap[w.heap.size + 2]? = some (.cells (cellsW (wordsL g 0)) 32) := by rw [hw1, wordsL_zero]; simpa using heap_alloc_new ((w.alloc (.cells (cellsL g) 26)).alloc (.cells (cellsW fun _ => 0) 32)) (.cells (cellsW fun _ => 0) 32)
  rw [← hw1]
  clear hw1
  go_loopw [5] (fun i wr => ∃ k : Nat, k ≤ 8 ∧ i = .int .i64 (k : Int) ∧ Fr w.heap.size w wr ∧ wr.heap[w.heap.size]? = some (.cells (cellsL g) 26) ∧ wr.heap[w.heap.size + 1]? = some (.cells (cellsW fun _ => 0) 32) ∧ wr.heap[w.heap.size + 2]? = some (.cells (cellsW (wordsL g k)) 32)) (fun i _ => 8 - (intOf i).toNat)
  case atStart => exact ⟨0, by omega, rfl, F0, k0, r0, u0⟩
  case round =>
    clear F0 k0 r0 u0
    obtain ⟨k, hk, rfl, hfr, hr, hr1, hr2⟩ := hrel
    by_cases hlt : k < 8
    · obtain ⟨hy, hq⟩ := get8 g k hlt
      obtain ⟨y, hye⟩ : ∃ y, numL g (8 * k) 8 = y := ⟨_, rfl⟩
      have hst := wordsL_step g k
      rw [hye] at hy hst
      have hk8 : (k : Int) < 8 := by omega
      have hk0 : (0 : Int) ≤ k := by omega
      have ld := ld_rowL (P := Try.prog) hr
      have HY := Lib.hid hy
      have HQ := Lib.hid hq
      have HST := Lib.hid hst
      clear hy hq hst hye
      go_wp2_with fail
      refine (lget_v HY.out HQ.out _ ok).mono ?_
      rintro e w2 ⟨rfl, hb2⟩
      clear ld
      have f2 := hfr.step hb2
      have k2 := keepB hb2 hr
      have r2 := keepB hb2 hr1
      have u2 := keepB hb2 hr2
      have c2 := knownW u2 hlt
      have hltb := lt_of_at u2
      have hfz : ∀ o, w2.frozen? ⟨w.heap.size + 2, o, none⟩ = false := fun o => by simp [World.frozen?, u2]
      have e2 := setW u2 hlt y
      rw [HST.out] at e2
      have e0 := keep_setCell k2 (p := ⟨w.heap.size + 2, k, none⟩) (by simp) (.int .u64 (y : Int))
      have e1 := keep_setCell r2 (p := ⟨w.heap.size + 2, k, none⟩) (by simp) (.int .u64 (y : Int))
      have ef := f2.setCell (p := ⟨w.heap.size + 2, k, none⟩) (by simp) (.int .u64 (y : Int))
      have E := Lib.hid (And.intro ef (And.intro e0 (And.intro e1 e2)))
      clear e0 e1 e2 ef k2 r2 u2 f2 hr hr1 hr2 hfr hb2
      go_wp2
      go_roundw
      case rel => exact ⟨k + 1, by omega, by go_num, E.out⟩
      case measure => simp [intOf]; omega
    · have e : k = 8 := by omega
      subst e
      have ld := ld_rowW (P := Try.prog) hr2
      have st := st_rowW Try.prog hr1 (wordsL g 8)
      have e0 := row_at hr1 (cellsW (wordsL g 8))
      have F1 := hfr.row (b := w.heap.size + 1) (Nat.le_succ _) (cellsW (wordsL g 8))
      go_wp2
      exact bodyPost_ret (v := .agg (cellsW (wordsL g 8))) (by simp [results, Try.results13, asAddr, lvWW e0, ld_rowW e0, go_sem]) rfl ⟨rfl, F1.1⟩

def b123 : Nat → Nat := fun i => if i = 0 then 1 else if i = 1 then 2 else 3
theorem b123_bytes (w : World) : Bytes (w.alloc (.cells #[.int .u8 1, .int .u8 2, .int .u8 3] 5)) (some ⟨w.heap.size, 0, none⟩) 3 b123 := by
  intro i hi
  have k := heap_alloc_new w (.cells #[.int .u8 1, .int .u8 2, .int .u8 3] 5)
  refine ⟨_, rfl, lt_of_at k, ?_⟩
  have hadd : (⟨w.heap.size, 0, none⟩ : Addr).add i = ⟨w.heap.size, i, none⟩ := by unfold Addr.add; split <;> simp_all
  rw [hadd, cell_at k]
  have hi' : i = 0 ∨ i = 1 ∨ i = 2 := by omega
  rcases hi' with rfl | rfl | rfl <;> rfl
theorem ofL_ok {b : Nat → Nat} {len : Nat} (h : ∀ i, i < len → b i < 256) : OkL (ofL b len) := by
  intro i; unfold ofL; split
  · exact h i (by omega)
  · omega
theorem ok123 : OkL (ofL b123 3) := ofL_ok fun i _ => by
  unfold b123
  by_cases h : i = 0
  · rw [if_pos h]; omega
  · rw [if_neg h]
    by_cases h2 : i = 1
    · rw [if_pos h2]; omega
    · rw [if_neg h2]; omega
theorem live09_1 : getV (ofL b123 3) 0 2 = 513 := by decide +kernel
theorem live09_2 : fitB 63 2 = false := by decide +kernel
theorem live09_3 : fitB 0 2 = true := by decide +kernel
theorem live09_4 : onesV 4 2 = 48 := by decide +kernel
theorem lanes_v {a n : Int} {y : Nat} (hy : onesV a n = y) (w : World) (ha : IntB a) (hs : IntB n) :
    Calls Try.prog 21 #[.int .i64 a, .int .i64 n] w fun e w' => e = .returned (.int .u64 (y : Int)) ∧ w' = w := by
  rw [← hy]; exact lanes_any a n w ha hs
set_option maxRecDepth 100000 in
set_option maxHeartbeats 2000000 in
theorem live09_any (w : World) :
    Calls Try.prog 16 #[] w fun e w' => e = .returned (.bool true) ∧ Below w.heap.size w w' := by
  have V1 := Lib.hid live09_1
  have V2 := Lib.hid live09_2
  have V3 := Lib.hid live09_3
  have V4 := Lib.hid live09_4
  obtain ⟨z, hz⟩ : ∃ z, getV (ofL b123 3) 63 2 = z := ⟨_, rfl⟩
  have VZ := Lib.hid hz
  clear hz
  have OK := Lib.hid ok123
  have F0 := Fr.refl w
  go_enter Try.func16, Try.ntmps16
  go_wp2_with fail
  refine (lof_any _ 3 3 b123 _ (b123_bytes w)).mono ?_
  rintro e w1 ⟨rfl, hb1⟩
  have F1 := (F0.alloc (.cells #[.int .u8 1, .int .u8 2, .int .u8 3] 5)).step hb1
  go_wp2_with fail
  refine (lget_v V1.out V3.out _ OK.out).mono ?_
  rintro e w2 ⟨rfl, hb2⟩
  have F2 := F1.step hb2
  go_wp2_with fail
  refine (lof_any _ 3 3 b123 _ (b123_bytes w2)).mono ?_
  rintro e w3 ⟨rfl, hb3⟩
  have F3 := (F2.alloc (.cells #[.int .u8 1, .int .u8 2, .int .u8 3] 5)).step hb3
  go_wp2_with fail
  refine (lget_v VZ.out V2.out _ OK.out).mono ?_
  rintro e w4 ⟨rfl, hb4⟩
  have F4 := F3.step hb4
  go_wp2_with fail
  refine (lanes_v V4.out _ (by unfold IntB; omega) (by unfold IntB; omega)).mono ?_
  rintro e w5 ⟨rfl, rfl⟩
  go_wp2
  go_ret
  exact ⟨rfl, F4.1⟩
end Go.Proofs.Ytbboaekfhdeolaa
