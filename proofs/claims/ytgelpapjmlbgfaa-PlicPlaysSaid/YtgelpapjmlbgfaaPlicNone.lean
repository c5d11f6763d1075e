/- PlicNone: a controller that isn't there, or of no harts, has nothing. -/
import Derived.Test.YtgelpapjmlbgfaaPlH
namespace Go.Proofs.Ytgelpapjmlbgfaa
open Go.RowKit
set_option linter.unusedSimpArgs false
set_option linter.unusedVariables false
attribute [local simp high] zeroPv sizePv

theorem newP0 : newP 0 = zeroP := by unfold newP; rw [if_pos (by omega)]
theorem spot0 (off : Nat) (size : Int) : spotP zeroP.n off size = (0, 0) := by
  unfold spotP; rw [if_pos (Or.inr (Or.inr (show zeroP.n = 0 from rfl)))]
theorem read0 (off : Nat) (size : Int) : readP zeroP (spotP zeroP.n off size) = (zeroP, 0, false) := by rw [spot0]; rfl
theorem write0 (off : Nat) (size : Int) : writeP zeroP 1 (spotP zeroP.n off size) = (zeroP, false) := by rw [spot0]; rfl
theorem wire0 (i : Int) : wireP zeroP i true = (zeroP, false) := by unfold wireP; rw [if_pos (Or.inl (show zeroP.n = 0 from rfl))]
theorem line0 (c : Int) : lineP zeroP c = false := by
  unfold lineP
  by_cases h : 0 ≤ c
  · have : ¬ c < 2 * zeroP.n := by show ¬ c < 2 * 0; omega
    simp [this]
  · simp [h]
theorem fits0 (off : Nat) (size : Int) : decide (0 < (spotP (newP 0).n off size).1) = false := by rw [newP0, spot0]; rfl
theorem fits_v {n : Int} {off : Nat} {size : Int} {q : Bool} (hq : decide (0 < (spotP (newP n).n off size).1) = q) (w : World) (hoff : off < 18446744073709551616) :
    Calls Try.prog 32 #[.int .i64 n, .int .u64 (off : Int), .int .i64 size] w fun e w' => e = .returned (.bool q) ∧ Below w.heap.size w w' := by
  rw [← hq]; exact fits_any n off size w hoff
theorem heldPc {w w' : World} {B b : Nat} {o : Obj} {w0 : World} {a0 : Addr} {v0 : Value} (hb : Below w.heap.size w w') (h : (Fr B w0 w ∧ w.heap[b]? = some o) ∧ w.cell? a0 = some v0) :
    (Fr B w0 w' ∧ w'.heap[b]? = some o) ∧ w'.cell? a0 = some v0 := ⟨⟨h.1.1.step hb, keepB hb h.1.2⟩, hcell hb h.2⟩
theorem two_cells {w : World} {b : Nat} {v0 v1 : Value} {t : TypeId} (h : w.heap[b]? = some (.cells #[v0, v1] t)) : w.cell? ⟨b, 0, none⟩ = some v0 ∧ w.cell? ⟨b, 1, none⟩ = some v1 := by
  refine ⟨by rw [cell_at h]; rfl, by rw [cell_at h]; rfl⟩

set_option maxRecDepth 100000 in
set_option maxHeartbeats 4000000 in
theorem plicNone_walk (off : Nat) (p0 p1 : Int) (w : World) (hoff : off < 18446744073709551616) :
    Calls Try.prog 8 #[.int .u64 (off : Int), .agg #[.int .i64 p0, .int .i64 p1]] w fun e w' => e = .returned (.bool true) ∧ Below w.heap.size w w' := by
  have a3 := size_cellsP
  have a5 := bdP
  have a6 := eqP0
  have F0 := ((Fr.refl w).alloc (.cells #[.int .i64 p0, .int .i64 p1] 81)).alloc (.cells (cellsP zeroP) 60)
  have k0 := keep_alloc (heap_alloc_new w (.cells #[.int .i64 p0, .int .i64 p1] 81)) (.cells (cellsP zeroP) 60)
  have h0 : ((w.alloc (.cells #[.int .i64 p0, .int .i64 p1] 81)).alloc (.cells (cellsP zeroP) 60)).heap[w.heap.size + 1]? = some (.cells (cellsP zeroP) 60) := by
    simpa using heap_alloc_new (w.alloc (.cells #[.int .i64 p0, .int .i64 p1] 81)) (.cells (cellsP zeroP) 60)
  have a7 : ∀ w' : World, w'.heap[w.heap.size + 1]? = some (.cells (cellsP zeroP) 60) → (loadCellsFrom ⟨w.heap.size + 1, 0, none⟩ 0 szP #[]).run Try.prog w' = .ok (cellsP zeroP) w' := fun w' h => ldP h
  have hne : w.heap.size ≠ w.heap.size + 1 := by omega
  have hle : w.heap.size ≤ w.heap.size + 1 := by omega
  go_enter Try.func8, Try.ntmps8
  go_wp2_with fail
  refine (pread_nil off p0 _).mono ?_
  rintro e w0 ⟨rfl, rfl⟩
  go_wp2_with fail
  refine (pread_v (read0 off p0) _ hoff OkP.zero h0).mono ?_
  rintro e w1 ⟨rfl, h1, t1⟩
  have F1 := t1.1 _ _ hle F0
  have k1 := t1.2 _ _ hne k0
  obtain ⟨c0, c1⟩ := two_cells k1
  clear F0 k0 h0
  go_wp2_with fail
  refine (pwrite_nil off p0 1 _).mono ?_
  rintro e w0 ⟨rfl, rfl⟩
  go_wp2_with fail
  refine (pwrite_v (write0 off p0) _ hoff (by omega) OkP.zero h1).mono ?_
  rintro e w2 ⟨rfl, h2, t2⟩
  have F2 := t2.1 _ _ hle F1
  have k2 := t2.2 _ _ hne k1
  clear c0 c1
  obtain ⟨c0, c1⟩ := two_cells k2
  clear F1 k1 h1
  go_wp2_with fail
  refine (pwire_nil p1 true _).mono ?_
  rintro e w0 ⟨rfl, rfl⟩
  go_wp2_with fail
  refine (wire_v (wire0 p1) _ OkP.zero h2).mono ?_
  rintro e w3 ⟨rfl, h3, t3⟩
  have F3 := t3.1 _ _ hle F2
  have k3 := t3.2 _ _ hne k2
  clear c0 c1
  obtain ⟨c0, c1⟩ := two_cells k3
  clear F2 k2 h2
  go_wp2_with fail
  refine (pwaits_nil _).mono ?_
  rintro e w0 ⟨rfl, rfl⟩
  go_wp2_with fail
  refine (pserved_nil _).mono ?_
  rintro e w0 ⟨rfl, rfl⟩
  go_wp2_with fail
  refine (pline_nil p1 _).mono ?_
  rintro e w0 ⟨rfl, rfl⟩
  go_wp2_with fail
  refine (line_v (line0 p1) _ OkP.zero h3).mono ?_
  rintro e w4 ⟨rfl, b4⟩
  have F4 := F3.step b4
  have k4 := keepB b4 k3
  have h4 := keepB b4 h3
  clear c0 c1
  obtain ⟨c0, c1⟩ := two_cells k4
  clear F3 k3 h3
  go_wp2_with fail
  go_region_held3 (fun w' => (Fr w.heap.size w w' ∧ w'.heap[w.heap.size + 1]? = some (.cells (cellsP zeroP) 60)) ∧ w'.cell? ⟨w.heap.size, 0, none⟩ = some (.int .i64 p0))
    (first | exact heldPc ‹_› ‹_› | exact ⟨⟨F4.drew, h4⟩, c0⟩ | go_keep)
    (first
      | (go_at_call 24; refine (pnew_v newP0 _).mono ?_; rintro e w' ⟨rfl, hb⟩)
      | (go_at_call 32; refine (fits_v (fits0 off p0) _ hoff).mono ?_; rintro e w' ⟨rfl, hb⟩)
      | (go_at_call 23; refine (live16_any _).mono ?_; rintro e w' ⟨rfl, hb⟩))
  rename_i w5 hS
  obtain ⟨⟨hC, -⟩, -⟩ := hS
  go_wp2
  go_ret
  exact ⟨rfl, hC.1⟩
end Go.Proofs.Ytgelpapjmlbgfaa
