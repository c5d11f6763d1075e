/- ClintNone: a clint that isn't there, or that nobody made, has nothing. -/
import Derived.Test.YtgelpapjmlbgfaaClF
namespace Go.Proofs.Ytgelpapjmlbgfaa
open Go.RowKit
set_option linter.unusedSimpArgs false
set_option linter.unusedVariables false
attribute [local simp high] size27 zero27

theorem newC0 : newC 0 = zeroC := by unfold newC; rw [if_pos (by omega)]
theorem tick0 (n : Int) : tickOf zeroC n = zeroC := by unfold tickOf; rw [if_neg]; show ¬ (_ ∧ (0 : Int) < 0); omega
theorem lines0 (n : Int) : linesOf zeroC n = 0 := by
  unfold linesOf
  rw [if_pos]
  show n < 0 ∨ (0 : Int) ≤ n
  omega
theorem read0 (off : Nat) (size : Int) : readOf zeroC (spot zeroC.n off size) = (0, false) := by rw [spot0]; rfl
theorem write0 (off : Nat) (size : Int) : writeOf zeroC 1 (spot zeroC.n off size) = (zeroC, false) := by rw [spot0]; rfl
theorem ldZ {w : World} {b : Nat} (h : w.heap[b]? = some (.cells (cellsC zeroC) 27)) : (loadCellsFrom ⟨b, 0, none⟩ 0 sz18 #[]).run Try.prog w = .ok (cellsC zeroC) w := ldC h

set_option maxRecDepth 100000 in
set_option maxHeartbeats 2000000 in
theorem clintNone_walk (off : Nat) (size n : Int) (w : World) (hoff : off < 18446744073709551616) (hn : n ≤ 9223372036854775807) :
    Calls Try.prog 3 #[.int .u64 (off : Int), .int .i64 size, .int .i64 n] w fun e w' => e = .returned (.bool true) ∧ Below w.heap.size w w' := by
  have a1 := zero27
  have a2 := size27
  have a3 := size_cellsC
  have a5 := bd27
  have a6 := eqC0
  have a7 : ∀ w' : World, w'.heap[w.heap.size]? = some (.cells (cellsC zeroC) 27) → (loadCellsFrom ⟨w.heap.size, 0, none⟩ 0 sz18 #[]).run Try.prog w' = .ok (cellsC zeroC) w' := fun w' h => ldZ h
  go_enter Try.func3, Try.ntmps3
  go_wp2_with fail
  refine (read_nil off size _).mono ?_
  rintro e w0 ⟨rfl, rfl⟩
  go_wp2_with fail
  refine (read_v (read0 off size) _ hoff OkC.zero (heap_alloc_new _ _)).mono ?_
  rintro e w1 ⟨rfl, b1⟩
  have hC := ((Fr.refl w).alloc _).step b1
  have k1 := keepB b1 (heap_alloc_new _ _)
  go_wp2_with fail
  refine (write_nil off size 1 _).mono ?_
  rintro e w0 ⟨rfl, rfl⟩
  go_wp2_with fail
  refine (write_v (write0 off size) _ hoff (by omega) OkC.zero k1).mono ?_
  rintro e w2 ⟨rfl, k2, t2⟩
  have hC := t2.1 _ _ (Nat.le_refl _) hC
  go_wp2_with fail
  refine (time_nil _).mono ?_
  rintro e w0 ⟨rfl, rfl⟩
  go_wp2_with fail
  refine (lines_nil n _).mono ?_
  rintro e w0 ⟨rfl, rfl⟩
  go_wp2_with fail
  refine (tick_nil n _).mono ?_
  rintro e w0 ⟨⟨v, rfl⟩, rfl⟩
  go_wp2_with fail
  refine (tick_v (tick0 n) _ hn OkC.zero k2).mono ?_
  rintro e w3 ⟨⟨v3, rfl⟩, k3, t3⟩
  have hC := t3.1 _ _ (Nat.le_refl _) hC
  go_wp2_with fail
  go_region_held3 (fun w' => Fr w.heap.size w w' ∧ w'.heap[w.heap.size]? = some (.cells (cellsC zeroC) 27))
    (first | exact heldB ‹_› ‹_› | exact ⟨hC.drew, k3⟩ | go_keep)
    (first
      | (go_at_call 11; refine (time_any _ zeroC _ (‹Fr w.heap.size w _ ∧ _› : Fr w.heap.size w _ ∧ _).2).mono ?_; rintro e w' ⟨rfl, rfl⟩)
      | (go_at_call 12; refine (lines_v (lines0 n) _ OkC.zero (‹Fr w.heap.size w _ ∧ _› : Fr w.heap.size w _ ∧ _).2).mono ?_; rintro e w' ⟨rfl, hb⟩)
      | (go_at_call 14; refine (new_v newC0 _).mono ?_; rintro e w' ⟨rfl, hb⟩)
      | (go_at_call 15; refine (live15_any _).mono ?_; rintro e w' ⟨rfl, hb⟩))
  rename_i w4 hS
  obtain ⟨hC, -⟩ := hS
  go_wp2
  go_ret
  exact ⟨rfl, hC.1⟩
end Go.Proofs.Ytgelpapjmlbgfaa
