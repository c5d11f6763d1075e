/- plic's Waits, Served, Line, Fits, Wire, and those of no controller. -/
import Derived.Test.YtgelpapjmlbgfaaPlD
import Derived.Test.YtgelpapjmlbgfaaWrote
import Derived.Deep.RegionWith
namespace Go.Proofs.Ytgelpapjmlbgfaa
open Go.RowKit
set_option linter.unusedSimpArgs false
set_option linter.unusedVariables false
attribute [local simp high] zeroPv sizePv

theorem pread_nil (off : Nat) (size : Int) (w : World) :
    Calls Try.prog 27 #[.pointer none, .int .u64 (off : Int), .int .i64 size] w fun e w' => e = .returned (.tuple #[.int .u64 0, .bool false]) ∧ w' = w := by
  go_enter Try.func27, Try.ntmps27
  go_wp2
  go_ret2
  exact ⟨rfl, rfl⟩
theorem pwrite_nil (off : Nat) (size : Int) (v : Nat) (w : World) :
    Calls Try.prog 28 #[.pointer none, .int .u64 (off : Int), .int .i64 size, .int .u64 (v : Int)] w fun e w' => e = .returned (.bool false) ∧ w' = w := by
  go_enter Try.func28, Try.ntmps28
  go_wp2
  go_ret
  exact ⟨rfl, rfl⟩
theorem pwire_nil (i : Int) (on : Bool) (w : World) :
    Calls Try.prog 29 #[.pointer none, .int .i64 i, .bool on] w fun e w' => e = .returned (.bool false) ∧ w' = w := by
  go_enter Try.func29, Try.ntmps29
  go_wp2
  go_ret
  exact ⟨rfl, rfl⟩
theorem pwaits_nil (w : World) : Calls Try.prog 30 #[.pointer none] w fun e w' => e = .returned (.int .u64 0) ∧ w' = w := by
  go_enter Try.func30, Try.ntmps30
  go_wp2
  go_ret
  exact ⟨rfl, rfl⟩
theorem pserved_nil (w : World) : Calls Try.prog 25 #[.pointer none] w fun e w' => e = .returned (.int .u64 0) ∧ w' = w := by
  go_enter Try.func25, Try.ntmps25
  go_wp2
  go_ret
  exact ⟨rfl, rfl⟩
theorem pline_nil (i : Int) (w : World) : Calls Try.prog 35 #[.pointer none, .int .i64 i] w fun e w' => e = .returned (.bool false) ∧ w' = w := by
  go_enter Try.func35, Try.ntmps35
  go_wp2
  go_ret
  exact ⟨rfl, rfl⟩

set_option maxRecDepth 100000 in
set_option maxHeartbeats 4000000 in
theorem waits_any (b : Nat) (s : PS) (w : World) (h : w.heap[b]? = some (.cells (cellsP s) 60)) :
    Calls Try.prog 30 #[.pointer (some ⟨b, 0, none⟩)] w fun e w' => e = .returned (.int .u64 (W32 s.wa : Int)) ∧ Below w.heap.size w w' := by
  obtain ⟨c0, c1, c2, c3, cl, cf⟩ := knownP h
  obtain ⟨x, hx⟩ : ∃ x, W32 s.wa = x := ⟨_, rfl⟩
  have hx32 : x < 4294967296 := by rw [← hx]; exact W32_lt _
  rw [hx] at c2 ⊢
  go_enter Try.func30, Try.ntmps30
  go_wp2_with fail
  refine (low32 x _ hx32).mono ?_
  rintro e w1 ⟨rfl, hb⟩
  go_wp2
  go_ret
  exact ⟨rfl, hb⟩
set_option maxRecDepth 100000 in
set_option maxHeartbeats 4000000 in
theorem served_any (b : Nat) (s : PS) (w : World) (h : w.heap[b]? = some (.cells (cellsP s) 60)) :
    Calls Try.prog 25 #[.pointer (some ⟨b, 0, none⟩)] w fun e w' => e = .returned (.int .u64 (W32 s.se : Int)) ∧ Below w.heap.size w w' := by
  obtain ⟨c0, c1, c2, c3, cl, cf⟩ := knownP h
  obtain ⟨x, hx⟩ : ∃ x, W32 s.se = x := ⟨_, rfl⟩
  have hx32 : x < 4294967296 := by rw [← hx]; exact W32_lt _
  rw [hx] at c3 ⊢
  go_enter Try.func25, Try.ntmps25
  go_wp2_with fail
  refine (low32 x _ hx32).mono ?_
  rintro e w1 ⟨rfl, hb⟩
  go_wp2
  go_ret
  exact ⟨rfl, hb⟩
end Go.Proofs.Ytgelpapjmlbgfaa
