/- StatusTraps: any word behind a trap that enters, and behind a return, is as the document says. -/
import Derived.Test.YtaogccjihbbdcaaStE
namespace Go.Proofs.Ytaogccjihbbdcaa
open Go.RowKit
set_option linter.unusedSimpArgs false
set_option linter.unusedVariables false

theorem lv1 : leaveOf 2176 3 = 136 := by decide +kernel
theorem lv2 : leaveTo 2176 3 = 1 := by decide +kernel
theorem ev1 : enterOf 8 1 3 = 2176 := by decide +kernel
theorem leave_live (w : World) : Calls Try.prog 20 #[.int .u64 2176, .int .i64 3] w fun e w' => e = .returned (.tuple #[.int .u64 136, .int .i64 1]) ∧ w = w' :=
  (leave_any 2176 3 w (by decide)).mono fun e w' ⟨he, hw⟩ => ⟨by rw [he, lv1, lv2]; rfl, hw⟩
theorem enter_live (w : World) : Calls Try.prog 22 #[.int .u64 8, .int .i64 1, .int .i64 3] w fun e w' => e = .returned (.int .u64 2176) ∧ w = w' :=
  (enter_any 8 1 3 w (by decide)).mono fun e w' ⟨he, hw⟩ => ⟨by rw [he, ev1]; rfl, hw⟩

set_option maxRecDepth 100000 in
theorem live20 (w : World) : Calls Try.prog 24 #[] w fun e w' => e = .returned (.bool true) ∧ w = w' := by
  go_enter Try.func24, Try.ntmps24
  go_wp2_with fail
  refine (leave_live _).mono ?_
  rintro e w' ⟨rfl, rfl⟩
  go_wp2_with fail
  refine (enter_live _).mono ?_
  rintro e w' ⟨rfl, rfl⟩
  go_wp2
  go_ret
  exact ⟨rfl, rfl⟩

set_option maxRecDepth 100000 in
set_option maxHeartbeats 2000000 in
theorem statusTraps_walk (x : Nat) (f t : Int) (w : World) (hx : x < 18446744073709551616) :
    Calls Try.prog 5 #[.int .u64 (x : Int), .int .i64 f, .int .i64 t] w fun e w' => e = .returned (.bool true) ∧ Below w.heap.size w w' := by
  go_enter Try.func5, Try.ntmps5
  go_wp2_with fail
  refine (leave_any x t _ hx).mono ?_
  rintro e w' ⟨rfl, rfl⟩
  go_wp2_with fail
  refine (rleave_any x t _ hx).mono ?_
  rintro e w1 ⟨rfl, hb1⟩
  go_wp2_with fail
  refine (enter_any x f t _ hx).mono ?_
  rintro e w' ⟨rfl, rfl⟩
  go_wp2_with fail
  refine (renter_any x f t _ hx).mono ?_
  rintro e w2 ⟨rfl, hb2⟩
  go_wp2_with fail
  refine (live20 _).mono ?_
  rintro e w' ⟨rfl, rfl⟩
  go_wp2
  go_ret
  exact ⟨rfl, (((Fr.refl _).step hb1).step hb2).1⟩
end Go.Proofs.Ytaogccjihbbdcaa
