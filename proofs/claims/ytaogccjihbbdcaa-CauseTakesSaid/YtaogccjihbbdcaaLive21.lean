/- The chapter's examples of layer 21 hold: live returns true. -/
import Derived.Test.YtaogccjihbbdcaaTabG
namespace Go.Proofs.Ytaogccjihbbdcaa
open Go.RowKit
set_option linter.unusedSimpArgs false
set_option linter.unusedVariables false

theorem cfirst_136 (w : World) : Calls Try.prog 9 #[.int .u64 136] w fun e w' => e = .returned (.tuple #[.agg #[.bool true, .int .i64 3], .bool true]) ∧ Below w.heap.size w w' :=
  (cfirst_any 136 w (by decide)).mono fun e w' ⟨he, hb⟩ => ⟨by rw [he]; rfl, hb⟩
theorem cword_live (w : World) : Calls Try.prog 28 #[.agg #[.bool true, .int .i64 7]] w fun e w' => e = .returned (.int .u64 9223372036854775815) ∧ Below w.heap.size w w' :=
  (cword_any true 7 w).mono fun e w' ⟨he, hb⟩ => ⟨by rw [he]; rfl, hb⟩
theorem cto_live (w : World) : Calls Try.prog 18 #[.agg #[.bool false, .int .i64 2], .int .i64 0, .int .u64 4, .int .u64 0] w fun e w' => e = .returned (.int .i64 1) ∧ Below w.heap.size w w' :=
  (cto_any false 2 0 4 0 w (by decide) (by decide)).mono fun e w' ⟨he, hb⟩ => ⟨by rw [he]; rfl, hb⟩

set_option maxRecDepth 100000 in
set_option maxHeartbeats 1000000 in
theorem live21 (w : World) : Calls Try.prog 11 #[] w fun e w' => e = .returned (.bool true) ∧ Below w.heap.size w w' := by
  go_enter Try.func11, Try.ntmps11
  go_wp2_with fail
  refine (cfirst_136 _).mono ?_
  rintro e w1 ⟨rfl, hb1⟩
  go_wp2_with fail
  refine (cword_live _).mono ?_
  rintro e w2 ⟨rfl, hb2⟩
  obtain ⟨y0, y1⟩ := two_cells (keepB hb2 (heap_alloc_new _ _))
  have hC := (((Fr.refl w).step hb1).alloc _).step hb2
  go_wp2_with fail
  refine (cto_live _).mono ?_
  rintro e w3 ⟨rfl, hb3⟩
  go_wp2
  go_ret
  exact ⟨rfl, (hC.step hb3).1⟩
end Go.Proofs.Ytaogccjihbbdcaa
