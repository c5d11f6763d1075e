/- CauseTakes returns true for every input, and changes nothing that was there. No condition beyond what the row itself says. -/
import Derived.Test.YtaogccjihbbdcaaRows
import Derived.Test.YtaogccjihbbdcaaCauseTakes
import Derived.Test.YtaogccjihbbdcaaLift
import Derived.Test.YtaogccjihbbdcaaLeaf

namespace Go.Proofs.Ytaogccjihbbdcaa.causeTakes
open Go.ChangeShapes Go.WideShapes Go.ChangeAt Go.RowKit
open Go.ChangeMaps (open_string shut_string)
set_option linter.unusedVariables false

theorem own : ownKnob Try.prog.godebug = none := by kernel_rfl
theorem laidOut : laidOutB Try.prog = true := by kernel_rfl

set_option maxRecDepth 100000 in
theorem lifted (os : Os) (started : os.Started) (H : Type) (enc : TypeId × Value → H) :
    ReturnsInHanded {} Try.checked os 4 .any (Rows.causeTakesSpec.pre6 enc Try.prog Try.f4 Rows.causeTakesRow.domain false) (Rows.causeTakesSpec.post enc Try.prog Try.f4 false true false false) := by
  refine returnsInHanded_of_change (C := Try.checked) own started (by kernel_rfl) Try.func4
    (ChangeSpec.witness6 (enc := enc) (C := Try.checked) false ⟨#[], #[.agg #[.bool false, .int .i64 0], .agg #[.int .i64 0, .int .i64 0], .agg #[.int .u64 0, .int .u64 0]], []⟩ 8 (by kernel_rfl) (by kernel_rfl) (by kernel_rfl) (by kernel_rfl)) ?_
  intro W base args ds gs before hval0 hW hcnd _
  have hval : ∀ (j : Nat) t v, Try.f4.params[j]? = some t → args[j]? = some v → Value.okWide Try.prog W .any base t v := hval0
  have hW' := hW
  obtain ⟨p, q, hA0, hV, rfl, hfz, hnd⟩ := hW
  have hA : DataW.TrodAll enc Try.prog W 0 (fun _ => true) true Try.f4.params.toList args.toList ds p := hA0
  rw [Try.params4] at hA hval
  obtain ⟨v0, vs0, d0, ds0, p0, q0, hargs, rfl, rfl, h0, r0⟩ := trodAll_cons hA
  obtain ⟨v1, vs1, d1, ds1, p1, q1, rfl, rfl, rfl, h1, r1⟩ := trodAll_cons r0
  obtain ⟨v2, vs2, d2, ds2, p2, q2, rfl, rfl, rfl, h2, r2⟩ := trodAll_cons r1
  obtain ⟨rfl, rfl, rfl⟩ := trodAll_nil r2
  obtain rfl : args = #[v0, v1, v2] := by cases args; simp_all
  obtain ⟨c0, rfl, z0, hc0⟩ := agg_cells (by kernel_rfl) (hval 0 24 v0 rfl rfl) h0
  obtain ⟨b0_0, e0_0⟩ := leaf_bool 4 0 hc0 (by kernel_rfl) (by kernel_rfl) Try.underlying4
  obtain ⟨n0_1, e0_1, w0_1⟩ := leaf_int 3 1 hc0 (by kernel_rfl) (by kernel_rfl) Try.underlying3
  obtain rfl : c0 = #[.bool b0_0, .int .i64 n0_1] := arr2 (by rw [z0]; kernel_rfl) e0_0 e0_1
  obtain ⟨c1, rfl, z1, hc1⟩ := agg_cells (by kernel_rfl) (hval 1 33 v1 rfl rfl) h1
  obtain ⟨n1_0, e1_0, w1_0⟩ := leaf_int 3 0 hc1 (by kernel_rfl) (by kernel_rfl) Try.underlying3
  obtain ⟨n1_1, e1_1, w1_1⟩ := leaf_int 3 1 hc1 (by kernel_rfl) (by kernel_rfl) Try.underlying3
  obtain rfl : c1 = #[.int .i64 n1_0, .int .i64 n1_1] := arr2 (by rw [z1]; kernel_rfl) e1_0 e1_1
  obtain ⟨c2, rfl, z2, hc2⟩ := agg_cells (by kernel_rfl) (hval 2 34 v2 rfl rfl) h2
  obtain ⟨n2_0, e2_0, w2_0⟩ := leaf_int 22 0 hc2 (by kernel_rfl) (by kernel_rfl) Try.underlying22
  obtain ⟨x2_0, rfl, h2_0⟩ := u64_nat w2_0
  obtain ⟨n2_1, e2_1, w2_1⟩ := leaf_int 22 1 hc2 (by kernel_rfl) (by kernel_rfl) Try.underlying22
  obtain ⟨x2_1, rfl, h2_1⟩ := u64_nat w2_1
  obtain rfl : c2 = #[.int .u64 (x2_0 : Int), .int .u64 (x2_1 : Int)] := arr2 (by rw [z2]; kernel_rfl) e2_0 e2_1
  clear hA0 hval0
  refine (causeTakes_walk b0_0 n0_1 n1_0 n1_1 x2_0 x2_1 W h2_0 h2_1).mono fun e W' ⟨he, bel⟩ => ?_
  subst he
  exact ⟨_, rfl, post_law laidOut rfl Try.underlying4 (by kernel_rfl) rfl rfl hW' bel⟩

theorem over : Rows.causeTakesRow.holds Try.pinned (OpenSpec.ofChange Rows.causeTakesSpec) :=
  OpenClaim.holds_of_wide 4 Try.f4 rfl rfl rfl rfl rfl rfl rfl ⟨rfl, rfl, rfl, rfl, rfl⟩ rfl rfl rfl rfl rfl (by kernel_rfl) Try.func4 (by kernel_rfl)
    (of_decide_eq_true (by kernel_rfl)) (by unfold Func.isWrapper; first | (rw [if_pos (by decide +kernel)]; kernel_rfl) | (rw [if_neg (by decide +kernel)]; exact ⟨rfl, rfl⟩))
    (fun os started H enc _ => lifted os started H enc)

theorem proved : Rows.CauseTakesSaid := over
#print axioms proved
end Go.Proofs.Ytaogccjihbbdcaa.causeTakes
