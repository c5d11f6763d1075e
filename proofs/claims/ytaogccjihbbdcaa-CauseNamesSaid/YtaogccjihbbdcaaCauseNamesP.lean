/- CauseNames returns true for every input, and changes nothing that was there. No condition beyond what the row itself says. -/
import Derived.Test.YtaogccjihbbdcaaRows
import Derived.Test.YtaogccjihbbdcaaCauseNames
import Derived.Test.YtaogccjihbbdcaaLift
import Derived.Test.YtaogccjihbbdcaaLeaf

namespace Go.Proofs.Ytaogccjihbbdcaa.causeNames
open Go.ChangeShapes Go.WideShapes Go.ChangeAt Go.RowKit
open Go.ChangeMaps (open_string shut_string)
set_option linter.unusedVariables false

theorem own : ownKnob Try.prog.godebug = none := by kernel_rfl
theorem laidOut : laidOutB Try.prog = true := by kernel_rfl

set_option maxRecDepth 100000 in
theorem lifted (os : Os) (started : os.Started) (H : Type) (enc : TypeId × Value → H) :
    ReturnsInHanded {} Try.checked os 6 .any (Rows.causeNamesSpec.pre6 enc Try.prog Try.f6 Rows.causeNamesRow.domain false) (Rows.causeNamesSpec.post enc Try.prog Try.f6 false true false false) := by
  refine returnsInHanded_of_change (C := Try.checked) own started (by kernel_rfl) Try.func6
    (ChangeSpec.witness6 (enc := enc) (C := Try.checked) false ⟨#[], #[.agg #[.bool false, .int .i64 0], .int .u64 0, .string ⟨#[]⟩], []⟩ 8 (by kernel_rfl) (by kernel_rfl) (by kernel_rfl) (by kernel_rfl)) ?_
  intro W base args ds gs before hval0 hW hcnd _
  have hval : ∀ (j : Nat) t v, Try.f6.params[j]? = some t → args[j]? = some v → Value.okWide Try.prog W .any base t v := hval0
  have hW' := hW
  obtain ⟨p, q, hA0, hV, rfl, hfz, hnd⟩ := hW
  have hA : DataW.TrodAll enc Try.prog W 0 (fun _ => true) true Try.f6.params.toList args.toList ds p := hA0
  rw [Try.params6] at hA hval
  obtain ⟨v0, vs0, d0, ds0, p0, q0, hargs, rfl, rfl, h0, r0⟩ := trodAll_cons hA
  obtain ⟨v1, vs1, d1, ds1, p1, q1, rfl, rfl, rfl, h1, r1⟩ := trodAll_cons r0
  obtain ⟨v2, vs2, d2, ds2, p2, q2, rfl, rfl, rfl, h2, r2⟩ := trodAll_cons r1
  obtain ⟨rfl, rfl, rfl⟩ := trodAll_nil r2
  obtain rfl : args = #[v0, v1, v2] := by cases args; simp_all
  obtain ⟨c0, rfl, z0, hc0⟩ := agg_cells (by kernel_rfl) (hval 0 24 v0 rfl rfl) h0
  obtain ⟨b0_0, e0_0⟩ := leaf_bool 4 0 hc0 (by kernel_rfl) (by kernel_rfl) Try.underlying4
  obtain ⟨n0_1, e0_1, w0_1⟩ := leaf_int 3 1 hc0 (by kernel_rfl) (by kernel_rfl) Try.underlying3
  obtain rfl : c0 = #[.bool b0_0, .int .i64 n0_1] := arr2 (by rw [z0]; kernel_rfl) e0_0 e0_1
  obtain ⟨n1, rfl, rfl, rfl, w1⟩ := open_int Try.underlying22 (hval 1 22 v1 rfl rfl) h1
  obtain ⟨x1, rfl, hx1⟩ := u64_nat w1
  obtain ⟨s2, rfl, rfl, rfl, hs2⟩ := open_string Try.underlying9 (hval 2 9 v2 rfl rfl) h2
  clear hA0 hval0
  refine (causeNames_walk b0_0 n0_1 x1 s2 W hx1 (by unfold maxLen at hs2; exact hs2)).mono fun e W' ⟨he, bel⟩ => ?_
  subst he
  exact ⟨_, rfl, post_law laidOut rfl Try.underlying4 (by kernel_rfl) rfl rfl hW' bel⟩

theorem over : Rows.causeNamesRow.holds Try.pinned (OpenSpec.ofChange Rows.causeNamesSpec) :=
  OpenClaim.holds_of_wide 6 Try.f6 rfl rfl rfl rfl rfl rfl rfl ⟨rfl, rfl, rfl, rfl, rfl⟩ rfl rfl rfl rfl rfl (by kernel_rfl) Try.func6 (by kernel_rfl)
    (of_decide_eq_true (by kernel_rfl)) (by unfold Func.isWrapper; first | (rw [if_pos (by decide +kernel)]; kernel_rfl) | (rw [if_neg (by decide +kernel)]; exact ⟨rfl, rfl⟩))
    (fun os started H enc _ => lifted os started H enc)

theorem proved : Rows.CauseNamesSaid := over
#print axioms proved
end Go.Proofs.Ytaogccjihbbdcaa.causeNames
