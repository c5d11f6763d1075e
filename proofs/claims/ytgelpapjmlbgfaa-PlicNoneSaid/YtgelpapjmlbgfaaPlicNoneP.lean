/- PlicNone returns true for every input, and changes nothing that was there. No condition beyond what the row itself says. -/
import Derived.Test.YtgelpapjmlbgfaaRows
import Derived.Test.YtgelpapjmlbgfaaPlicNone
import Derived.Test.YtgelpapjmlbgfaaLift
import Derived.Test.YtgelpapjmlbgfaaLeaf

namespace Go.Proofs.Ytgelpapjmlbgfaa.plicNone
open Go.ChangeShapes Go.WideShapes Go.ChangeAt Go.RowKit
open Go.ChangeMaps (open_string shut_string)
set_option linter.unusedVariables false

theorem own : ownKnob Try.prog.godebug = none := by kernel_rfl
theorem laidOut : laidOutB Try.prog = true := by kernel_rfl

set_option maxRecDepth 100000 in
theorem lifted (os : Os) (started : os.Started) (H : Type) (enc : TypeId × Value → H) :
    ReturnsInHanded {} Try.checked os 8 .any (Rows.plicNoneSpec.pre6 enc Try.prog Try.f8 Rows.plicNoneRow.domain false) (Rows.plicNoneSpec.post enc Try.prog Try.f8 false true false false) := by
  refine returnsInHanded_of_change (C := Try.checked) own started (by kernel_rfl) Try.func8
    (ChangeSpec.witness6 (enc := enc) (C := Try.checked) false ⟨#[], #[.int .u64 0, .agg #[.int .i64 0, .int .i64 0]], []⟩ 8 (by kernel_rfl) (by kernel_rfl) (by kernel_rfl) (by kernel_rfl)) ?_
  intro W base args ds gs before hval0 hW hcnd _
  have hval : ∀ (j : Nat) t v, Try.f8.params[j]? = some t → args[j]? = some v → Value.okWide Try.prog W .any base t v := hval0
  have hW' := hW
  obtain ⟨p, q, hA0, hV, rfl, hfz, hnd⟩ := hW
  have hA : DataW.TrodAll enc Try.prog W 0 (fun _ => true) true Try.f8.params.toList args.toList ds p := hA0
  rw [Try.params8] at hA hval
  obtain ⟨v0, vs0, d0, ds0, p0, q0, hargs, rfl, rfl, h0, r0⟩ := trodAll_cons hA
  obtain ⟨v1, vs1, d1, ds1, p1, q1, rfl, rfl, rfl, h1, r1⟩ := trodAll_cons r0
  obtain ⟨rfl, rfl, rfl⟩ := trodAll_nil r1
  obtain rfl : args = #[v0, v1] := by cases args; simp_all
  obtain ⟨n0, rfl, rfl, rfl, w0⟩ := open_int Try.underlying22 (hval 0 22 v0 rfl rfl) h0
  obtain ⟨x0, rfl, hx0⟩ := u64_nat w0
  obtain ⟨c1, rfl, z1, hc1⟩ := agg_cells (by kernel_rfl) (hval 1 81 v1 rfl rfl) h1
  obtain ⟨n1_0, e1_0, w1_0⟩ := leaf_int 3 0 hc1 (by kernel_rfl) (by kernel_rfl) Try.underlying3
  obtain ⟨n1_1, e1_1, w1_1⟩ := leaf_int 3 1 hc1 (by kernel_rfl) (by kernel_rfl) Try.underlying3
  obtain rfl : c1 = #[.int .i64 n1_0, .int .i64 n1_1] := arr2 (by rw [z1]; kernel_rfl) e1_0 e1_1
  clear hA0 hval0
  refine (plicNone_walk x0 n1_0 n1_1 W hx0).mono fun e W' ⟨he, bel⟩ => ?_
  subst he
  exact ⟨_, rfl, post_law laidOut rfl Try.underlying4 (by kernel_rfl) rfl rfl hW' bel⟩

theorem over : Rows.plicNoneRow.holds Try.pinned (OpenSpec.ofChange Rows.plicNoneSpec) :=
  OpenClaim.holds_of_wide 8 Try.f8 rfl rfl rfl rfl rfl rfl rfl ⟨rfl, rfl, rfl, rfl, rfl⟩ rfl rfl rfl rfl rfl (by kernel_rfl) Try.func8 (by kernel_rfl)
    (of_decide_eq_true (by kernel_rfl)) (by unfold Func.isWrapper; first | (rw [if_pos (by decide +kernel)]; kernel_rfl) | (rw [if_neg (by decide +kernel)]; exact ⟨rfl, rfl⟩))
    (fun os started H enc _ => lifted os started H enc)

theorem proved : Rows.PlicNoneSaid := over
#print axioms proved
end Go.Proofs.Ytgelpapjmlbgfaa.plicNone
