/- LinePlaces returns true for every input, and changes nothing that was there. No condition beyond what the row itself says. -/
import Derived.Test.YtbboaekfhdeolaaRows
import Derived.Test.YtbboaekfhdeolaaBytes
import Derived.Test.YtbboaekfhdeolaaLnI
import Derived.Test.YtbboaekfhdeolaaLift
import Derived.Test.YtbboaekfhdeolaaLeaf

namespace Go.Proofs.Ytbboaekfhdeolaa.linePlaces
open Go.ChangeShapes Go.WideShapes Go.ChangeAt Go.RowKit
open Go.ChangeMaps (open_string shut_string)
set_option linter.unusedVariables false

theorem own : ownKnob Try.prog.godebug = none := by kernel_rfl
theorem laidOut : laidOutB Try.prog = true := by kernel_rfl

set_option maxRecDepth 100000 in
theorem lifted (os : Os) (started : os.Started) (H : Type) (enc : TypeId × Value → H) :
    ReturnsInHanded {} Try.checked os 3 .any (Rows.linePlacesSpec.pre6 enc Try.prog Try.f3 Rows.linePlacesRow.domain false) (Rows.linePlacesSpec.post enc Try.prog Try.f3 false true false false) := by
  refine returnsInHanded_of_change (C := Try.checked) own started (by kernel_rfl) Try.func3
    (ChangeSpec.witness6 (enc := enc) (C := Try.checked) false ⟨#[], #[.slice none 0 0, .agg #[.int .i64 0, .int .i64 0], .int .u64 0], []⟩ 8 (by kernel_rfl) (by kernel_rfl) (by kernel_rfl) (by kernel_rfl)) ?_
  intro W base args ds gs before hval0 hW hcnd _
  have hval : ∀ (j : Nat) t v, Try.f3.params[j]? = some t → args[j]? = some v → Value.okWide Try.prog W .any base t v := hval0
  have hW' := hW
  obtain ⟨p, q, hA0, hV, rfl, hfz, hnd⟩ := hW
  have hA : DataW.TrodAll enc Try.prog W 0 (fun _ => true) true Try.f3.params.toList args.toList ds p := hA0
  rw [Try.params3] at hA hval
  obtain ⟨v0, vs0, d0, ds0, p0, q0, hargs, rfl, rfl, h0, r0⟩ := trodAll_cons hA
  obtain ⟨v1, vs1, d1, ds1, p1, q1, rfl, rfl, rfl, h1, r1⟩ := trodAll_cons r0
  obtain ⟨v2, vs2, d2, ds2, p2, q2, rfl, rfl, rfl, h2, r2⟩ := trodAll_cons r1
  obtain ⟨rfl, rfl, rfl⟩ := trodAll_nil r2
  obtain rfl : args = #[v0, v1, v2] := by cases args; simp_all
  obtain ⟨a0, len0, cap0, rfl⟩ := okWide_slice Try.underlying22 (hval 0 22 v0 rfl rfl)
  have hs0 := h0
  obtain ⟨c1, rfl, z1, hc1⟩ := agg_cells (by kernel_rfl) (hval 1 23 v1 rfl rfl) h1
  obtain ⟨n1_0, e1_0, w1_0⟩ := leaf_int 3 0 hc1 (by kernel_rfl) (by kernel_rfl) Try.underlying3
  obtain ⟨n1_1, e1_1, w1_1⟩ := leaf_int 3 1 hc1 (by kernel_rfl) (by kernel_rfl) Try.underlying3
  obtain rfl : c1 = #[.int .i64 n1_0, .int .i64 n1_1] := arr2 (by rw [z1]; kernel_rfl) e1_0 e1_1
  obtain ⟨n2, rfl, rfl, rfl, w2⟩ := open_int Try.underlying24 (hval 2 24 v2 rfl rfl) h2
  obtain ⟨x2, rfl, hx2⟩ := u64_nat w2
  clear hA0 hval0
  refine (places_any a0 len0 cap0 _ n1_0 n1_1 x2 W (bytes_of hs0).2.2 (bytes_of hs0).2.1 (bytes_of hs0).1 hx2).mono fun e W' ⟨he, bel⟩ => ?_
  subst he
  exact ⟨_, rfl, post_law laidOut rfl Try.underlying4 (by kernel_rfl) rfl rfl hW' bel⟩

theorem over : Rows.linePlacesRow.holds Try.pinned (OpenSpec.ofChange Rows.linePlacesSpec) :=
  OpenClaim.holds_of_wide 3 Try.f3 rfl rfl rfl rfl rfl rfl rfl ⟨rfl, rfl, rfl, rfl, rfl⟩ rfl rfl rfl rfl rfl (by kernel_rfl) Try.func3 (by kernel_rfl)
    (of_decide_eq_true (by kernel_rfl)) (by unfold Func.isWrapper; first | (rw [if_pos (by decide +kernel)]; kernel_rfl) | (rw [if_neg (by decide +kernel)]; exact ⟨rfl, rfl⟩))
    (fun os started H enc _ => lifted os started H enc)

theorem proved : Rows.LinePlacesSaid := over
#print axioms proved
end Go.Proofs.Ytbboaekfhdeolaa.linePlaces
