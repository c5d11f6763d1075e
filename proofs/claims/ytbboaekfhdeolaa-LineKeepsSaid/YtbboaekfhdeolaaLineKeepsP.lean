/- LineKeeps returns true for every input, and changes nothing that was there. No condition beyond what the row itself says. -/
import Derived.Test.YtbboaekfhdeolaaRows
import Derived.Test.YtbboaekfhdeolaaBytes
import Derived.Test.YtbboaekfhdeolaaLnM
import Derived.Test.YtbboaekfhdeolaaLift
import Derived.Test.YtbboaekfhdeolaaLeaf

namespace Go.Proofs.Ytbboaekfhdeolaa.lineKeeps
open Go.ChangeShapes Go.WideShapes Go.ChangeAt Go.RowKit
open Go.ChangeMaps (open_string shut_string)
set_option linter.unusedVariables false

theorem own : ownKnob Try.prog.godebug = none := by kernel_rfl
theorem laidOut : laidOutB Try.prog = true := by kernel_rfl

set_option maxRecDepth 100000 in
theorem lifted (os : Os) (started : os.Started) (H : Type) (enc : TypeId × Value → H) :
    ReturnsInHanded {} Try.checked os 5 .any (Rows.lineKeepsSpec.pre6 enc Try.prog Try.f5 Rows.lineKeepsRow.domain false) (Rows.lineKeepsSpec.post enc Try.prog Try.f5 false true false false) := by
  refine returnsInHanded_of_change (C := Try.checked) own started (by kernel_rfl) Try.func5
    (ChangeSpec.witness6 (enc := enc) (C := Try.checked) false ⟨#[], #[.slice none 0 0, .slice none 0 0, .agg #[.int .i64 0, .int .i64 0, .int .i64 0]], []⟩ 8 (by kernel_rfl) (by kernel_rfl) (by kernel_rfl) (by kernel_rfl)) ?_
  intro W base args ds gs before hval0 hW hcnd _
  have hval : ∀ (j : Nat) t v, Try.f5.params[j]? = some t → args[j]? = some v → Value.okWide Try.prog W .any base t v := hval0
  have hW' := hW
  obtain ⟨p, q, hA0, hV, rfl, hfz, hnd⟩ := hW
  have hA : DataW.TrodAll enc Try.prog W 0 (fun _ => true) true Try.f5.params.toList args.toList ds p := hA0
  rw [Try.params5] at hA hval
  obtain ⟨v0, vs0, d0, ds0, p0, q0, hargs, rfl, rfl, h0, r0⟩ := trodAll_cons hA
  obtain ⟨v1, vs1, d1, ds1, p1, q1, rfl, rfl, rfl, h1, r1⟩ := trodAll_cons r0
  obtain ⟨v2, vs2, d2, ds2, p2, q2, rfl, rfl, rfl, h2, r2⟩ := trodAll_cons r1
  obtain ⟨rfl, rfl, rfl⟩ := trodAll_nil r2
  obtain rfl : args = #[v0, v1, v2] := by cases args; simp_all
  obtain ⟨a0, len0, cap0, rfl⟩ := okWide_slice Try.underlying22 (hval 0 22 v0 rfl rfl)
  have hs0 := h0
  obtain ⟨a1, len1, cap1, rfl⟩ := okWide_slice Try.underlying22 (hval 1 22 v1 rfl rfl)
  have hs1 := h1
  obtain ⟨c2, rfl, z2, hc2⟩ := agg_cells (by kernel_rfl) (hval 2 47 v2 rfl rfl) h2
  obtain ⟨n2_0, e2_0, w2_0⟩ := leaf_int 3 0 hc2 (by kernel_rfl) (by kernel_rfl) Try.underlying3
  obtain ⟨n2_1, e2_1, w2_1⟩ := leaf_int 3 1 hc2 (by kernel_rfl) (by kernel_rfl) Try.underlying3
  obtain ⟨n2_2, e2_2, w2_2⟩ := leaf_int 3 2 hc2 (by kernel_rfl) (by kernel_rfl) Try.underlying3
  obtain rfl : c2 = #[.int .i64 n2_0, .int .i64 n2_1, .int .i64 n2_2] := arr3 (by rw [z2]; kernel_rfl) e2_0 e2_1 e2_2
  clear hA0 hval0
  refine (keeps_any a0 len0 cap0 _ a1 len1 cap1 _ n2_0 n2_1 n2_2 W (bytes_of hs0).2.2 (bytes_of hs0).2.1 (bytes_of hs1).2.2 (bytes_of hs1).2.1).mono fun e W' ⟨he, bel⟩ => ?_
  subst he
  exact ⟨_, rfl, post_law laidOut rfl Try.underlying4 (by kernel_rfl) rfl rfl hW' bel⟩

theorem over : Rows.lineKeepsRow.holds Try.pinned (OpenSpec.ofChange Rows.lineKeepsSpec) :=
  OpenClaim.holds_of_wide 5 Try.f5 rfl rfl rfl rfl rfl rfl rfl ⟨rfl, rfl, rfl, rfl, rfl⟩ rfl rfl rfl rfl rfl (by kernel_rfl) Try.func5 (by kernel_rfl)
    (of_decide_eq_true (by kernel_rfl)) (by unfold Func.isWrapper; first | (rw [if_pos (by decide +kernel)]; kernel_rfl) | (rw [if_neg (by decide +kernel)]; exact ⟨rfl, rfl⟩))
    (fun os started H enc _ => lifted os started H enc)

theorem proved : Rows.LineKeepsSaid := over
#print axioms proved
end Go.Proofs.Ytbboaekfhdeolaa.lineKeeps
