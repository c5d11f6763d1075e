/- RamPlays returns true for every input, and changes nothing that was there. No condition beyond what the row itself says. -/
import Derived.Test.YtbboaekfhdeolaaRows
import Derived.Test.YtbboaekfhdeolaaRpO
import Derived.Test.YtbboaekfhdeolaaLift
import Derived.Test.YtbboaekfhdeolaaLeaf

namespace Go.Proofs.Ytbboaekfhdeolaa.ramPlays
open Go.ChangeShapes Go.WideShapes Go.ChangeAt Go.RowKit
open Go.ChangeMaps (open_string shut_string)
set_option linter.unusedVariables false

theorem own : ownKnob Try.prog.godebug = none := by kernel_rfl
theorem laidOut : laidOutB Try.prog = true := by kernel_rfl

set_option maxRecDepth 100000 in
theorem lifted (os : Os) (started : os.Started) (H : Type) (enc : TypeId × Value → H) :
    ReturnsInHanded {} Try.checked os 7 .any (Rows.ramPlaysSpec.pre6 enc Try.prog Try.f7 Rows.ramPlaysRow.domain false) (Rows.ramPlaysSpec.post enc Try.prog Try.f7 false true false false) := by
  refine returnsInHanded_of_change (C := Try.checked) own started (by kernel_rfl) Try.func7
    (ChangeSpec.witness6 (enc := enc) (C := Try.checked) false ⟨#[], #[.int .i64 0, .slice none 0 0, .agg #[.int .i64 0, .int .u64 0, .int .i64 0, .int .u64 0, .slice none 0 0]], []⟩ 8 (by kernel_rfl) (by kernel_rfl) (by kernel_rfl) (by kernel_rfl)) ?_
  intro W base args ds gs before hval0 hW hcnd _
  have hval : ∀ (j : Nat) t v, Try.f7.params[j]? = some t → args[j]? = some v → Value.okWide Try.prog W .any base t v := hval0
  have hW' := hW
  obtain ⟨p, q, hA0, hV, rfl, hfz, hnd⟩ := hW
  have hA : DataW.TrodAll enc Try.prog W 0 (fun _ => true) true Try.f7.params.toList args.toList ds p := hA0
  rw [Try.params7] at hA hval
  obtain ⟨v0, vs0, d0, ds0, p0, q0, hargs, rfl, rfl, h0, r0⟩ := trodAll_cons hA
  obtain ⟨v1, vs1, d1, ds1, p1, q1, rfl, rfl, rfl, h1, r1⟩ := trodAll_cons r0
  obtain ⟨v2, vs2, d2, ds2, p2, q2, rfl, rfl, rfl, h2, r2⟩ := trodAll_cons r1
  obtain ⟨rfl, rfl, rfl⟩ := trodAll_nil r2
  obtain rfl : args = #[v0, v1, v2] := by cases args; simp_all
  obtain ⟨n0, rfl, rfl, rfl, w0⟩ := open_int Try.underlying3 (hval 0 3 v0 rfl rfl) h0
  obtain ⟨a1, len1, cap1, rfl⟩ := okWide_slice Try.underlying61 (hval 1 61 v1 rfl rfl)
  have hs1 := h1
  obtain ⟨c2, rfl, z2, hc2⟩ := agg_cells (by kernel_rfl) (hval 2 63 v2 rfl rfl) h2
  obtain ⟨n2_0, e2_0, w2_0⟩ := leaf_int 3 0 hc2 (by kernel_rfl) (by kernel_rfl) Try.underlying3
  obtain ⟨n2_1, e2_1, w2_1⟩ := leaf_int 24 1 hc2 (by kernel_rfl) (by kernel_rfl) Try.underlying24
  obtain ⟨x2_1, rfl, h2_1⟩ := u64_nat w2_1
  obtain ⟨n2_2, e2_2, w2_2⟩ := leaf_int 3 2 hc2 (by kernel_rfl) (by kernel_rfl) Try.underlying3
  obtain ⟨n2_3, e2_3, w2_3⟩ := leaf_int 24 3 hc2 (by kernel_rfl) (by kernel_rfl) Try.underlying24
  obtain ⟨x2_3, rfl, h2_3⟩ := u64_nat w2_3
  obtain ⟨a2_4, len2_4, cap2_4, dd2_4, pp2_4, e2_4, t2_4⟩ := leaf_slice 22 4 hc2 (by kernel_rfl) (by kernel_rfl) Try.underlying22
  obtain rfl : c2 = #[.int .i64 n2_0, .int .u64 (x2_1 : Int), .int .i64 n2_2, .int .u64 (x2_3 : Int), .slice a2_4 len2_4 cap2_4] := arr5 (by rw [z2]; kernel_rfl) e2_0 e2_1 e2_2 e2_3 e2_4
  clear hA0 hval0
  refine (rplays_any n0 a1 len1 cap1 n2_0 x2_1 n2_2 x2_3 a2_4 len2_4 cap2_4 W (rdeeds_of hs1).1 (rdeeds_of hs1).2 ⟨h2_1, h2_3, (i64_bound w2_2).2⟩ (bytesOk_of t2_4)).mono fun e W' ⟨he, bel⟩ => ?_
  subst he
  exact ⟨_, rfl, post_law laidOut rfl Try.underlying4 (by kernel_rfl) rfl rfl hW' bel⟩

theorem over : Rows.ramPlaysRow.holds Try.pinned (OpenSpec.ofChange Rows.ramPlaysSpec) :=
  OpenClaim.holds_of_wide 7 Try.f7 rfl rfl rfl rfl rfl rfl rfl ⟨rfl, rfl, rfl, rfl, rfl⟩ rfl rfl rfl rfl rfl (by kernel_rfl) Try.func7 (by kernel_rfl)
    (of_decide_eq_true (by kernel_rfl)) (by unfold Func.isWrapper; first | (rw [if_pos (by decide +kernel)]; kernel_rfl) | (rw [if_neg (by decide +kernel)]; exact ⟨rfl, rfl⟩))
    (fun os started H enc _ => lifted os started H enc)

theorem proved : Rows.RamPlaysSaid := over
#print axioms proved
end Go.Proofs.Ytbboaekfhdeolaa.ramPlays
