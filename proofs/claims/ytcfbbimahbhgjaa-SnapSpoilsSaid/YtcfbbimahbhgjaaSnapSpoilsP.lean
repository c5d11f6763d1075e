/- SnapSpoils returns true for every input, and changes nothing that was there. No condition beyond what the row itself says. -/
import Derived.Test.YtcfbbimahbhgjaaRows
import Derived.Test.YtcfbbimahbhgjaaSoA
import Derived.Test.YtcfbbimahbhgjaaSoB
import Derived.Test.YtcfbbimahbhgjaaLift
import Derived.Test.YtcfbbimahbhgjaaLeaf

namespace Go.Proofs.Ytcfbbimahbhgjaa.snapSpoils
open Go.ChangeShapes Go.WideShapes Go.ChangeAt Go.RowKit
open Go.ChangeMaps (open_string shut_string)
set_option linter.unusedVariables false

theorem own : ownKnob Try.prog.godebug = none := by kernel_rfl
theorem laidOut : laidOutB Try.prog = true := by kernel_rfl

set_option maxRecDepth 100000 in
theorem lifted (os : Os) (started : os.Started) (H : Type) (enc : TypeId × Value → H) :
    ReturnsInHanded {} Try.checked os 5 .any (Rows.snapSpoilsSpec.pre6 enc Try.prog Try.f5 Rows.snapSpoilsRow.domain false) (Rows.snapSpoilsSpec.post enc Try.prog Try.f5 false true false false) := by
  refine returnsInHanded_of_change (C := Try.checked) own started (by kernel_rfl) Try.func5
    (ChangeSpec.witness6 (enc := enc) (C := Try.checked) false ⟨#[], #[.agg #[.int .i64 0, .int .i64 0, .int .i64 0, .int .i64 0, .int .i64 0, .int .i64 0, .int .i64 0, .int .i64 0, .int .i64 0, .int .i64 0, .int .i64 0, .int .i64 0, .slice none 0 0, .slice none 0 0], .slice none 0 0, .int .i64 0, .int .u8 0], []⟩ 8 (by kernel_rfl) (by kernel_rfl) (by kernel_rfl) (by kernel_rfl)) ?_
  intro W base args ds gs before hval0 hW hcnd _
  have hval : ∀ (j : Nat) t v, Try.f5.params[j]? = some t → args[j]? = some v → Value.okWide Try.prog W .any base t v := hval0
  have hW' := hW
  obtain ⟨p, q, hA0, hV, rfl, hfz, hnd⟩ := hW
  have hA : DataW.TrodAll enc Try.prog W 0 (fun _ => true) true Try.f5.params.toList args.toList ds p := hA0
  rw [Try.params5] at hA hval
  obtain ⟨v0, vs0, d0, ds0, p0, q0, hargs, rfl, rfl, h0, r0⟩ := trodAll_cons hA
  obtain ⟨v1, vs1, d1, ds1, p1, q1, rfl, rfl, rfl, h1, r1⟩ := trodAll_cons r0
  obtain ⟨v2, vs2, d2, ds2, p2, q2, rfl, rfl, rfl, h2, r2⟩ := trodAll_cons r1
  obtain ⟨v3, vs3, d3, ds3, p3, q3, rfl, rfl, rfl, h3, r3⟩ := trodAll_cons r2
  obtain ⟨rfl, rfl, rfl⟩ := trodAll_nil r3
  obtain rfl : args = #[v0, v1, v2, v3] := by cases args; simp_all
  obtain ⟨c0, rfl, z0, hc0⟩ := agg_cells (by kernel_rfl) (hval 0 61 v0 rfl rfl) h0
  obtain ⟨n0_0, e0_0, w0_0⟩ := leaf_int 3 0 hc0 (by kernel_rfl) (by kernel_rfl) Try.underlying3
  obtain ⟨n0_1, e0_1, w0_1⟩ := leaf_int 3 1 hc0 (by kernel_rfl) (by kernel_rfl) Try.underlying3
  obtain ⟨n0_2, e0_2, w0_2⟩ := leaf_int 3 2 hc0 (by kernel_rfl) (by kernel_rfl) Try.underlying3
  obtain ⟨n0_3, e0_3, w0_3⟩ := leaf_int 3 3 hc0 (by kernel_rfl) (by kernel_rfl) Try.underlying3
  obtain ⟨n0_4, e0_4, w0_4⟩ := leaf_int 3 4 hc0 (by kernel_rfl) (by kernel_rfl) Try.underlying3
  obtain ⟨n0_5, e0_5, w0_5⟩ := leaf_int 3 5 hc0 (by kernel_rfl) (by kernel_rfl) Try.underlying3
  obtain ⟨n0_6, e0_6, w0_6⟩ := leaf_int 3 6 hc0 (by kernel_rfl) (by kernel_rfl) Try.underlying3
  obtain ⟨n0_7, e0_7, w0_7⟩ := leaf_int 3 7 hc0 (by kernel_rfl) (by kernel_rfl) Try.underlying3
  obtain ⟨n0_8, e0_8, w0_8⟩ := leaf_int 3 8 hc0 (by kernel_rfl) (by kernel_rfl) Try.underlying3
  obtain ⟨n0_9, e0_9, w0_9⟩ := leaf_int 3 9 hc0 (by kernel_rfl) (by kernel_rfl) Try.underlying3
  obtain ⟨n0_10, e0_10, w0_10⟩ := leaf_int 3 10 hc0 (by kernel_rfl) (by kernel_rfl) Try.underlying3
  obtain ⟨n0_11, e0_11, w0_11⟩ := leaf_int 3 11 hc0 (by kernel_rfl) (by kernel_rfl) Try.underlying3
  obtain ⟨a0_12, len0_12, cap0_12, dd0_12, pp0_12, e0_12, t0_12⟩ := leaf_slice 58 12 hc0 (by kernel_rfl) (by kernel_rfl) Try.underlying58
  obtain ⟨a0_13, len0_13, cap0_13, dd0_13, pp0_13, e0_13, t0_13⟩ := leaf_slice 59 13 hc0 (by kernel_rfl) (by kernel_rfl) Try.underlying59
  obtain rfl : c0 = #[.int .i64 n0_0, .int .i64 n0_1, .int .i64 n0_2, .int .i64 n0_3, .int .i64 n0_4, .int .i64 n0_5, .int .i64 n0_6, .int .i64 n0_7, .int .i64 n0_8, .int .i64 n0_9, .int .i64 n0_10, .int .i64 n0_11, .slice a0_12 len0_12 cap0_12, .slice a0_13 len0_13 cap0_13] := arr14 (by rw [z0]; kernel_rfl) e0_0 e0_1 e0_2 e0_3 e0_4 e0_5 e0_6 e0_7 e0_8 e0_9 e0_10 e0_11 e0_12 e0_13
  obtain ⟨a1, len1, cap1, rfl⟩ := okWide_slice Try.underlying62 (hval 1 62 v1 rfl rfl)
  have hs1 := h1
  obtain ⟨n2, rfl, rfl, rfl, w2⟩ := open_int Try.underlying3 (hval 2 3 v2 rfl rfl) h2
  obtain ⟨n3, rfl, rfl, rfl, w3⟩ := open_int Try.underlying5 (hval 3 5 v3 rfl rfl) h3
  obtain ⟨x3, rfl, hx3⟩ := u8_nat w3
  obtain ⟨hpn, pl, hP⟩ := parts_of t0_12
  obtain ⟨hln, hL⟩ := lines_of t0_13
  obtain ⟨hen, hE⟩ := events_of hs1
  clear hA0 hval0
  refine (spoils_any n0_0 n0_1 n0_2 n0_3 n0_4 n0_5 n0_6 n0_7 n0_8 n0_9 n0_10 n0_11 a0_12 a0_13 a1 len0_12 cap0_12 len0_13 cap0_13 len1 cap1 n2 x3 pl _ (i64_I w0_0) (i64_I w0_2) hpn hln hen hx3 (i64_bound w2).2 hP hL hE).mono fun e W' ⟨he, bel⟩ => ?_
  subst he
  exact ⟨_, rfl, post_law laidOut rfl Try.underlying4 (by kernel_rfl) rfl rfl hW' bel⟩

theorem over : Rows.snapSpoilsRow.holds Try.pinned (OpenSpec.ofChange Rows.snapSpoilsSpec) :=
  OpenClaim.holds_of_wide 5 Try.f5 rfl rfl rfl rfl rfl rfl rfl ⟨rfl, rfl, rfl, rfl, rfl⟩ rfl rfl rfl rfl rfl (by kernel_rfl) Try.func5 (by kernel_rfl)
    (of_decide_eq_true (by kernel_rfl)) (by unfold Func.isWrapper; first | (rw [if_pos (by decide +kernel)]; kernel_rfl) | (rw [if_neg (by decide +kernel)]; exact ⟨rfl, rfl⟩))
    (fun os started H enc _ => lifted os started H enc)

theorem proved : Rows.SnapSpoilsSaid := over
#print axioms proved
end Go.Proofs.Ytcfbbimahbhgjaa.snapSpoils
