/- StatusBack: the walk. -/
import Derived.Test.YtaogccjihbbdcaaStatusBack
namespace Go.Proofs.Ytaogccjihbbdcaa
open Go.RowKit
set_option linter.unusedSimpArgs false
set_option linter.unusedVariables false

theorem enter_v {x : Nat} {f t : Int} {y : Nat} (h : enterOf x f t = y) (w : World) (hx : x < 18446744073709551616) :
    Calls Try.prog 22 #[.int .u64 (x : Int), .int .i64 f, .int .i64 t] w fun e w' => e = .returned (.int .u64 (y : Int)) ∧ w = w' := by
  rw [← h]; exact enter_any x f t w hx
theorem leave_v {x : Nat} {t : Int} {y : Nat} {p : Int} (h : leaveOf x t = y) (hp : leaveTo x t = p) (w : World) (hx : x < 18446744073709551616) :
    Calls Try.prog 20 #[.int .u64 (x : Int), .int .i64 t] w fun e w' => e = .returned (.tuple #[.int .u64 (y : Int), .int .i64 p]) ∧ w = w' := by
  rw [← h, ← hp]; exact leave_any x t w hx
theorem lets_v {x : Nat} {p t : Int} {b : Bool} (h : letsOf x p t = b) (w : World) (hx : x < 18446744073709551616) :
    Calls Try.prog 34 #[.int .u64 (x : Int), .int .i64 p, .int .i64 t] w fun e w' => e = .returned (.bool b) ∧ w = w' := by
  rw [← h]; exact lets_any x p t w hx
theorem has_v {x : Nat} {s : ByteArray} {b : Bool} (h : hasOf x s.data.toList = b) (w : World) (hx : x < 18446744073709551616) :
    Calls Try.prog 35 #[.int .u64 (x : Int), .string s] w fun e w' => e = .returned (.bool b) ∧ w = w' := by
  rw [← h, ← ByteArray.toList_eq]; exact has_any x s w hx
theorem view_v {x : Nat} {y : Nat} (h : viewOf x = y) (w : World) (hx : x < 18446744073709551616) :
    Calls Try.prog 37 #[.int .u64 (x : Int)] w fun e w' => e = .returned (.int .u64 (y : Int)) ∧ Below w.heap.size w w' := by
  rw [← h]; exact view_any x w hx

/-- What the last statement of the law asks. -/
structure Tail (x v z zv vv o : Nat) : Prop where
  hz : legalOf 256 x v = z
  zl : z < 18446744073709551616
  hzv : viewOf z = zv
  hvv : viewOf v = vv
  ho : viewOf allOnes = o
  e1 : bits BinOp.andNot IntKind.u64 (zv : Int) 8589934592 = bits BinOp.andNot IntKind.u64 (vv : Int) 8589934592
  e2 : bits BinOp.andNot IntKind.u64 (z : Int) (o : Int) = bits BinOp.andNot IntKind.u64 (x : Int) (o : Int)
theorem tail_any (x v : Nat) (hx : x < 18446744073709551616) (hv : v < 18446744073709551616) : ∃ z zv vv o, Tail x v z zv vv o :=
  ⟨_, _, _, _, rfl, legalOf_lt 256 x v hx, rfl, rfl, rfl, lay1' x v hx hv, lay2' x v hx hv⟩
theorem view_ones {o : Nat} (h : viewOf allOnes = o) (w : World) : Calls Try.prog 37 #[.int .u64 18446744073709551615] w fun e w' => e = .returned (.int .u64 (o : Int)) ∧ Below w.heap.size w w' := by
  rw [← h]; exact view_any 18446744073709551615 w (by omega)

set_option maxRecDepth 100000 in
set_option maxHeartbeats 4000000 in
theorem back_0 (x v : Nat) (f : Int) (w : World) (hx : x < 18446744073709551616) (hv : v < 18446744073709551616) (h0 : 0 ≤ f) (h1 : f < 256) (hr : f % 3 = 0) :
    Calls Try.prog 7 #[.int .u64 (x : Int), .int .u64 (v : Int), .int .u8 f] w fun e w' => e = .returned (.bool true) ∧ Below w.heap.size w w' := by
  obtain ⟨g1, g2, g3⟩ := back_m x 0 (by omega)
  obtain ⟨z, zv, vv, o, T⟩ := tail_any x v hx hv
  obtain ⟨X, hX⟩ : ∃ X, X = enterM x 0 := ⟨_, rfl⟩
  have hXl : X < 18446744073709551616 := by rw [hX]; exact setMpp_lt _ _
  have E : Hid (enterOf x 0 3 = X) := by show _ = _; rw [hX]; rfl
  rw [← hX] at g1 g2 g3
  obtain ⟨Y, hY⟩ : ∃ Y, leaveOf X 3 = Y := ⟨_, rfl⟩
  have hYl : Y < 18446744073709551616 := by rw [← hY]; exact leaveOf_lt _ _ hXl
  rw [hY] at g3
  have L := Lib.hid hY
  have LT : Hid (leaveTo X 3 = 0) := by show _ = _; unfold leaveTo; rw [if_pos rfl]; exact g1
  have l33 : Hid (letsOf X 3 3 = false) := by show _ = _; unfold letsOf; rw [g2]; rfl
  obtain ⟨b3, hb3⟩ : ∃ b3, x.testBit 3 = b3 := ⟨_, rfl⟩
  have hm1 : Hid (hasOf Y [109, 105, 101] = b3) := by show _ = _; rw [has_mie, g3]; exact hb3
  have hm2 : Hid (hasOf x [109, 105, 101] = b3) := by show _ = _; rw [has_mie]; exact hb3
  obtain ⟨lb, hlb⟩ : ∃ lb, letsOf x 0 3 = lb := ⟨_, rfl⟩
  have hl2 := Lib.hid hlb
  have hl1 : Hid (letsOf Y 0 3 = lb) := by show _ = _; rw [← hlb]; unfold letsOf; rw [g3, if_pos rfl, if_pos rfl]
  obtain ⟨s1, s2, s3⟩ := back_s x false
  obtain ⟨X2, hX2⟩ : ∃ X2, X2 = enterS x false := ⟨_, rfl⟩
  have hX2l : X2 < 18446744073709551616 := by rw [hX2]; exact setB_lt _ _ _
  have E2 : Hid (enterOf x 0 1 = X2) := by show _ = _; rw [hX2]; rfl
  rw [← hX2] at s1 s2 s3
  obtain ⟨Y2, hY2⟩ : ∃ Y2, leaveOf X2 1 = Y2 := ⟨_, rfl⟩
  have hY2l : Y2 < 18446744073709551616 := by rw [← hY2]; exact leaveOf_lt _ _ hX2l
  rw [hY2] at s3
  have L2 := Lib.hid hY2
  have LT2 : Hid (leaveTo X2 1 = 0) := by show _ = _; unfold leaveTo; rw [if_neg (by omega), if_pos rfl, s1]; rfl
  have l11 : Hid (letsOf X2 1 1 = false) := by show _ = _; unfold letsOf; rw [s2]; rfl
  obtain ⟨b1, hb1⟩ : ∃ b1, x.testBit 1 = b1 := ⟨_, rfl⟩
  have hs1 : Hid (hasOf Y2 [115, 105, 101] = b1) := by show _ = _; rw [has_sie, s3]; exact hb1
  have hs2 : Hid (hasOf x [115, 105, 101] = b1) := by show _ = _; rw [has_sie]; exact hb1
  clear s1 s2 s3 hX2 hY2 hb1
  clear g1 g2 g3 hX hY hb3 hlb
  have e1 := T.e1
  have e2 := T.e2
  go_enter Try.func7, Try.ntmps7
  go_wp2_with fail
  refine (enter_v E.out _ hx).mono ?_
  rintro e w' ⟨rfl, rfl⟩
  go_wp2_with fail
  refine (leave_v L.out LT.out _ hXl).mono ?_
  rintro e w' ⟨rfl, rfl⟩
  go_wp2_with fail
  refine (lets_v l33.out _ hXl).mono ?_
  rintro e w' ⟨rfl, rfl⟩
  go_wp2_with fail
  refine (has_v hm1.out _ hYl).mono ?_
  rintro e w' ⟨rfl, rfl⟩
  go_wp2_with fail
  refine (has_v hm2.out _ hx).mono ?_
  rintro e w' ⟨rfl, rfl⟩
  go_wp2_with fail
  refine (lets_v hl1.out _ hYl).mono ?_
  rintro e w' ⟨rfl, rfl⟩
  go_wp2_with fail
  refine (lets_v hl2.out _ hx).mono ?_
  rintro e w' ⟨rfl, rfl⟩
  go_wp2_with fail
  refine (enter_v E2.out _ hx).mono ?_
  rintro e w' ⟨rfl, rfl⟩
  go_wp2_with fail
  refine (leave_v L2.out LT2.out _ hX2l).mono ?_
  rintro e w' ⟨rfl, rfl⟩
  go_wp2_with fail
  refine (lets_v l11.out _ hX2l).mono ?_
  rintro e w' ⟨rfl, rfl⟩
  go_wp2_with fail
  refine (has_v hs1.out _ hY2l).mono ?_
  rintro e w' ⟨rfl, rfl⟩
  go_wp2_with fail
  refine (has_v hs2.out _ hx).mono ?_
  rintro e w' ⟨rfl, rfl⟩
  go_wp2_with fail
  refine (lay_any x v _ hx hv).mono ?_
  rw [T.hz]
  rintro e w1 ⟨rfl, hw1⟩
  go_wp2_with fail
  refine (view_v T.hzv _ T.zl).mono ?_
  rintro e w2 ⟨rfl, hw2⟩
  go_wp2_with fail
  refine (view_v T.hvv _ hv).mono ?_
  rintro e w3 ⟨rfl, hw3⟩
  go_wp2_with fail
  refine (view_ones T.ho _).mono ?_
  rintro e w4 ⟨rfl, hw4⟩
  go_wp2_with fail
  refine (view_ones T.ho _).mono ?_
  rintro e w5 ⟨rfl, hw5⟩
  go_wp2_with fail
  refine (live20 _).mono ?_
  rintro e w' ⟨rfl, rfl⟩
  go_wp2
  go_ret
  exact ⟨rfl, (((((((Fr.refl w).alloc _).step hw1).step hw2).step hw3).step hw4).step hw5).1⟩

set_option maxRecDepth 100000 in
set_option maxHeartbeats 4000000 in
theorem back_1 (x v : Nat) (f : Int) (w : World) (hx : x < 18446744073709551616) (hv : v < 18446744073709551616) (h0 : 0 ≤ f) (h1 : f < 256) (hr : f % 3 = 1) :
    Calls Try.prog 7 #[.int .u64 (x : Int), .int .u64 (v : Int), .int .u8 f] w fun e w' => e = .returned (.bool true) ∧ Below w.heap.size w w' := by
  obtain ⟨g1, g2, g3⟩ := back_m x 1 (by omega)
  obtain ⟨z, zv, vv, o, T⟩ := tail_any x v hx hv
  obtain ⟨X, hX⟩ : ∃ X, X = enterM x 1 := ⟨_, rfl⟩
  have hXl : X < 18446744073709551616 := by rw [hX]; exact setMpp_lt _ _
  have E : Hid (enterOf x 1 3 = X) := by show _ = _; rw [hX]; rfl
  rw [← hX] at g1 g2 g3
  obtain ⟨Y, hY⟩ : ∃ Y, leaveOf X 3 = Y := ⟨_, rfl⟩
  have hYl : Y < 18446744073709551616 := by rw [← hY]; exact leaveOf_lt _ _ hXl
  rw [hY] at g3
  have L := Lib.hid hY
  have LT : Hid (leaveTo X 3 = 1) := by show _ = _; unfold leaveTo; rw [if_pos rfl]; exact g1
  have l33 : Hid (letsOf X 3 3 = false) := by show _ = _; unfold letsOf; rw [g2]; rfl
  obtain ⟨b3, hb3⟩ : ∃ b3, x.testBit 3 = b3 := ⟨_, rfl⟩
  have hm1 : Hid (hasOf Y [109, 105, 101] = b3) := by show _ = _; rw [has_mie, g3]; exact hb3
  have hm2 : Hid (hasOf x [109, 105, 101] = b3) := by show _ = _; rw [has_mie]; exact hb3
  obtain ⟨lb, hlb⟩ : ∃ lb, letsOf x 1 3 = lb := ⟨_, rfl⟩
  have hl2 := Lib.hid hlb
  have hl1 : Hid (letsOf Y 1 3 = lb) := by show _ = _; rw [← hlb]; unfold letsOf; rw [g3, if_pos rfl, if_pos rfl]
  obtain ⟨s1, s2, s3⟩ := back_s x true
  obtain ⟨X2, hX2⟩ : ∃ X2, X2 = enterS x true := ⟨_, rfl⟩
  have hX2l : X2 < 18446744073709551616 := by rw [hX2]; exact setB_lt _ _ _
  have E2 : Hid (enterOf x 1 1 = X2) := by show _ = _; rw [hX2]; rfl
  rw [← hX2] at s1 s2 s3
  obtain ⟨Y2, hY2⟩ : ∃ Y2, leaveOf X2 1 = Y2 := ⟨_, rfl⟩
  have hY2l : Y2 < 18446744073709551616 := by rw [← hY2]; exact leaveOf_lt _ _ hX2l
  rw [hY2] at s3
  have L2 := Lib.hid hY2
  have LT2 : Hid (leaveTo X2 1 = 1) := by show _ = _; unfold leaveTo; rw [if_neg (by omega), if_pos rfl, s1]; rfl
  have l11 : Hid (letsOf X2 1 1 = false) := by show _ = _; unfold letsOf; rw [s2]; rfl
  obtain ⟨b1, hb1⟩ : ∃ b1, x.testBit 1 = b1 := ⟨_, rfl⟩
  have hs1 : Hid (hasOf Y2 [115, 105, 101] = b1) := by show _ = _; rw [has_sie, s3]; exact hb1
  have hs2 : Hid (hasOf x [115, 105, 101] = b1) := by show _ = _; rw [has_sie]; exact hb1
  clear s1 s2 s3 hX2 hY2 hb1
  clear g1 g2 g3 hX hY hb3 hlb
  have e1 := T.e1
  have e2 := T.e2
  go_enter Try.func7, Try.ntmps7
  go_wp2_with fail
  refine (enter_v E.out _ hx).mono ?_
  rintro e w' ⟨rfl, rfl⟩
  go_wp2_with fail
  refine (leave_v L.out LT.out _ hXl).mono ?_
  rintro e w' ⟨rfl, rfl⟩
  go_wp2_with fail
  refine (lets_v l33.out _ hXl).mono ?_
  rintro e w' ⟨rfl, rfl⟩
  go_wp2_with fail
  refine (has_v hm1.out _ hYl).mono ?_
  rintro e w' ⟨rfl, rfl⟩
  go_wp2_with fail
  refine (has_v hm2.out _ hx).mono ?_
  rintro e w' ⟨rfl, rfl⟩
  go_wp2_with fail
  refine (lets_v hl1.out _ hYl).mono ?_
  rintro e w' ⟨rfl, rfl⟩
  go_wp2_with fail
  refine (lets_v hl2.out _ hx).mono ?_
  rintro e w' ⟨rfl, rfl⟩
  go_wp2_with fail
  refine (enter_v E2.out _ hx).mono ?_
  rintro e w' ⟨rfl, rfl⟩
  go_wp2_with fail
  refine (leave_v L2.out LT2.out _ hX2l).mono ?_
  rintro e w' ⟨rfl, rfl⟩
  go_wp2_with fail
  refine (lets_v l11.out _ hX2l).mono ?_
  rintro e w' ⟨rfl, rfl⟩
  go_wp2_with fail
  refine (has_v hs1.out _ hY2l).mono ?_
  rintro e w' ⟨rfl, rfl⟩
  go_wp2_with fail
  refine (has_v hs2.out _ hx).mono ?_
  rintro e w' ⟨rfl, rfl⟩
  go_wp2_with fail
  refine (lay_any x v _ hx hv).mono ?_
  rw [T.hz]
  rintro e w1 ⟨rfl, hw1⟩
  go_wp2_with fail
  refine (view_v T.hzv _ T.zl).mono ?_
  rintro e w2 ⟨rfl, hw2⟩
  go_wp2_with fail
  refine (view_v T.hvv _ hv).mono ?_
  rintro e w3 ⟨rfl, hw3⟩
  go_wp2_with fail
  refine (view_ones T.ho _).mono ?_
  rintro e w4 ⟨rfl, hw4⟩
  go_wp2_with fail
  refine (view_ones T.ho _).mono ?_
  rintro e w5 ⟨rfl, hw5⟩
  go_wp2_with fail
  refine (live20 _).mono ?_
  rintro e w' ⟨rfl, rfl⟩
  go_wp2
  go_ret
  exact ⟨rfl, (((((((Fr.refl w).alloc _).step hw1).step hw2).step hw3).step hw4).step hw5).1⟩

set_option maxRecDepth 100000 in
set_option maxHeartbeats 4000000 in
theorem back_3 (x v : Nat) (f : Int) (w : World) (hx : x < 18446744073709551616) (hv : v < 18446744073709551616) (h0 : 0 ≤ f) (h1 : f < 256) (hr : f % 3 = 2) :
    Calls Try.prog 7 #[.int .u64 (x : Int), .int .u64 (v : Int), .int .u8 f] w fun e w' => e = .returned (.bool true) ∧ Below w.heap.size w w' := by
  obtain ⟨g1, g2, g3⟩ := back_m x 3 (by omega)
  obtain ⟨z, zv, vv, o, T⟩ := tail_any x v hx hv
  obtain ⟨X, hX⟩ : ∃ X, X = enterM x 3 := ⟨_, rfl⟩
  have hXl : X < 18446744073709551616 := by rw [hX]; exact setMpp_lt _ _
  have E : Hid (enterOf x 3 3 = X) := by show _ = _; rw [hX]; rfl
  rw [← hX] at g1 g2 g3
  obtain ⟨Y, hY⟩ : ∃ Y, leaveOf X 3 = Y := ⟨_, rfl⟩
  have hYl : Y < 18446744073709551616 := by rw [← hY]; exact leaveOf_lt _ _ hXl
  rw [hY] at g3
  have L := Lib.hid hY
  have LT : Hid (leaveTo X 3 = 3) := by show _ = _; unfold leaveTo; rw [if_pos rfl]; exact g1
  have l33 : Hid (letsOf X 3 3 = false) := by show _ = _; unfold letsOf; rw [g2]; rfl
  obtain ⟨b3, hb3⟩ : ∃ b3, x.testBit 3 = b3 := ⟨_, rfl⟩
  have hm1 : Hid (hasOf Y [109, 105, 101] = b3) := by show _ = _; rw [has_mie, g3]; exact hb3
  have hm2 : Hid (hasOf x [109, 105, 101] = b3) := by show _ = _; rw [has_mie]; exact hb3
  obtain ⟨lb, hlb⟩ : ∃ lb, letsOf x 3 3 = lb := ⟨_, rfl⟩
  have hl2 := Lib.hid hlb
  have hl1 : Hid (letsOf Y 3 3 = lb) := by show _ = _; rw [← hlb]; unfold letsOf; rw [g3, if_pos rfl, if_pos rfl]
  clear g1 g2 g3 hX hY hb3 hlb
  have e1 := T.e1
  have e2 := T.e2
  go_enter Try.func7, Try.ntmps7
  go_wp2_with fail
  refine (enter_v E.out _ hx).mono ?_
  rintro e w' ⟨rfl, rfl⟩
  go_wp2_with fail
  refine (leave_v L.out LT.out _ hXl).mono ?_
  rintro e w' ⟨rfl, rfl⟩
  go_wp2_with fail
  refine (lets_v l33.out _ hXl).mono ?_
  rintro e w' ⟨rfl, rfl⟩
  go_wp2_with fail
  refine (has_v hm1.out _ hYl).mono ?_
  rintro e w' ⟨rfl, rfl⟩
  go_wp2_with fail
  refine (has_v hm2.out _ hx).mono ?_
  rintro e w' ⟨rfl, rfl⟩
  go_wp2_with fail
  refine (lets_v hl1.out _ hYl).mono ?_
  rintro e w' ⟨rfl, rfl⟩
  go_wp2_with fail
  refine (lets_v hl2.out _ hx).mono ?_
  rintro e w' ⟨rfl, rfl⟩
  go_wp2_with fail
  refine (lay_any x v _ hx hv).mono ?_
  rw [T.hz]
  rintro e w1 ⟨rfl, hw1⟩
  go_wp2_with fail
  refine (view_v T.hzv _ T.zl).mono ?_
  rintro e w2 ⟨rfl, hw2⟩
  go_wp2_with fail
  refine (view_v T.hvv _ hv).mono ?_
  rintro e w3 ⟨rfl, hw3⟩
  go_wp2_with fail
  refine (view_ones T.ho _).mono ?_
  rintro e w4 ⟨rfl, hw4⟩
  go_wp2_with fail
  refine (view_ones T.ho _).mono ?_
  rintro e w5 ⟨rfl, hw5⟩
  go_wp2_with fail
  refine (live20 _).mono ?_
  rintro e w' ⟨rfl, rfl⟩
  go_wp2
  go_ret
  exact ⟨rfl, (((((((Fr.refl w).alloc _).step hw1).step hw2).step hw3).step hw4).step hw5).1⟩

theorem statusBack_walk (x v : Nat) (f : Int) (w : World) (hx : x < 18446744073709551616) (hv : v < 18446744073709551616) (h0 : 0 ≤ f) (h1 : f < 256) :
    Calls Try.prog 7 #[.int .u64 (x : Int), .int .u64 (v : Int), .int .u8 f] w fun e w' => e = .returned (.bool true) ∧ Below w.heap.size w w' := by
  have h : f % 3 = 0 ∨ f % 3 = 1 ∨ f % 3 = 2 := by omega
  rcases h with h | h | h
  · exact back_0 x v f w hx hv h0 h1 h
  · exact back_1 x v f w hx hv h0 h1 h
  · exact back_3 x v f w hx hv h0 h1 h
theorem u8_bound {a : Int} (h : (Lit.int .u8 a).wf = true) : 0 ≤ a ∧ a < 256 := by
  simp [Lit.wf, IntKind.min, IntKind.max, IntKind.bits, IntKind.signed] at h
  omega
end Go.Proofs.Ytaogccjihbbdcaa
