/- split's run and Pieces: an access of 8 bytes in one line, and in two. -/
import Derived.Test.YtdeheoaeagoidaaTwI
import Derived.Deep.AppendLies
import Derived.OwnWalk
import Derived.LoopN
namespace Go.Proofs.Ytdeheoaeagoidaa
open Go.RowKit
set_option linter.unusedSimpArgs false
set_option linter.unusedVariables false

theorem infoPc : (Try.prog.info? 97).map (fun i => (i.zero, i.size, i.bytes)) = some (some (.agg #[.int .u64 0, .int .i64 0, .int .i64 0]), 3, 24) := by kernel_rfl
def pc1 (a n s : Int) : List Value := [.int .u64 a, .int .i64 n, .int .i64 s]
theorem grown_below {w w' : World} {B : Nat} {row : Option Nat} (h : w.grownBy w' row) (hr : ∀ k, row = some k → B ≤ k) (hB : B ≤ w.heap.size) : Below B w w' :=
  ⟨h.os, h.tape, h.output, h.size, fun k hk => h.block k (by omega) (fun e => by have := hr k e.symm; omega)⟩
theorem pc1_one (a n s : Int) : ∀ u ∈ pc1 a n s, u.oneCell' = true := by
  intro u hu
  simp only [pc1, List.mem_cons, List.not_mem_nil, or_false] at hu
  rcases hu with rfl | rfl | rfl <;> rfl
set_option maxRecDepth 100000 in
set_option maxHeartbeats 4000000 in
theorem run_one (a : Nat) (w : World) (ha : a < 9223372036854775808) (hq : a % 64 ≤ 56) :
    Calls Try.prog 66 #[.slice none 0 0, .int .u64 (a : Int), .int .i64 8, .int .i64 0] w fun e w' => ∃ g cap, e = .returned (.slice (some ⟨g, 0, none⟩) 1 cap) ∧ w'.ownsRow w.heap.size 97 3 (.slice (some ⟨g, 0, none⟩) 1 cap) 1 (pc1 a 8 0) ∧ Below w.heap.size w w' := by
  obtain ⟨i0, hi, hz0, hz1, hz2⟩ := info_parts infoPc
  obtain ⟨y, hy⟩ : ∃ y : Nat, (a : Int) % 64 = (y : Int) := ⟨a % 64, by omega⟩
  have y1 : (y : Int) ≤ 56 := by omega
  have y0 : (0 : Int) ≤ y := by omega
  have h0 : (0 : Int) ≤ a := by omega
  have h1 : (a : Int) < 9223372036854775808 := by omega
  have hw1 : IntKind.u64.wrap ((a : Int) + 8) = (a : Int) + 8 := by rw [IntKind.wrap_u64]; omega
  have hmn : ¬ (64 - (y : Int) < 8) := by omega
  have hy2 : IntKind.i64.wrap (y : Int) = y := by rw [IntKind.wrap_i64]; omega
  have hy3 : IntKind.i64.wrap (64 - (y : Int)) = 64 - y := by rw [IntKind.wrap_i64]; omega
  clear hq ha
  go_enter Try.func66, Try.ntmps66
  go_wp2
  refine wp_loop_rounds 2 ?_
  rw [rounds_succ]
  go_wp2_with (at_builtin; refine Classical.byContradiction fun hdbg => ?_)
  apply hdbg
  clear hdbg
  refine wpList_append_lies _ rfl _ _ 94 rfl w.heap.size 97 i0 (.agg #[.int .u64 0, .int .i64 0, .int .i64 0]) 3 24 Try.underlying94 hi hz0 hz1 hz2 rfl (by decide) (.slice none 0 0) 0 [] rfl (World.ownsRow_nil _ _ _ _) ⟨w.heap.size, 0, none⟩ 1 1 (pc1 a 8 0) rfl rfl (World.news_of_block (heap_alloc_new _ _)) (pc1_one _ _ _) (by decide) (by unfold maxLen; omega) (by omega) (by simp) (w.heap.size + 1) (by simp) ?_
  intro g cap w1 hown hgrow hat hlt
  have F1 := Lib.hid (((Fr.refl w).alloc (.cells #[.int .u64 (a : Int), .int .i64 8, .int .i64 0] 97)).step (grown_below hgrow (fun k hk => by cases hk) (Nat.le_refl _)))
  have HO := Lib.hid hown
  clear hgrow hat hown
  go_wp2
  rw [rounds_succ]
  go_wp2
  go_ret
  refine ⟨g, cap, rfl, HO.out, F1.out.1⟩
set_option maxRecDepth 100000 in
set_option maxHeartbeats 4000000 in
theorem run_two (a z n : Nat) (w : World) (ha : a < 9223372036854775808) (hz1' : 1 ≤ z) (hzn : z + n = 8) (hn : 1 ≤ n) (hq : a % 64 + z = 64) :
    Calls Try.prog 66 #[.slice none 0 0, .int .u64 (a : Int), .int .i64 8, .int .i64 0] w fun e w' => ∃ g cap, e = .returned (.slice (some ⟨g, 0, none⟩) 2 cap) ∧ w'.ownsRow w.heap.size 97 3 (.slice (some ⟨g, 0, none⟩) 2 cap) 2 (pc1 a z 0 ++ pc1 ((a + z : Nat) : Int) n ((8 * z : Nat) : Int)) ∧ Below w.heap.size w w' := by
  obtain ⟨i0, hi, hz0, hz1, hz2⟩ := info_parts infoPc
  obtain ⟨y, hy⟩ : ∃ y : Nat, (a : Int) % 64 = (y : Int) := ⟨a % 64, by omega⟩
  obtain ⟨a2, ha2⟩ : ∃ a2 : Nat, a + z = a2 := ⟨_, rfl⟩
  obtain ⟨s2, hs2⟩ : ∃ s2 : Nat, 8 * z = s2 := ⟨_, rfl⟩
  rw [ha2, hs2]
  have h0 : (0 : Int) ≤ a := by omega
  have h1 : (a : Int) < 9223372036854775808 := by omega
  have hy0 : (0 : Int) ≤ y := by omega
  have hy2 : IntKind.i64.wrap (y : Int) = y := by rw [IntKind.wrap_i64]; omega
  have hy3 : IntKind.i64.wrap (64 - (y : Int)) = (z : Int) := by rw [IntKind.wrap_i64]; omega
  have hy4 : 64 - (y : Int) = (z : Int) := by omega
  have hlt : (z : Int) < 8 := by omega
  have hz8 : (1 : Int) ≤ z := by omega
  have hn0 : (1 : Int) ≤ n := by omega
  have hn8 : (n : Int) < 8 := by omega
  have hw0 : IntKind.u64.wrap (z : Int) = z := by rw [IntKind.wrap_u64]; omega
  have hw1 : IntKind.u64.wrap ((a : Int) + z) = (a2 : Int) := by rw [IntKind.wrap_u64]; omega
  have hw2 : IntKind.i64.wrap (8 - (z : Int)) = (n : Int) := by rw [IntKind.wrap_i64]; omega
  have hw2' : 8 - (z : Int) = (n : Int) := by omega
  have hw3 : IntKind.i64.wrap (8 * (z : Int)) = (s2 : Int) := by rw [IntKind.wrap_i64]; omega
  have hw3' : 8 * (z : Int) = (s2 : Int) := by omega
  obtain ⟨y2, hm2, hyz⟩ : ∃ y2 : Nat, (a2 : Int) % 64 = (y2 : Int) ∧ y2 = 0 := ⟨0, by omega, rfl⟩
  obtain ⟨q, hqq⟩ : ∃ q : Nat, q = 64 := ⟨_, rfl⟩
  have e1 : IntKind.i64.wrap (y2 : Int) = y2 := by rw [IntKind.wrap_i64]; omega
  have e2 : IntKind.i64.wrap (64 - (y2 : Int)) = (q : Int) := by rw [IntKind.wrap_i64]; omega
  have e3 : 64 - (y2 : Int) = (q : Int) := by omega
  have e4 : (0 : Int) ≤ y2 := by omega
  have e5 : (y2 : Int) < 64 := by omega
  have hw4 : IntKind.u64.wrap (n : Int) = n := by rw [IntKind.wrap_u64]; omega
  have hnn : ¬ ((q : Int) < n) := by omega
  have hwa0 : (0 : Int) ≤ a2 := by omega
  have hs0 : (8 : Int) ≤ s2 := by omega
  have hs1 : (s2 : Int) < 64 := by omega
  have hwn0 : IntKind.i64.wrap ((n : Int) - n) = 0 := by rw [IntKind.wrap_i64]; omega
  clear hq ha hz1' hzn hn ha2 hs2 hyz hqq h1
  go_enter Try.func66, Try.ntmps66
  go_wp2
  refine wp_loop_rounds 3 ?_
  rw [rounds_succ]
  go_wp2_with (at_builtin; refine Classical.byContradiction fun hdbg => ?_)
  apply hdbg
  clear hdbg
  refine wpList_append_lies _ rfl _ _ 94 rfl w.heap.size 97 i0 (.agg #[.int .u64 0, .int .i64 0, .int .i64 0]) 3 24 Try.underlying94 hi hz0 hz1 hz2 rfl (by decide) (.slice none 0 0) 0 [] rfl (World.ownsRow_nil _ _ _ _) ⟨w.heap.size, 0, none⟩ 1 1 (pc1 a z 0) rfl rfl (World.news_of_block (heap_alloc_new _ _)) (pc1_one _ _ _) (by decide) (by unfold maxLen; omega) (by omega) (by simp) (w.heap.size + 1) (by simp) ?_
  intro g cap w1 hown hgrow hat hlt1
  have F1 := Lib.hid (((Fr.refl w).alloc (.cells #[.int .u64 (a : Int), .int .i64 (z : Int), .int .i64 0] 97)).step (grown_below hgrow (fun k hk => by cases hk) (Nat.le_refl _)))
  have HO := Lib.hid hown
  have hs1' : w.heap.size ≤ w1.heap.size := F1.out.2
  clear hgrow hat hown
  go_wp2
  rw [rounds_succ]
  go_wp2_with (at_builtin; refine Classical.byContradiction fun hdbg => ?_)
  apply hdbg
  clear hdbg
  refine wpList_append_lies _ rfl _ _ 94 rfl w.heap.size 97 i0 (.agg #[.int .u64 0, .int .i64 0, .int .i64 0]) 3 24 Try.underlying94 hi hz0 hz1 hz2 rfl (by decide) (.slice (some ⟨g, 0, none⟩) 1 cap) 1 (pc1 a z 0) rfl (HO.out.alloc _) ⟨w1.heap.size, 0, none⟩ 1 1 (pc1 a2 n s2) rfl rfl (World.news_of_block (heap_alloc_new _ _)) (pc1_one _ _ _) (by decide) (by unfold maxLen; omega) (by omega) (by simp; omega) (w1.heap.size + 1) (by simp) ?_
  intro g2 cap2 w2 hown2 hgrow2 hat2 hlt2
  have F2 := Lib.hid (F1.out.alloc (.cells #[.int .u64 (a2 : Int), .int .i64 (n : Int), .int .i64 (s2 : Int)] 97))
  have F3 : Hid (Below w.heap.size (w1.alloc (.cells #[.int .u64 (a2 : Int), .int .i64 (n : Int), .int .i64 (s2 : Int)] 97)) w2) := Lib.hid (grown_below hgrow2 (fun k hk => (HO.out.lt k hk).1) F2.out.2)
  have HO2 := Lib.hid hown2
  clear hgrow2 hat2 hown2
  go_wp2
  rw [rounds_succ]
  go_wp2
  go_ret
  exact ⟨g2, cap2, rfl, HO2.out, F2.out.1.trans F3.out⟩
end Go.Proofs.Ytdeheoaeagoidaa
