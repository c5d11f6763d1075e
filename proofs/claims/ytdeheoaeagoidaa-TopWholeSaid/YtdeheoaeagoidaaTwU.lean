/- split's Stripes; the two stripes sorted, compacted, cloned. -/
import Derived.Test.YtdeheoaeagoidaaTwT
import Derived.Test.YtdeheoaeagoidaaTwS
namespace Go.Proofs.Ytdeheoaeagoidaa
open Go.RowKit
set_option linter.unusedSimpArgs false
set_option linter.unusedVariables false

def ints01 : List Value := [.int .i64 0, .int .i64 1]
theorem infoInt : (Try.prog.info? 3).map (fun i => (i.zero, i.size, i.bytes)) = some (some (.int .i64 0), 1, 8) := by kernel_rfl
theorem own_block {w : World} {B g cap : Nat} {e : TypeId} {s n : Nat} {xs : List Value} (h : w.ownsRow B e s (.slice (some ⟨g, 0, none⟩) n cap) n xs) (hn : 0 < n) : ∃ cur, w.heap[g]? = some (.cells cur e (0, 0)) ∧ n ≤ cap ∧ cur.toList.take (n * s) = xs := by
  rcases h.2 with ⟨h1, h2⟩ | ⟨g', cap', cur, hv, hb, hh, hc, hm, hs, ht⟩
  · omega
  · cases hv
    exact ⟨cur, hh, hc, ht⟩
theorem holds01 {w : World} {B g cap : Nat} (h : w.ownsRow B 3 1 (.slice (some ⟨g, 0, none⟩) 2 cap) 2 ints01) : Go.Sort.Holds (Value.int .i64) w g 0 [(0 : Int), 1].toArray := by
  obtain ⟨cur, hh, _, _⟩ := own_block h (by omega)
  intro j hj
  have hj2 : j = 0 ∨ j = 1 := by simp at hj; omega
  refine ⟨?_, by simp [World.frozen?, hh]⟩
  rcases hj2 with rfl | rfl
  · exact own_cell h (j := 0) rfl
  · exact own_cell h (j := 1) rfl
theorem below_ahead (w : World) (n : Nat) : Below w.heap.size w (Go.Sort.ahead w n) := ((Fr.refl w).drewN n).1
theorem below_grow (w : World) (os : Array Obj) : Below w.heap.size w (Go.Sort.grow w os) :=
  ⟨rfl, rfl, rfl, by simp, fun k hk => Go.Sort.heap_grow_old w os hk⟩
theorem sort01 (B g cap : Nat) (w : World) (h : w.ownsRow B 3 1 (.slice (some ⟨g, 0, none⟩) 2 cap) 2 ints01) :
    Calls Try.prog 16 #[.slice (some ⟨g, 0, none⟩) 2 cap] w fun e w' => e = .returned (.tuple #[]) ∧ Below w.heap.size w w' := by
  have hH := holds01 h
  refine (Try.slices_Sort_int g 0 cap [0, 1] w hH (own_lt h).2 (by simp)).mono ?_
  rintro e w' ⟨rfl, n, os, rfl⟩
  refine ⟨rfl, ?_⟩
  have e1 : ([(0 : Int), 1].mergeSort fun x y => decide (x ≤ y)) = [0, 1] := by first | exact List.mergeSort_of_sorted (by simp) | exact List.mergeSort_of_pairwise (by simp) | simp [List.mergeSort, List.MergeSort.Internal.splitInTwo, List.merge]
  rw [e1, Go.Sort.putRow_self _ _ _ _ _ (Go.Sort.holds_ahead _ _ _ _ _ _ hH)]
  have := below_grow (Go.Sort.ahead w n) os
  exact (below_ahead w n).trans this
theorem compact01 (B g cap : Nat) (w : World) (h : w.ownsRow B 3 1 (.slice (some ⟨g, 0, none⟩) 2 cap) 2 ints01) :
    Calls Try.prog 17 #[.slice (some ⟨g, 0, none⟩) 2 cap] w fun e w' => e = .returned (.slice (some ⟨g, 0, none⟩) 2 cap) ∧ Below w.heap.size w w' := by
  have hH := holds01 h
  obtain ⟨cur, _, hc, _⟩ := own_block h (by omega)
  refine (Try.slices_Compact_int g 0 cap [0, 1] w hH (by simp) hc).mono ?_
  have e1 : Lib.compact [(0 : Int), 1] = [0, 1] := by decide +kernel
  rw [e1]
  rintro e w' ⟨rfl, q, rfl⟩
  refine ⟨rfl, ?_⟩
  have e2 : ([(0 : Int), 1] ++ List.replicate ([(0 : Int), 1].length - [(0 : Int), 1].length) 0).toArray = [(0 : Int), 1].toArray := rfl
  rw [e2, Go.Sort.putRow_self _ _ _ _ _ (Go.Sort.holds_ahead _ _ _ _ _ _ hH)]
  exact below_ahead w q
theorem clone01 (B g cap : Nat) (w : World) (h : w.ownsRow B 3 1 (.slice (some ⟨g, 0, none⟩) 2 cap) 2 ints01) :
    Calls Try.prog 15 #[.slice (some ⟨g, 0, none⟩) 2 cap] w fun e w' => ∃ g' cap', e = .returned (.slice (some ⟨g', 0, none⟩) 2 cap') ∧ w'.ownsRow w.heap.size 3 1 (.slice (some ⟨g', 0, none⟩) 2 cap') 2 ints01 ∧ Below w.heap.size w w' := by
  refine (Try.slices_Clone_int g 0 2 cap [0, 1] w (by simp) (by omega) (fun j hj => ?_)).mono ?_
  · have hj2 : j = 0 ∨ j = 1 := by simp at hj; omega
    rcases hj2 with rfl | rfl
    · exact own_cell h (j := 0) rfl
    · exact own_cell h (j := 1) rfl
  · rintro e w' ⟨v', rfl, ho, hne, hb⟩
    obtain ⟨g', cap', rfl, h1, h2⟩ := ho.form (by omega)
    exact ⟨g', cap', rfl, ho, hb⟩
theorem one_int01 (x : Int) : ∀ u ∈ [Value.int .i64 x], u.oneCell' = true := by
  intro u hu
  simp only [List.mem_cons, List.not_mem_nil, or_false] at hu
  subst hu; rfl
theorem stripe_v {a x : Nat} (hx : a / 64 % 2 = x) (w : World) (ha : a < 18446744073709551616) :
    Calls Try.prog 36 #[.int .u64 (a : Int), .int .i64 2] w fun e w' => e = .returned (.int .i64 (x : Int)) ∧ w' = w := by
  rw [← hx]; exact stripe_any a w ha
set_option maxRecDepth 100000 in
set_option maxHeartbeats 8000000 in
theorem stripes_any (a z n : Nat) (w : World) (ha : 2147483705 ≤ a) (ha2 : a < 2147483712) (hz1 : 1 ≤ z) (hzn : z + n = 8) (hn : 1 ≤ n) (hq : a % 64 + z = 64) :
    Calls Try.prog 19 #[.agg #[.int .u64 (a : Int), .int .u64 0, .int .i64 0, .int .i64 8], .int .i64 2] w fun e w' => ∃ g cap, e = .returned (.slice (some ⟨g, 0, none⟩) 2 cap) ∧ w'.ownsRow w.heap.size 3 1 (.slice (some ⟨g, 0, none⟩) 2 cap) 2 ints01 ∧ Below w.heap.size w w' := by
  obtain ⟨i0, hi, hz0, hzz1, hz2⟩ := info_parts infoInt
  have F0 := (Fr.refl w).alloc (.cells #[.int .u64 (a : Int), .int .u64 0, .int .i64 0, .int .i64 8] 77)
  have HZ := Lib.hid (And.intro hzn hq)
  have A63 : Hid (a < 9223372036854775808) := Lib.hid (by omega)
  have A64 : Hid (a < 18446744073709551616) := Lib.hid (by omega)
  have A64' : Hid (a + z < 18446744073709551616) := Lib.hid (by omega)
  have T1 : Hid (a / 64 % 2 = 0) := Lib.hid (by omega)
  have T2 : Hid ((a + z) / 64 % 2 = 1) := Lib.hid (by omega)
  have HP := Lib.hid (pieces_two a z n)
  obtain ⟨A2, hA2⟩ : ∃ A2 : Nat, a + z = A2 := ⟨_, rfl⟩
  obtain ⟨S2, hS2⟩ : ∃ S2 : Nat, 8 * z = S2 := ⟨_, rfl⟩
  rw [hA2] at T2 A64'
  rw [hA2, hS2] at HP
  clear ha ha2 hzn hq hA2 hS2
  go_enter Try.func19, Try.ntmps19
  go_wp2_with fail
  refine (HP.out _ A63.out hz1 HZ.out.1 hn HZ.out.2).mono ?_
  rintro e w3 ⟨g1, cap, rfl, ho, hb3⟩
  have F3 := F0.step hb3
  clear F0 hb3
  have O3 := Lib.hid ho
  obtain ⟨c0, c1, c2, c2', c3, c4, c4', c5, c5'⟩ := known_pc2 O3.out
  have gl := (own_lt ho).2
  clear ho
  go_wp2_with fail
  refine wp_loop_rounds 3 ?_
  rw [rounds_succ]
  go_wp2_with fail
  refine (stripe_v T1.out _ A64.out).mono ?_
  rintro e w' ⟨rfl, rfl⟩
  have F4 := F3.alloc (.cells #[.int .u64 (a : Int), .int .i64 (z : Int), .int .i64 0] 97)
  have O4 := Lib.hid (O3.out.alloc (.cells #[.int .u64 (a : Int), .int .i64 (z : Int), .int .i64 0] 97))
  obtain ⟨w4, hw4⟩ : ∃ wA, w3.alloc (.cells #[.int .u64 (a : Int), .int .i64 (z : Int), .int .i64 0] 97) = wA := ⟨_, rfl⟩
  rw [hw4] at F4 O4 ⊢
  clear hw4 F3 O3 c0 c1 c2 c2' c3 c4 c4' c5 c5' gl
  go_wp2_with (at_builtin; refine Classical.byContradiction fun hdbg => ?_)
  apply hdbg
  clear hdbg
  refine wpList_append_lies _ rfl _ _ 34 rfl w.heap.size 3 i0 (.int .i64 0) 1 8 Try.underlying34 hi hz0 hzz1 hz2 rfl (by decide) (.slice none 0 0) 0 [] rfl (World.ownsRow_nil _ _ _ _) ⟨w4.heap.size, 0, none⟩ 1 1 [.int .i64 0] rfl rfl (World.news_of_block (heap_alloc_new _ _)) (one_int01 0) (by decide) (by unfold maxLen; omega) (by omega) (by have := F4.2; simp; omega) (w4.heap.size + 1) (by simp) ?_
  intro g4 cap4 w6 hown hgrow hat hlt
  have b4 := ((Fr.refl w4).alloc (.cells #[.int .i64 0] 3))
  have b6 : Below (w4.alloc (.cells #[.int .i64 0] 3)).heap.size (w4.alloc (.cells #[.int .i64 0] 3)) w6 := grown_below hgrow (fun k hk => by cases hk) (Nat.le_refl _)
  have F6 := F4.step ((b4.step b6).1)
  have O6 := Lib.hid (own_keep O4.out ((b4.step b6).1))
  have R6 : Hid (w6.ownsRow w.heap.size 3 1 (.slice (some ⟨g4, 0, none⟩) 1 cap4) 1 [.int .i64 0]) := Lib.hid hown
  clear hown hgrow hat hlt b4 b6 F4 O4
  go_wp2_with fail
  rw [rounds_succ]
  obtain ⟨c0, c1, c2, c2', c3, c4, c4', c5, c5'⟩ := known_pc2 O6.out
  have gl := (own_lt O6.out).2
  go_wp2_with fail
  refine (stripe_v T2.out _ A64'.out).mono ?_
  rintro e w' ⟨rfl, rfl⟩
  have F7 := F6.alloc (.cells #[.int .u64 (A2 : Int), .int .i64 (n : Int), .int .i64 (S2 : Int)] 97)
  have R7 := Lib.hid (R6.out.alloc (.cells #[.int .u64 (A2 : Int), .int .i64 (n : Int), .int .i64 (S2 : Int)] 97))
  obtain ⟨w7, hw7⟩ : ∃ wA, w6.alloc (.cells #[.int .u64 (A2 : Int), .int .i64 (n : Int), .int .i64 (S2 : Int)] 97) = wA := ⟨_, rfl⟩
  rw [hw7] at F7 R7 ⊢
  clear hw7 F6 O6 R6 c0 c1 c2 c2' c3 c4 c4' c5 c5' gl
  go_wp2_with (at_builtin; refine Classical.byContradiction fun hdbg => ?_)
  apply hdbg
  clear hdbg
  refine wpList_append_lies _ rfl _ _ 34 rfl w.heap.size 3 i0 (.int .i64 0) 1 8 Try.underlying34 hi hz0 hzz1 hz2 rfl (by decide) (.slice (some ⟨g4, 0, none⟩) 1 cap4) 1 [.int .i64 0] rfl (R7.out.alloc _) ⟨w7.heap.size, 0, none⟩ 1 1 [.int .i64 1] rfl rfl (World.news_of_block (heap_alloc_new _ _)) (one_int01 1) (by decide) (by unfold maxLen; omega) (by omega) (by have := F7.2; simp; omega) (w7.heap.size + 1) (by simp) ?_
  intro g8 cap8 w8 hown hgrow hat hlt
  have F8 : Fr w.heap.size w w8 := ⟨(F7.alloc (.cells #[.int .i64 1] 3)).1.trans (grown_below hgrow (fun k hk => (R7.out.lt k hk).1) (F7.alloc (.cells #[.int .i64 1] 3)).2), Nat.le_trans (F7.alloc (.cells #[.int .i64 1] 3)).2 hgrow.size⟩
  have R8 : Hid (w8.ownsRow w.heap.size 3 1 (.slice (some ⟨g8, 0, none⟩) 2 cap8) 2 ints01) := Lib.hid hown
  clear hown hgrow hat hlt F7 R7
  go_wp2_with fail
  rw [rounds_succ]
  go_wp2_with fail
  refine (sort01 _ g8 cap8 _ R8.out).mono ?_
  rintro e w9 ⟨rfl, hb9⟩
  have F9 := F8.step hb9
  have R9 := Lib.hid (own_keep R8.out hb9)
  clear F8 R8 hb9
  go_wp2_with fail
  refine (compact01 _ g8 cap8 _ R9.out).mono ?_
  rintro e wx ⟨rfl, hbx⟩
  have FX := Lib.hid (F9.step hbx)
  have RX := Lib.hid (own_keep R9.out hbx)
  clear F9 R9 hbx
  go_wp2_with fail
  go_ret
  exact ⟨g8, cap8, rfl, RX.out, FX.out.1⟩
end Go.Proofs.Ytdeheoaeagoidaa
