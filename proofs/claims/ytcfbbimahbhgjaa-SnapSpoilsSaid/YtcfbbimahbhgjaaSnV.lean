/- Snap: what script.Check goes through, weakly. -/
import Derived.Test.YtcfbbimahbhgjaaSnP
namespace Go.Proofs.Ytcfbbimahbhgjaa
open Go.RowKit
set_option linter.unusedSimpArgs false
set_option linter.unusedVariables false

/-- Some truth, of which P is known if it is true; nothing is changed. -/
def SomeB (P : Prop) (w : World) (ed : Ending) (w' : World) : Prop := (∃ q : Bool, ed = .returned (.bool q) ∧ (q = true → P)) ∧ w' = w
theorem shwithin_any (n m : Int) (w : World) : Calls Try.prog 62 #[.int .i64 n, .int .i64 m] w (SomeB (1 ≤ n ∧ n ≤ m) w) := by
  by_cases h1 : 1 ≤ n
  · by_cases h2 : n ≤ m
    · go_enter Try.func62, Try.ntmps62
      go_wp2
      go_ret
      exact ⟨⟨_, rfl, fun _ => ⟨h1, h2⟩⟩, rfl⟩
    · have d2 : decide (n ≤ m) = false := by simpa using h2
      go_enter Try.func62, Try.ntmps62
      go_wp2
      go_ret
      exact ⟨⟨_, rfl, fun h => by cases h⟩, rfl⟩
  · have d1 : decide (1 ≤ n) = false := by simpa using h1
    go_enter Try.func62, Try.ntmps62
    go_wp2
    go_ret
    exact ⟨⟨_, rfl, fun h => by cases h⟩, rfl⟩
theorem within_any (n l m : Int) (w : World) : Calls Try.prog 63 #[.int .i64 n, .int .i64 l, .int .i64 m] w (SomeB True w) := by
  by_cases h1 : l ≤ n
  · by_cases h2 : n ≤ m
    · go_enter Try.func63, Try.ntmps63
      go_wp2
      go_ret
      exact ⟨⟨_, rfl, fun _ => trivial⟩, rfl⟩
    · have d2 : decide (n ≤ m) = false := by simpa using h2
      go_enter Try.func63, Try.ntmps63
      go_wp2
      go_ret
      exact ⟨⟨_, rfl, fun _ => trivial⟩, rfl⟩
  · have d1 : decide (l ≤ n) = false := by simpa using h1
    go_enter Try.func63, Try.ntmps63
    go_wp2
    go_ret
    exact ⟨⟨_, rfl, fun _ => trivial⟩, rfl⟩
def SomeR (P : Prop) (w : World) (ed : Ending) (w' : World) : Prop := (∃ q : Bool, ed = .returned (.bool q) ∧ (q = true → P)) ∧ Below w.heap.size w w'
set_option maxRecDepth 100000 in
set_option maxHeartbeats 4000000 in
theorem right_any (h c l t : Int) (w : World) : Calls Try.prog 54 #[.agg #[.int .i64 h, .int .i64 c, .int .i64 l, .int .i64 t]] w (SomeR (1 ≤ h ∧ h ≤ 8) w) := by
  have F1 := (Fr.refl w).alloc (.cells #[.int .i64 h, .int .i64 c, .int .i64 l, .int .i64 t] 56)
  go_enter Try.func54, Try.ntmps54
  go_wp2_with fail
  refine (shwithin_any h 8 _).mono ?_
  rintro e w1 ⟨⟨q, rfl, hq⟩, hw⟩
  rw [hw]
  clear hw w1
  have HQ := Lib.hid hq
  clear hq
  cases q
  · go_wp2_with fail
    go_ret
    exact ⟨⟨_, rfl, fun h => by cases h⟩, F1.1⟩
  · go_wp2_with fail
    refine (shwithin_any c 64 _).mono ?_
    rintro e w1 ⟨⟨q2, rfl, -⟩, hw⟩
    rw [hw]
    clear hw w1
    cases q2
    · go_wp2_with fail
      go_ret
      exact ⟨⟨_, rfl, fun h => by cases h⟩, F1.1⟩
    · go_wp2_with fail
      refine (shwithin_any l 4096 _).mono ?_
      rintro e w1 ⟨⟨q3, rfl, -⟩, hw⟩
      rw [hw]
      clear hw w1
      cases q3
      · go_wp2_with fail
        go_ret
        exact ⟨⟨_, rfl, fun h => by cases h⟩, F1.1⟩
      · go_wp2_with fail
        refine (shwithin_any t 32 _).mono ?_
        rintro e w1 ⟨⟨q4, rfl, -⟩, hw⟩
        rw [hw]
        clear hw w1
        go_wp2_with fail
        go_ret
        exact ⟨⟨_, rfl, fun _ => HQ.out (by trivial)⟩, F1.1⟩
/-- Some errno, and nothing that was there is changed. -/
def SomeE (w : World) (ed : Ending) (w' : World) : Prop := (∃ x : Int, ed = .returned (.int .i64 x)) ∧ Below w.heap.size w w'
set_option maxRecDepth 100000 in
set_option maxHeartbeats 4000000 in
theorem part_any (h c l t N : Int) (a : Option Addr) (n cap : Nat) (w : World) (hn : n ≤ 9223372036854775807) (hN : U64 N) (hl : I64 l) : Calls Try.prog 56 #[.agg #[.int .i64 h, .int .i64 c, .int .i64 l, .int .i64 t], .agg #[.int .u64 N, .slice a n cap]] w (SomeE w) := by
  have F1 := ((Fr.refl w).alloc (.cells #[.int .i64 h, .int .i64 c, .int .i64 l, .int .i64 t] 56)).alloc (.cells #[.int .u64 N, .slice a n cap] 78)
  have hN0 := hN.1
  have hN1 := hN.2
  clear hN hl
  go_enter Try.func56, Try.ntmps56
  go_wp2_with fail
  refine (within_any _ _ _ _).mono ?_
  rintro e w1 ⟨⟨q, rfl, -⟩, hw⟩
  rw [hw]
  clear hw w1
  cases q
  · go_wp2_with fail
    go_ret
    exact ⟨⟨_, rfl⟩, F1.1⟩
  · go_wp2_with fail
    all_goals (go_ret; exact ⟨⟨_, rfl⟩, F1.1⟩)
set_option maxRecDepth 100000 in
set_option maxHeartbeats 4000000 in
theorem line_any (h c l t k n : Int) (q : Bool) (w : World) (hh : I64 h) : Calls Try.prog 57 #[.agg #[.int .i64 h, .int .i64 c, .int .i64 l, .int .i64 t], .agg #[.int .i64 k, .int .i64 n, .bool q]] w (SomeE w) := by
  have F1 := ((Fr.refl w).alloc (.cells #[.int .i64 h, .int .i64 c, .int .i64 l, .int .i64 t] 56)).alloc (.cells #[.int .i64 k, .int .i64 n, .bool q] 104)
  by_cases h0 : k = 0
  · subst h0
    go_enter Try.func57, Try.ntmps57
    go_wp2_with fail
    refine (within_any _ _ _ _).mono ?_
    rintro e w1 ⟨⟨q2, rfl, -⟩, hw⟩
    rw [hw]
    clear hw w1
    cases q <;> cases q2
    all_goals go_wp2
    all_goals (go_ret; exact ⟨⟨_, rfl⟩, F1.1⟩)
  · by_cases h1 : k = 1
    · subst h1
      cases q
      all_goals
        go_enter Try.func57, Try.ntmps57
        go_wp2
      all_goals (go_ret; exact ⟨⟨_, rfl⟩, F1.1⟩)
    · by_cases h2 : k = 2
      · subst h2
        go_enter Try.func57, Try.ntmps57
        go_wp2_with fail
        refine (within_any _ _ _ _).mono ?_
        rintro e w1 ⟨⟨q2, rfl, -⟩, hw⟩
        rw [hw]
        clear hw w1
        cases q <;> cases q2
        all_goals go_wp2
        all_goals (go_ret; exact ⟨⟨_, rfl⟩, F1.1⟩)
      · by_cases h3 : k = 3
        · subst h3
          go_enter Try.func57, Try.ntmps57
          go_wp2_with fail
          refine (within_any _ _ _ _).mono ?_
          rintro e w1 ⟨⟨q2, rfl, -⟩, hw⟩
          rw [hw]
          clear hw w1
          cases q <;> cases q2
          all_goals go_wp2
          all_goals (go_ret; exact ⟨⟨_, rfl⟩, F1.1⟩)
        · have e0 : (k == 0) = false := by simpa using h0
          have e1 : (k == 1) = false := by simpa using h1
          have e2 : (k == 2) = false := by simpa using h2
          have e3 : (k == 3) = false := by simpa using h3
          go_enter Try.func57, Try.ntmps57
          go_wp2_with fail
          go_ret
          exact ⟨⟨_, rfl⟩, F1.1⟩
theorem ix8 (g0 g1 g2 g3 g4 g5 g6 g7 : Int) {k : Nat} (hk : k < 8) : ∃ x, (x = g0 ∨ x = g1 ∨ x = g2 ∨ x = g3 ∨ x = g4 ∨ x = g5 ∨ x = g6 ∨ x = g7) ∧ ∀ w : World, (Instr.index 57 (.agg #[.int .i64 g0, .int .i64 g1, .int .i64 g2, .int .i64 g3, .int .i64 g4, .int .i64 g5, .int .i64 g6, .int .i64 g7]) (.int .i64 (k : Int))).run Try.prog w = .ok (.int .i64 x) w := by
  have h : k = 0 ∨ k = 1 ∨ k = 2 ∨ k = 3 ∨ k = 4 ∨ k = 5 ∨ k = 6 ∨ k = 7 := by omega
  rcases h with rfl | rfl | rfl | rfl | rfl | rfl | rfl | rfl
  · exact ⟨g0, by simp, fun w => by kernel_rfl⟩
  · exact ⟨g1, by simp, fun w => by kernel_rfl⟩
  · exact ⟨g2, by simp, fun w => by kernel_rfl⟩
  · exact ⟨g3, by simp, fun w => by kernel_rfl⟩
  · exact ⟨g4, by simp, fun w => by kernel_rfl⟩
  · exact ⟨g5, by simp, fun w => by kernel_rfl⟩
  · exact ⟨g6, by simp, fun w => by kernel_rfl⟩
  · exact ⟨g7, by simp, fun w => by kernel_rfl⟩
set_option maxRecDepth 100000 in
set_option maxHeartbeats 4000000 in
theorem budgets_any (h c l t g0 g1 g2 g3 g4 g5 g6 g7 : Int) (w : World) : Calls Try.prog 55 #[.agg #[.int .i64 h, .int .i64 c, .int .i64 l, .int .i64 t], .agg #[.int .i64 g0, .int .i64 g1, .int .i64 g2, .int .i64 g3, .int .i64 g4, .int .i64 g5, .int .i64 g6, .int .i64 g7]] w (SomeE w) := by
  have F1 := ((Fr.refl w).alloc (.cells #[.int .i64 h, .int .i64 c, .int .i64 l, .int .i64 t] 56)).alloc (.cells #[.int .i64 g0, .int .i64 g1, .int .i64 g2, .int .i64 g3, .int .i64 g4, .int .i64 g5, .int .i64 g6, .int .i64 g7] 57)
  go_enter Try.func55, Try.ntmps55
  go_wp2_with fail
  go_loopw [8] (fun u wr => ∃ j : Nat, j ≤ 8 ∧ u = .int .i64 (j : Int) ∧ wr = (w.alloc (.cells #[.int .i64 h, .int .i64 c, .int .i64 l, .int .i64 t] 56)).alloc (.cells #[.int .i64 g0, .int .i64 g1, .int .i64 g2, .int .i64 g3, .int .i64 g4, .int .i64 g5, .int .i64 g6, .int .i64 g7] 57)) (fun u _ => 8 - (intOf u).toNat)
  case atStart => exact ⟨0, by omega, rfl, rfl⟩
  case round =>
    obtain ⟨j, hj, rfl, rfl⟩ := hrel
    have hj0 : (0 : Int) ≤ j := by omega
    by_cases hlt : j < 8
    · have hji : (j : Int) < 8 := by omega
      obtain ⟨x, -, hix⟩ := ix8 g0 g1 g2 g3 g4 g5 g6 g7 hlt
      by_cases hjh : (j : Int) < h
      · go_wp2_with fail
        refine (within_any _ _ _ _).mono ?_
        rintro e w1 ⟨⟨q2, rfl, -⟩, hw⟩
        rw [hw]
        clear hw w1
        have hnh : ¬ h ≤ (j : Int) := by omega
        cases q2
        all_goals go_wp2
        all_goals first
          | (go_ret; exact ⟨⟨_, rfl⟩, F1.1⟩)
          | exact ⟨⟨j + 1, by omega, by go_num, by first | trivial | rfl⟩, by simp [intOf]; omega⟩
      · have hnh : h ≤ (j : Int) := by omega
        go_wp2
        all_goals first
          | (go_ret; exact ⟨⟨_, rfl⟩, F1.1⟩)
          | exact ⟨⟨j + 1, by omega, by go_num, by first | trivial | rfl⟩, by simp [intOf]; omega⟩
    · have e : j = 8 := by omega
      subst e
      have hdl : ¬ (((8 : Nat) : Int) < 8) := by omega
      go_wp2_with fail
      go_ret
      exact ⟨⟨_, rfl⟩, F1.1⟩
end Go.Proofs.Ytcfbbimahbhgjaa
