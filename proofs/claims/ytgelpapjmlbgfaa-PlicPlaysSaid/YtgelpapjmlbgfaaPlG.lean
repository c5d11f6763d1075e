/- plic's Write. -/
import Derived.Test.YtgelpapjmlbgfaaPlF
import Derived.StillTailTactics
namespace Go.Proofs.Ytgelpapjmlbgfaa
open Go.RowKit
set_option linter.unusedSimpArgs false
set_option linter.unusedVariables false
attribute [local simp high] zeroPv sizePv

theorem and7 (v : Nat) (hv : v < 18446744073709551616) : bits BinOp.and IntKind.u64 (v : Int) 7 = ((v % 8 : Nat) : Int) := by
  have h := u64_and_nat v 7 hv (by omega)
  have e : v &&& 7 = v % 8 := Nat.and_two_pow_sub_one_eq_mod (n := 3) v
  rw [e] at h
  exact h
theorem onW2 (v : Nat) : bits BinOp.andNot IntKind.u32 ((v % 4294967296 : Nat) : Int) 1 = ((W32 (onF v) : Nat) : Int) := by
  have h := u32_andNot_nat (v % 4294967296) 1 (Nat.mod_lt _ (by omega)) (by omega)
  have e : v % 4294967296 &&& (4294967295 - 1) = W32 (onF v) := by
    refine W32_eq (Nat.lt_of_le_of_lt Nat.and_le_left (Nat.mod_lt _ (by omega))) fun j hj => ?_
    have hs : (4294967295 - 1).testBit j = (decide (j < 32) && !(1 : Nat).testBit j) := by
      have := Nat.testBit_two_pow_sub_succ (x := 1) (n := 32) (by omega) j
      exact this
    have hm : (v % 4294967296).testBit j = (decide (j < 32) && v.testBit j) := Nat.testBit_mod_two_pow v 32 j
    rw [Nat.testBit_and, hs, hm]
    unfold onF
    have h1 : (1 : Nat).testBit j = decide (0 = j) := Nat.testBit_two_pow (n := 0) (m := j)
    rw [h1]
    by_cases h0 : j = 0
    · subst h0; simp
    · have a1 : decide (0 = j) = false := by simp; omega
      have a2 : decide (1 ≤ j) = true := by simp; omega
      rw [a1, a2]
      simp [hj]
  rw [e] at h
  exact h
theorem wrap32 (v : Nat) : IntKind.u32.wrap (v : Int) = ((v % 4294967296 : Nat) : Int) := by
  simp [IntKind.wrap, IntKind.bits, IntKind.signed]
theorem andOne (f : Nat → Bool) {k : Nat} (hk : k < 32) : (((W32 fun j => f j && oneF k j : Nat) : Int) != 0) = f k := by
  have hb : (W32 fun j => f j && oneF k j).testBit k = f k := by rw [W32_bit]; simp [hk, oneF]
  cases hf : f k
  · have : (W32 fun j => f j && oneF k j) = 0 := by
      apply Nat.eq_of_testBit_eq
      intro j
      rw [W32_bit, Nat.zero_testBit]
      unfold oneF
      by_cases e : j = k
      · subst e; simp [hf]
      · simp [e]
    rw [this]; rfl
  · rw [hf] at hb
    have : (W32 fun j => f j && oneF k j) ≠ 0 := by intro h0; rw [h0] at hb; simp at hb
    simp; omega
theorem finished (s : PS) (ok : OkP s) (b : Nat) (hb : b < 32) : cellsP (setWa (setSe s (upN s.se b false)) fun j => s.wa j || (s.wi j && !upN s.se b false j)) = cellsP (doneP s b) := by
  have hJ := ok.J
  unfold doneP
  split
  · rename_i hq
    refine cellsP_wa _ fun j hj => ?_
    unfold upN
    by_cases e : j = b
    · subst e; simp [hq]
    · simp [e]
      have := hJ j
      revert this
      cases s.wa j <;> cases s.wi j <;> cases s.se j <;> simp
  · rename_i hq
    have : cellsP (setSe s (upN s.se b false)) = cellsP (setWa (setSe s (upN s.se b false)) s.wa) := rfl
    rw [this]
    refine cellsP_wa _ fun j hj => ?_
    unfold upN
    by_cases e : j = b
    · subst e
      simp at hq
      simp [hq]
    · simp [e]
      have := hJ j
      revert this
      cases s.wa j <;> cases s.wi j <;> cases s.se j <;> simp
set_option maxRecDepth 100000 in
set_option maxHeartbeats 4000000 in
theorem pwrite_0 (b : Nat) (s : PS) (off : Nat) (size : Int) (v i : Nat) (w : World) (hoff : off < 18446744073709551616) (hv : v < 18446744073709551616) (ok : OkP s) 
    (h : w.heap[b]? = some (.cells (cellsP s) 60)) (hs : spotP s.n off size = (0, i)) :
    Calls Try.prog 28 #[.pointer (some ⟨b, 0, none⟩), .int .u64 (off : Int), .int .i64 size, .int .u64 (v : Int)] w fun e w' => e = .returned (.bool false) ∧ w' = w := by
  have HS := Lib.hid hs
  clear hs
  have n0 := ok.n0
  have n8 := ok.n8
  go_enter Try.func28, Try.ntmps28
  go_wp2_with fail
  refine (find_v HS.out _ hoff n0 n8 h).mono ?_
  rintro e w1 ⟨rfl, hw⟩
  rw [hw]
  clear hw w1
  rw [findW0]
  go_wp2
  go_ret
  exact ⟨rfl, rfl⟩
set_option maxRecDepth 100000 in
set_option maxHeartbeats 4000000 in
theorem pwrite_2 (b : Nat) (s : PS) (off : Nat) (size : Int) (v i : Nat) (w : World) (hoff : off < 18446744073709551616) (hv : v < 18446744073709551616) (ok : OkP s) 
    (h : w.heap[b]? = some (.cells (cellsP s) 60)) (hs : spotP s.n off size = (2, i)) :
    Calls Try.prog 28 #[.pointer (some ⟨b, 0, none⟩), .int .u64 (off : Int), .int .i64 size, .int .u64 (v : Int)] w fun e w' => e = .returned (.bool true) ∧ w' = w := by
  have HS := Lib.hid hs
  clear hs
  have n0 := ok.n0
  have n8 := ok.n8
  go_enter Try.func28, Try.ntmps28
  go_wp2_with fail
  refine (find_v HS.out _ hoff n0 n8 h).mono ?_
  rintro e w1 ⟨rfl, hw⟩
  rw [hw]
  clear hw w1
  rw [findW2]
  go_wp2
  go_ret
  exact ⟨rfl, rfl⟩
set_option maxRecDepth 100000 in
set_option maxHeartbeats 4000000 in
theorem pwrite_1 (b : Nat) (s : PS) (off : Nat) (size : Int) (v i : Nat) (w : World) (hoff : off < 18446744073709551616) (hv : v < 18446744073709551616) (ok : OkP s) (hi : i < 32)
    (h : w.heap[b]? = some (.cells (cellsP s) 60)) (hs : spotP s.n off size = (1, i)) :
    Calls Try.prog 28 #[.pointer (some ⟨b, 0, none⟩), .int .u64 (off : Int), .int .i64 size, .int .u64 (v : Int)] w fun e w' => e = .returned (.bool true) ∧ w'.heap[b]? = some (.cells (cellsP (setPr s i (v % 8))) 60) ∧ Wrote b w w' := by
  obtain ⟨c0, c1, c2, c3, cl, cf⟩ := knownP h
  have ci := knownPpr h hi
  have hi0 : (0 : Int) ≤ i := by omega
  have hi1 : (i : Int) < 32 := by omega
  have h7 := and7 v hv
  have h8 : v % 8 < 8 := Nat.mod_lt _ (by omega)
  have k1 := set_at h (1 + i) (.int .u8 ((v % 8 : Nat) : Int))
  rw [P_setPr s hi (v % 8)] at k1
  have W1 := (Wrote.refl b w).setCell (1 + i) (.int .u8 ((v % 8 : Nat) : Int))
  have HK := Lib.hid (And.intro k1 W1)
  clear k1 W1
  obtain ⟨m, hm⟩ : ∃ m, v % 8 = m := ⟨_, rfl⟩
  rw [hm] at h7 h8 HK ⊢
  have HS := Lib.hid hs
  clear hs
  have n0 := ok.n0
  have n8 := ok.n8
  go_enter Try.func28, Try.ntmps28
  go_wp2_with fail
  refine (find_v HS.out _ hoff n0 n8 h).mono ?_
  rintro e w1 ⟨rfl, hw⟩
  rw [hw]
  clear hw w1
  rw [findW1]
  go_wp2
  go_ret
  exact ⟨rfl, HK.out.1, HK.out.2⟩
set_option maxRecDepth 100000 in
set_option maxHeartbeats 4000000 in
theorem pwrite_4 (b : Nat) (s : PS) (off : Nat) (size : Int) (v i : Nat) (w : World) (hoff : off < 18446744073709551616) (hv : v < 18446744073709551616) (ok : OkP s) (hi : i < 16)
    (h : w.heap[b]? = some (.cells (cellsP s) 60)) (hs : spotP s.n off size = (4, i)) :
    Calls Try.prog 28 #[.pointer (some ⟨b, 0, none⟩), .int .u64 (off : Int), .int .i64 size, .int .u64 (v : Int)] w fun e w' => e = .returned (.bool true) ∧ w'.heap[b]? = some (.cells (cellsP (setLv s i (v % 8))) 60) ∧ Wrote b w w' := by
  obtain ⟨c0, c1, c2, c3, cl, cf⟩ := knownP h
  have ci := knownPlv h hi
  have hi0 : (0 : Int) ≤ i := by omega
  have hi1 : (i : Int) < 16 := by omega
  have h7 := and7 v hv
  have h8 : v % 8 < 8 := Nat.mod_lt _ (by omega)
  have k1 := set_at h (52 + i) (.int .u8 ((v % 8 : Nat) : Int))
  rw [P_setLv s hi (v % 8)] at k1
  have W1 := (Wrote.refl b w).setCell (52 + i) (.int .u8 ((v % 8 : Nat) : Int))
  have HK := Lib.hid (And.intro k1 W1)
  clear k1 W1
  obtain ⟨m, hm⟩ : ∃ m, v % 8 = m := ⟨_, rfl⟩
  rw [hm] at h7 h8 HK ⊢
  have HS := Lib.hid hs
  clear hs
  have n0 := ok.n0
  have n8 := ok.n8
  go_enter Try.func28, Try.ntmps28
  go_wp2_with fail
  refine (find_v HS.out _ hoff n0 n8 h).mono ?_
  rintro e w1 ⟨rfl, hw⟩
  rw [hw]
  clear hw w1
  rw [findW4]
  go_wp2
  go_ret
  exact ⟨rfl, HK.out.1, HK.out.2⟩
set_option maxRecDepth 100000 in
set_option maxHeartbeats 4000000 in
theorem pwrite_3 (b : Nat) (s : PS) (off : Nat) (size : Int) (v i : Nat) (w : World) (hoff : off < 18446744073709551616) (hv : v < 18446744073709551616) (ok : OkP s) (hi : i < 16)
    (h : w.heap[b]? = some (.cells (cellsP s) 60)) (hs : spotP s.n off size = (3, i)) :
    Calls Try.prog 28 #[.pointer (some ⟨b, 0, none⟩), .int .u64 (off : Int), .int .i64 size, .int .u64 (v : Int)] w fun e w' => e = .returned (.bool true) ∧ w'.heap[b]? = some (.cells (cellsP (setOn s i (onF v))) 60) ∧ Wrote b w w' := by
  obtain ⟨c0, c1, c2, c3, cl, cf⟩ := knownP h
  have ci := knownPon h hi
  have hi0 : (0 : Int) ≤ i := by omega
  have hi1 : (i : Int) < 16 := by omega
  have hw32 := wrap32 v
  have hon := onW2 v
  obtain ⟨m, hm⟩ : ∃ m, v % 4294967296 = m := ⟨_, rfl⟩
  rw [hm] at hw32 hon
  have k1 := set_at h (36 + i) (.int .u32 ((W32 (onF v) : Nat) : Int))
  rw [P_setOn s hi (onF v)] at k1
  have W1 := (Wrote.refl b w).setCell (36 + i) (.int .u32 ((W32 (onF v) : Nat) : Int))
  have HK := Lib.hid (And.intro k1 W1)
  clear k1 W1
  have HS := Lib.hid hs
  clear hs
  have n0 := ok.n0
  have n8 := ok.n8
  go_enter Try.func28, Try.ntmps28
  go_wp2_with fail
  refine (find_v HS.out _ hoff n0 n8 h).mono ?_
  rintro e w1 ⟨rfl, hw⟩
  rw [hw]
  clear hw w1
  rw [findW3]
  go_wp2
  go_ret
  exact ⟨rfl, HK.out.1, HK.out.2⟩
set_option maxRecDepth 100000 in
set_option maxHeartbeats 4000000 in
theorem pwrite_5g (b : Nat) (s : PS) (off : Nat) (size : Int) (v i : Nat) (w : World) (hoff : off < 18446744073709551616) (hv : v < 18446744073709551616) (ok : OkP s) (hi : i < 16) (m : Nat) (hm : v % 4294967296 = m) (hbig : 32 ≤ m)
    (h : w.heap[b]? = some (.cells (cellsP s) 60)) (hs : spotP s.n off size = (5, i)) :
    Calls Try.prog 28 #[.pointer (some ⟨b, 0, none⟩), .int .u64 (off : Int), .int .i64 size, .int .u64 (v : Int)] w fun e w' => e = .returned (.bool true) ∧ w'.heap[b]? = some (.cells (cellsP s) 60) ∧ Wrote b w w' := by
  have hw32 := wrap32 v
  rw [hm] at hw32
  have hbig' : (32 : Int) ≤ m := by omega
  have hbig2 : ¬ (m : Int) < 32 := by omega
  have hbig3 : decide ((m : Int) < 32) = false := by simp; omega
  have HS := Lib.hid hs
  clear hs
  have n0 := ok.n0
  have n8 := ok.n8
  go_enter Try.func28, Try.ntmps28
  go_wp2_with fail
  refine (find_v HS.out _ hoff n0 n8 h).mono ?_
  rintro e w1 ⟨rfl, hw⟩
  rw [hw]
  clear hw w1
  rw [findW5]
  go_wp2_with fail
  go_quiet (fail)
  go_wp2
  go_ret
  exact ⟨rfl, h, (Wrote.refl b w).drewN _⟩
set_option maxRecDepth 100000 in
set_option maxHeartbeats 4000000 in
theorem pwrite_5n (b : Nat) (s : PS) (off : Nat) (size : Int) (v i : Nat) (w : World) (hoff : off < 18446744073709551616) (hv : v < 18446744073709551616) (ok : OkP s) (hi : i < 16) (m : Nat) (hm : v % 4294967296 = m) (hlt : m < 32) (hq : (s.on i m && s.se m) = false)
    (h : w.heap[b]? = some (.cells (cellsP s) 60)) (hs : spotP s.n off size = (5, i)) :
    Calls Try.prog 28 #[.pointer (some ⟨b, 0, none⟩), .int .u64 (off : Int), .int .i64 size, .int .u64 (v : Int)] w fun e w' => e = .returned (.bool true) ∧ w'.heap[b]? = some (.cells (cellsP s) 60) ∧ Wrote b w w' := by
  have hw32 := wrap32 v
  rw [hm] at hw32
  obtain ⟨c0, c1, c2, c3, cl, cf⟩ := knownP h
  have co := knownPon h hi
  have hi0 : (0 : Int) ≤ i := by omega
  have hi1 : (i : Int) < 16 := by omega
  have hm0 : (0 : Int) ≤ m := by omega
  have hm32 : (m : Int) < 32 := by omega
  have hwm : IntKind.i64.wrap (m : Int) = (m : Int) := by rw [IntKind.wrap_i64]; omega
  have e1 := and_W32 (s.on i) s.se
  have e2 := and_W32 (fun j => s.on i j && s.se j) (oneF m)
  have e3 := andOne (fun j => s.on i j && s.se j) hlt
  rw [hq] at e3
  have HS := Lib.hid hs
  clear hs
  have n0 := ok.n0
  have n8 := ok.n8
  go_enter Try.func28, Try.ntmps28
  go_wp2_with fail
  refine (find_v HS.out _ hoff n0 n8 h).mono ?_
  rintro e w1 ⟨rfl, hw⟩
  rw [hw]
  clear hw w1
  rw [findW5]
  go_wp2_with fail
  go_quiet ((go_at_call 43; exact Calls.quiet_of_same (pbit_any m _ hlt)))
  go_wp2
  go_ret
  exact ⟨rfl, h, (Wrote.refl b w).drewN _⟩
set_option maxRecDepth 100000 in
set_option maxHeartbeats 4000000 in
theorem pwrite_5y (b : Nat) (s : PS) (off : Nat) (size : Int) (v i : Nat) (w : World) (hoff : off < 18446744073709551616) (hv : v < 18446744073709551616) (ok : OkP s) (hi : i < 16) (m : Nat) (hm : v % 4294967296 = m) (hlt : m < 32) (hq : (s.on i m && s.se m) = true)
    (h : w.heap[b]? = some (.cells (cellsP s) 60)) (hs : spotP s.n off size = (5, i)) :
    Calls Try.prog 28 #[.pointer (some ⟨b, 0, none⟩), .int .u64 (off : Int), .int .i64 size, .int .u64 (v : Int)] w fun e w' => e = .returned (.bool true) ∧ w'.heap[b]? = some (.cells (cellsP (doneP s m)) 60) ∧ Wrote b w w' := by
  have hw32 := wrap32 v
  rw [hm] at hw32
  obtain ⟨c0, c1, c2, c3, cl, cf⟩ := knownP h
  have co := knownPon h hi
  have hi0 : (0 : Int) ≤ i := by omega
  have hi1 : (i : Int) < 16 := by omega
  have hm0 : (0 : Int) ≤ m := by omega
  have hm32 : (m : Int) < 32 := by omega
  have hwm : IntKind.i64.wrap (m : Int) = (m : Int) := by rw [IntKind.wrap_i64]; omega
  have e1 := and_W32 (s.on i) s.se
  have e2 := and_W32 (fun j => s.on i j && s.se j) (oneF m)
  have e3 := andOne (fun j => s.on i j && s.se j) hlt
  rw [hq] at e3
  have HW := Lib.hid (offW s.se m)
  have HF := Lib.hid (finished s ok m hlt)
  have HS := Lib.hid hs
  clear hs
  have n0 := ok.n0
  have n8 := ok.n8
  go_enter Try.func28, Try.ntmps28
  go_wp2_with fail
  refine (find_v HS.out _ hoff n0 n8 h).mono ?_
  rintro e w1 ⟨rfl, hw⟩
  rw [hw]
  clear hw w1
  rw [findW5]
  go_wp2_with fail
  go_quiet ((go_at_call 43; exact Calls.quiet_of_same (pbit_any m _ hlt)))
  go_wp2_with fail
  obtain ⟨w1, hw1⟩ : ∃ w1, w1 = w.drewN nq := ⟨_, rfl⟩
  try rw [← hw1]
  have h1 : w1.heap[b]? = some (.cells (cellsP s) 60) := by rw [hw1]; exact h
  have W1 : Wrote b w w1 := by rw [hw1]; exact (Wrote.refl b w).drewN nq
  clear hw1 c0 c1 c2 c3 cl cf co h e1 e2 e3
  obtain ⟨c0, c1, c2, c3, cl, cf⟩ := knownP h1
  go_still_tail 10, (by kernel_rfl)
  still_call (pbit_any m _ hlt)
  repeat still_step
  refine wpStill_nil ?_
  obtain ⟨w2, hw2⟩ : ∃ w2, w2 = w1.drew := ⟨_, rfl⟩
  change wpList _ _ _ _ _ w1.drew
  rw [← hw2, HW.out]
  have h2 : w2.heap[b]? = some (.cells (cellsP s) 60) := by rw [hw2]; exact h1
  have W2 : Wrote b w w2 := by rw [hw2]; exact W1.drew
  clear hw2 c0 c1 c2 c3 cl cf h1 W1
  obtain ⟨c0, c1, c2, c3, cl, cf⟩ := knownP h2
  have k3 := set_at h2 35 (.int .u32 ((W32 (upN s.se m false) : Nat) : Int))
  rw [P_setSe] at k3
  have W3 := W2.setCell 35 (.int .u32 ((W32 (upN s.se m false) : Nat) : Int))
  go_wp2_with fail
  refine (settle_v HF.out _ k3).mono ?_
  rintro e w4 ⟨⟨v4, rfl⟩, k4, t4⟩
  go_wp2
  go_ret
  exact ⟨rfl, k4, W3.trans t4⟩
theorem pwrite_any (b : Nat) (s : PS) (off : Nat) (size : Int) (v : Nat) (w : World) (hoff : off < 18446744073709551616) (hv : v < 18446744073709551616) (ok : OkP s)
    (h : w.heap[b]? = some (.cells (cellsP s) 60)) :
    Calls Try.prog 28 #[.pointer (some ⟨b, 0, none⟩), .int .u64 (off : Int), .int .i64 size, .int .u64 (v : Int)] w fun e w' => e = .returned (.bool (writeP s v (spotP s.n off size)).2) ∧ w'.heap[b]? = some (.cells (cellsP (writeP s v (spotP s.n off size)).1) 60) ∧ Wrote b w w' := by
  have hk := spotP_ok s.n off size
  have n8 := ok.n8
  obtain ⟨⟨r, i⟩, hsp⟩ : ∃ p, spotP s.n off size = p := ⟨_, rfl⟩
  rw [hsp] at hk ⊢
  unfold SpotOk at hk
  simp only at hk
  rcases hk with rfl | ⟨rfl, _, hi⟩ | rfl | ⟨rfl, hi⟩ | ⟨rfl, hi⟩ | ⟨rfl, hi⟩
  · unfold writeP
    simp only []
    exact (pwrite_0 b s off size v i w hoff hv ok h hsp).mono fun e w' ⟨he, hw⟩ => ⟨he, by rw [hw]; exact h, by rw [hw]; exact Wrote.refl _ _⟩
  · unfold writeP
    simp only []
    exact pwrite_1 b s off size v i w hoff hv ok hi h hsp
  · unfold writeP
    simp only []
    exact (pwrite_2 b s off size v i w hoff hv ok h hsp).mono fun e w' ⟨he, hw⟩ => ⟨he, by rw [hw]; exact h, by rw [hw]; exact Wrote.refl _ _⟩
  · unfold writeP
    simp only []
    exact pwrite_3 b s off size v i w hoff hv ok (by omega) h hsp
  · unfold writeP
    simp only []
    exact pwrite_4 b s off size v i w hoff hv ok (by omega) h hsp
  · by_cases hlt : v % 4294967296 < 32
    · by_cases hq : (s.on i (v % 4294967296) && s.se (v % 4294967296)) = true
      · have hq2 : s.on i (v % 4294967296) = true ∧ s.se (v % 4294967296) = true := by simpa using hq
        rw [show writeP s v (5, i) = (doneP s (v % 4294967296), true) from by unfold writeP endP; simp [hlt, hq2]]
        exact pwrite_5y b s off size v i w hoff hv ok (by omega) (v % 4294967296) rfl hlt hq h hsp
      · have hq2 : ¬ (v % 4294967296 < 32 ∧ s.on i (v % 4294967296) = true ∧ s.se (v % 4294967296) = true) := by rintro ⟨_, a1, a2⟩; exact hq (by simp [a1, a2])
        rw [show writeP s v (5, i) = (s, true) from by unfold writeP endP; rw [if_neg hq2]; rfl]
        exact pwrite_5n b s off size v i w hoff hv ok (by omega) (v % 4294967296) rfl hlt (by simpa using hq) h hsp
    · have hq2 : ¬ (v % 4294967296 < 32 ∧ s.on i (v % 4294967296) = true ∧ s.se (v % 4294967296) = true) := fun hh => hlt hh.1
      rw [show writeP s v (5, i) = (s, true) from by unfold writeP endP; rw [if_neg hq2]; rfl]
      exact pwrite_5g b s off size v i w hoff hv ok (by omega) (v % 4294967296) rfl (by omega) h hsp
theorem pwrite_v {b : Nat} {s s' : PS} {off : Nat} {size : Int} {v : Nat} {q : Bool} (hr : writeP s v (spotP s.n off size) = (s', q)) (w : World) (hoff : off < 18446744073709551616) (hv : v < 18446744073709551616) (ok : OkP s)
    (h : w.heap[b]? = some (.cells (cellsP s) 60)) :
    Calls Try.prog 28 #[.pointer (some ⟨b, 0, none⟩), .int .u64 (off : Int), .int .i64 size, .int .u64 (v : Int)] w fun e w' => e = .returned (.bool q) ∧ w'.heap[b]? = some (.cells (cellsP s') 60) ∧ Wrote b w w' := by
  have := pwrite_any b s off size v w hoff hv ok h
  rw [hr] at this
  exact this
end Go.Proofs.Ytgelpapjmlbgfaa
