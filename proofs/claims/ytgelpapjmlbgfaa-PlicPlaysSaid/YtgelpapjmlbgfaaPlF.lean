/- plic's Read. -/
import Derived.Test.YtgelpapjmlbgfaaPlE3
import Derived.StillTailTactics
namespace Go.Proofs.Ytgelpapjmlbgfaa
open Go.RowKit
set_option linter.unusedSimpArgs false
set_option linter.unusedVariables false
attribute [local simp high] zeroPv sizePv

theorem findW0 (i : Nat) : findW (0, i) = .tuple #[.int .i64 0, .int .i64 (i : Int)] := rfl
theorem findW1 (i : Nat) : findW (1, i) = .tuple #[.int .i64 1, .int .i64 (i : Int)] := rfl
theorem findW2 (i : Nat) : findW (2, i) = .tuple #[.int .i64 2, .int .i64 (i : Int)] := rfl
theorem findW3 (i : Nat) : findW (3, i) = .tuple #[.int .i64 3, .int .i64 (i : Int)] := rfl
theorem findW4 (i : Nat) : findW (4, i) = .tuple #[.int .i64 4, .int .i64 (i : Int)] := rfl
theorem findW5 (i : Nat) : findW (5, i) = .tuple #[.int .i64 5, .int .i64 (i : Int)] := rfl
set_option maxRecDepth 100000 in
set_option maxHeartbeats 4000000 in
theorem pread_0 (b : Nat) (s : PS) (off : Nat) (size : Int) (i : Nat) (w : World) (hoff : off < 18446744073709551616) (ok : OkP s) 
    (h : w.heap[b]? = some (.cells (cellsP s) 60)) (hs : spotP s.n off size = (0, i)) :
    Calls Try.prog 27 #[.pointer (some ⟨b, 0, none⟩), .int .u64 (off : Int), .int .i64 size] w fun e w' => e = .returned (.tuple #[.int .u64 0, .bool false]) ∧ w' = w := by
  obtain ⟨c0, c1, c2, c3, cl, cf⟩ := knownP h
  have HS := Lib.hid hs
  clear hs
  have n0 := ok.n0
  have n8 := ok.n8
  go_enter Try.func27, Try.ntmps27
  go_wp2_with fail
  refine (find_v HS.out _ hoff n0 n8 h).mono ?_
  rintro e w1 ⟨rfl, hw⟩
  rw [hw]
  clear hw w1
  rw [findW0]
  go_wp2
  go_ret2
  exact ⟨rfl, rfl⟩
set_option maxRecDepth 100000 in
set_option maxHeartbeats 4000000 in
theorem pread_1 (b : Nat) (s : PS) (off : Nat) (size : Int) (i : Nat) (w : World) (hoff : off < 18446744073709551616) (ok : OkP s) (hi : i < 32)
    (h : w.heap[b]? = some (.cells (cellsP s) 60)) (hs : spotP s.n off size = (1, i)) :
    Calls Try.prog 27 #[.pointer (some ⟨b, 0, none⟩), .int .u64 (off : Int), .int .i64 size] w fun e w' => e = .returned (.tuple #[.int .u64 (s.pr i : Int), .bool true]) ∧ w' = w := by
  obtain ⟨c0, c1, c2, c3, cl, cf⟩ := knownP h
  have ci := knownPpr h hi
  have hb := ok.pr i
  have hi0 : (0 : Int) ≤ i := by omega
  have hi1 : (i : Int) < 32 := by omega
  obtain ⟨x, hx⟩ : ∃ x, s.pr i = x := ⟨_, rfl⟩
  rw [hx] at ci hb ⊢
  have HS := Lib.hid hs
  clear hs
  have n0 := ok.n0
  have n8 := ok.n8
  go_enter Try.func27, Try.ntmps27
  go_wp2_with fail
  refine (find_v HS.out _ hoff n0 n8 h).mono ?_
  rintro e w1 ⟨rfl, hw⟩
  rw [hw]
  clear hw w1
  rw [findW1]
  go_wp2
  go_ret2
  exact ⟨rfl, rfl⟩
set_option maxRecDepth 100000 in
set_option maxHeartbeats 4000000 in
theorem pread_2 (b : Nat) (s : PS) (off : Nat) (size : Int) (i : Nat) (w : World) (hoff : off < 18446744073709551616) (ok : OkP s) 
    (h : w.heap[b]? = some (.cells (cellsP s) 60)) (hs : spotP s.n off size = (2, i)) :
    Calls Try.prog 27 #[.pointer (some ⟨b, 0, none⟩), .int .u64 (off : Int), .int .i64 size] w fun e w' => e = .returned (.tuple #[.int .u64 (W32 s.wa : Int), .bool true]) ∧ w' = w := by
  obtain ⟨c0, c1, c2, c3, cl, cf⟩ := knownP h
  obtain ⟨x, hx⟩ : ∃ x, W32 s.wa = x := ⟨_, rfl⟩
  have hx32 : x < 4294967296 := by rw [← hx]; exact W32_lt _
  rw [hx] at c2 ⊢
  have HS := Lib.hid hs
  clear hs
  have n0 := ok.n0
  have n8 := ok.n8
  go_enter Try.func27, Try.ntmps27
  go_wp2_with fail
  refine (find_v HS.out _ hoff n0 n8 h).mono ?_
  rintro e w1 ⟨rfl, hw⟩
  rw [hw]
  clear hw w1
  rw [findW2]
  go_wp2
  go_ret2
  exact ⟨rfl, rfl⟩
set_option maxRecDepth 100000 in
set_option maxHeartbeats 4000000 in
theorem pread_3 (b : Nat) (s : PS) (off : Nat) (size : Int) (i : Nat) (w : World) (hoff : off < 18446744073709551616) (ok : OkP s) (hi : i < 16)
    (h : w.heap[b]? = some (.cells (cellsP s) 60)) (hs : spotP s.n off size = (3, i)) :
    Calls Try.prog 27 #[.pointer (some ⟨b, 0, none⟩), .int .u64 (off : Int), .int .i64 size] w fun e w' => e = .returned (.tuple #[.int .u64 (W32 (s.on i) : Int), .bool true]) ∧ w' = w := by
  obtain ⟨c0, c1, c2, c3, cl, cf⟩ := knownP h
  have ci := knownPon h hi
  have hi0 : (0 : Int) ≤ i := by omega
  have hi1 : (i : Int) < 16 := by omega
  obtain ⟨x, hx⟩ : ∃ x, W32 (s.on i) = x := ⟨_, rfl⟩
  have hx32 : x < 4294967296 := by rw [← hx]; exact W32_lt _
  rw [hx] at ci ⊢
  have HS := Lib.hid hs
  clear hs
  have n0 := ok.n0
  have n8 := ok.n8
  go_enter Try.func27, Try.ntmps27
  go_wp2_with fail
  refine (find_v HS.out _ hoff n0 n8 h).mono ?_
  rintro e w1 ⟨rfl, hw⟩
  rw [hw]
  clear hw w1
  rw [findW3]
  go_wp2
  go_ret2
  exact ⟨rfl, rfl⟩
set_option maxRecDepth 100000 in
set_option maxHeartbeats 4000000 in
theorem pread_4 (b : Nat) (s : PS) (off : Nat) (size : Int) (i : Nat) (w : World) (hoff : off < 18446744073709551616) (ok : OkP s) (hi : i < 16)
    (h : w.heap[b]? = some (.cells (cellsP s) 60)) (hs : spotP s.n off size = (4, i)) :
    Calls Try.prog 27 #[.pointer (some ⟨b, 0, none⟩), .int .u64 (off : Int), .int .i64 size] w fun e w' => e = .returned (.tuple #[.int .u64 (s.lv i : Int), .bool true]) ∧ w' = w := by
  obtain ⟨c0, c1, c2, c3, cl, cf⟩ := knownP h
  have ci := knownPlv h hi
  have hb := ok.lv i
  have hi0 : (0 : Int) ≤ i := by omega
  have hi1 : (i : Int) < 16 := by omega
  obtain ⟨x, hx⟩ : ∃ x, s.lv i = x := ⟨_, rfl⟩
  rw [hx] at ci hb ⊢
  have HS := Lib.hid hs
  clear hs
  have n0 := ok.n0
  have n8 := ok.n8
  go_enter Try.func27, Try.ntmps27
  go_wp2_with fail
  refine (find_v HS.out _ hoff n0 n8 h).mono ?_
  rintro e w1 ⟨rfl, hw⟩
  rw [hw]
  clear hw w1
  rw [findW4]
  go_wp2
  go_ret2
  exact ⟨rfl, rfl⟩
set_option maxRecDepth 100000 in
set_option maxHeartbeats 4000000 in
theorem pread_5n (b : Nat) (s : PS) (off : Nat) (size : Int) (i : Nat) (w : World) (hoff : off < 18446744073709551616) (ok : OkP s) (hi : i < 16) (r : Nat) (hr : bestP s i 0 = r) (hr0 : r = 0)
    (h : w.heap[b]? = some (.cells (cellsP s) 60)) (hs : spotP s.n off size = (5, i)) :
    Calls Try.prog 27 #[.pointer (some ⟨b, 0, none⟩), .int .u64 (off : Int), .int .i64 size] w fun e w' => e = .returned (.tuple #[.int .u64 0, .bool true]) ∧ w'.heap[b]? = some (.cells (cellsP s) 60) ∧ Wrote b w w' := by
  rw [hr0] at hr
  clear hr0
  obtain ⟨c0, c1, c2, c3, cl, cf⟩ := knownP h
  have hi0 : (0 : Int) ≤ i := by omega
  have hi1 : (i : Int) < 16 := by omega
  have co := knownPon h hi
  have HA := Lib.hid (and_W32 s.wa (s.on i))
  have HR : Hid (bestU (fun j => s.wa j && s.on i j) s.pr 0 31 = 0) := hr
  clear hr
  have HS := Lib.hid hs
  clear hs
  have n0 := ok.n0
  have n8 := ok.n8
  go_enter Try.func27, Try.ntmps27
  go_wp2_with fail
  refine (find_v HS.out _ hoff n0 n8 h).mono ?_
  rintro e w1 ⟨rfl, hw⟩
  rw [hw]
  clear hw w1
  rw [findW5]
  go_wp2_with fail
  go_quiet ((go_at_call 42; rw [HA.out]; exact Calls.quiet_of (best_v (a := 0) HR.out _ ok (by omega) (by exact h))))
  go_wp2
  go_ret2
  exact ⟨rfl, h, (Wrote.refl b w).drewN _⟩
set_option maxRecDepth 100000 in
set_option maxHeartbeats 4000000 in
theorem pread_5y (b : Nat) (s : PS) (off : Nat) (size : Int) (i : Nat) (w : World) (hoff : off < 18446744073709551616) (ok : OkP s) (hi : i < 16) (r : Nat) (hr : bestP s i 0 = r) (hr0 : 0 < r) (hr31 : r < 32)
    (h : w.heap[b]? = some (.cells (cellsP s) 60)) (hs : spotP s.n off size = (5, i)) :
    Calls Try.prog 27 #[.pointer (some ⟨b, 0, none⟩), .int .u64 (off : Int), .int .i64 size] w fun e w' => e = .returned (.tuple #[.int .u64 (r : Int), .bool true]) ∧ w'.heap[b]? = some (.cells (cellsP (claimP s r)) 60) ∧ Wrote b w w' := by
  obtain ⟨c0, c1, c2, c3, cl, cf⟩ := knownP h
  have hi0 : (0 : Int) ≤ i := by omega
  have hi1 : (i : Int) < 16 := by omega
  have co := knownPon h hi
  have HA := Lib.hid (and_W32 s.wa (s.on i))
  have HR : Hid (bestU (fun j => s.wa j && s.on i j) s.pr 0 31 = r) := hr
  clear hr
  have HW := Lib.hid (offW s.wa r)
  have HV := Lib.hid (onW s.se r)
  have hr0' : (0 : Int) < r := by omega
  have HS := Lib.hid hs
  clear hs
  have n0 := ok.n0
  have n8 := ok.n8
  go_enter Try.func27, Try.ntmps27
  go_wp2_with fail
  refine (find_v HS.out _ hoff n0 n8 h).mono ?_
  rintro e w1 ⟨rfl, hw⟩
  rw [hw]
  clear hw w1
  rw [findW5]
  go_wp2_with fail
  go_quiet ((go_at_call 42; rw [HA.out]; exact Calls.quiet_of (best_v (a := 0) HR.out _ ok (by omega) (by exact h))))
  go_wp2_with fail
  obtain ⟨w1, hw1⟩ : ∃ w1, w1 = w.drewN nq := ⟨_, rfl⟩
  try rw [← hw1]
  have h1 : w1.heap[b]? = some (.cells (cellsP s) 60) := by rw [hw1]; exact h
  have W1 : Wrote b w w1 := by rw [hw1]; exact (Wrote.refl b w).drewN nq
  clear hw1 c0 c1 c2 c3 cl cf co h
  obtain ⟨c0, c1, c2, c3, cl, cf⟩ := knownP h1
  go_still_tail 9, (by kernel_rfl)
  still_call (pbit_any r _ hr31)
  repeat still_step
  refine wpStill_nil ?_
  obtain ⟨w2, hw2⟩ : ∃ w2, w2 = w1.drew := ⟨_, rfl⟩
  change wpList _ _ _ _ _ w1.drew
  rw [← hw2, HW.out]
  have h2 : w2.heap[b]? = some (.cells (cellsP s) 60) := by rw [hw2]; exact h1
  have W2 : Wrote b w w2 := by rw [hw2]; exact W1.drew
  clear hw2 c0 c1 c2 c3 cl cf h1 W1
  obtain ⟨c0, c1, c2, c3, cl, cf⟩ := knownP h2
  have k3 := set_at h2 34 (.int .u32 ((W32 (upN s.wa r false) : Nat) : Int))
  rw [P_setWa] at k3
  have W3 := W2.setCell 34 (.int .u32 ((W32 (upN s.wa r false) : Nat) : Int))
  go_wp2_with fail
  obtain ⟨w3, hw3⟩ : ∃ w3, w3 = w2.setCell ⟨b, 34, none⟩ (.int .u32 ((W32 (upN s.wa r false) : Nat) : Int)) := ⟨_, rfl⟩
  rw [← hw3] at k3 W3 ⊢
  clear hw3 c0 c1 c2 c3 cl cf h2 W2
  obtain ⟨c0, c1, c2, c3, cl, cf⟩ := knownP k3
  dsimp only [setWa] at c3
  go_still_tail 9, (by kernel_rfl)
  still_call (pbit_any r _ hr31)
  repeat still_step
  refine wpStill_nil ?_
  obtain ⟨w4, hw4⟩ : ∃ w4, w4 = w3.drew := ⟨_, rfl⟩
  change wpList _ _ _ _ _ w3.drew
  rw [← hw4, HV.out]
  have h4 : w4.heap[b]? = some (.cells (cellsP (setWa s (upN s.wa r false))) 60) := by rw [hw4]; exact k3
  have W4 : Wrote b w w4 := by rw [hw4]; exact W3.drew
  clear hw4 c0 c1 c2 c3 cl cf k3 W3
  obtain ⟨c0, c1, c2, c3, cl, cf⟩ := knownP h4
  have k5 := set_at h4 35 (.int .u32 ((W32 (upN s.se r true) : Nat) : Int))
  rw [P_setSe] at k5
  have W5 := W4.setCell 35 (.int .u32 ((W32 (upN s.se r true) : Nat) : Int))
  go_wp2
  go_ret2
  exact ⟨rfl, k5, W5⟩
theorem pread_any (b : Nat) (s : PS) (off : Nat) (size : Int) (w : World) (hoff : off < 18446744073709551616) (ok : OkP s)
    (h : w.heap[b]? = some (.cells (cellsP s) 60)) :
    Calls Try.prog 27 #[.pointer (some ⟨b, 0, none⟩), .int .u64 (off : Int), .int .i64 size] w fun e w' => e = .returned (.tuple #[.int .u64 (((readP s (spotP s.n off size)).2.1 : Nat) : Int), .bool (readP s (spotP s.n off size)).2.2]) ∧ w'.heap[b]? = some (.cells (cellsP (readP s (spotP s.n off size)).1) 60) ∧ Wrote b w w' := by
  have hk := spotP_ok s.n off size
  have n8 := ok.n8
  obtain ⟨⟨r, i⟩, hsp⟩ : ∃ p, spotP s.n off size = p := ⟨_, rfl⟩
  rw [hsp] at hk ⊢
  unfold SpotOk at hk
  simp only at hk
  rcases hk with rfl | ⟨rfl, _, hi⟩ | rfl | ⟨rfl, hi⟩ | ⟨rfl, hi⟩ | ⟨rfl, hi⟩
  · unfold readP
    simp only []
    exact (pread_0 b s off size i w hoff ok h hsp).mono fun e w' ⟨he, hw⟩ => ⟨he, by rw [hw]; exact h, by rw [hw]; exact Wrote.refl _ _⟩
  · unfold readP
    simp only []
    exact (pread_1 b s off size i w hoff ok hi h hsp).mono fun e w' ⟨he, hw⟩ => ⟨he, by rw [hw]; exact h, by rw [hw]; exact Wrote.refl _ _⟩
  · unfold readP
    simp only []
    exact (pread_2 b s off size i w hoff ok h hsp).mono fun e w' ⟨he, hw⟩ => ⟨he, by rw [hw]; exact h, by rw [hw]; exact Wrote.refl _ _⟩
  · unfold readP
    simp only []
    exact (pread_3 b s off size i w hoff ok (by omega) h hsp).mono fun e w' ⟨he, hw⟩ => ⟨he, by rw [hw]; exact h, by rw [hw]; exact Wrote.refl _ _⟩
  · unfold readP
    simp only []
    exact (pread_4 b s off size i w hoff ok (by omega) h hsp).mono fun e w' ⟨he, hw⟩ => ⟨he, by rw [hw]; exact h, by rw [hw]; exact Wrote.refl _ _⟩
  · by_cases h0 : 0 < bestP s i 0
    · rw [show readP s (5, i) = (claimP s (bestP s i 0), bestP s i 0, true) from by unfold readP; simp [h0]]
      have := bestP_le s i 0
      exact pread_5y b s off size i w hoff ok (by omega) (bestP s i 0) rfl h0 (by omega) h hsp
    · have e0 : bestP s i 0 = 0 := by omega
      rw [show readP s (5, i) = (s, 0, true) from by unfold readP; simp [e0]]
      exact pread_5n b s off size i w hoff ok (by omega) (bestP s i 0) rfl e0 h hsp
theorem pread_v {b : Nat} {s s' : PS} {off : Nat} {size : Int} {x : Nat} {q : Bool} (hr : readP s (spotP s.n off size) = (s', x, q)) (w : World) (hoff : off < 18446744073709551616) (ok : OkP s)
    (h : w.heap[b]? = some (.cells (cellsP s) 60)) :
    Calls Try.prog 27 #[.pointer (some ⟨b, 0, none⟩), .int .u64 (off : Int), .int .i64 size] w fun e w' => e = .returned (.tuple #[.int .u64 (x : Int), .bool q]) ∧ w'.heap[b]? = some (.cells (cellsP s') 60) ∧ Wrote b w w' := by
  have := pread_any b s off size w hoff ok h
  rw [hr] at this
  exact this
end Go.Proofs.Ytgelpapjmlbgfaa
