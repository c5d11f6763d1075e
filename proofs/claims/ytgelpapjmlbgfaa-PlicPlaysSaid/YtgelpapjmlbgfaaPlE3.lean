/- plic's Fits, Wire. -/
import Derived.Test.YtgelpapjmlbgfaaPlE
import Derived.Test.YtgelpapjmlbgfaaWrote
import Derived.Deep.RegionWith
import Derived.StillTailTactics
namespace Go.Proofs.Ytgelpapjmlbgfaa
open Go.RowKit
set_option linter.unusedSimpArgs false
set_option linter.unusedVariables false
attribute [local simp high] zeroPv sizePv

set_option maxRecDepth 100000 in
set_option maxHeartbeats 4000000 in
theorem fits_any (n : Int) (off : Nat) (size : Int) (w : World) (hoff : off < 18446744073709551616) :
    Calls Try.prog 32 #[.int .i64 n, .int .u64 (off : Int), .int .i64 size] w fun e w' => e = .returned (.bool (decide (0 < (spotP (newP n).n off size).1))) ∧ Below w.heap.size w w' := by
  have ok := OkP.new n
  obtain ⟨s, hs⟩ : ∃ s, newP n = s := ⟨_, rfl⟩
  rw [hs] at ok ⊢
  obtain ⟨sp, hsp⟩ : ∃ sp, spotP s.n off size = sp := ⟨_, rfl⟩
  rw [hsp]
  have HS := Lib.hid hs
  have HP := Lib.hid hsp
  clear hs hsp
  have l3 := size_cellsP
  have l4 := stnP
  go_enter Try.func32, Try.ntmps32
  go_wp2_with fail
  refine (pnew_any n _).mono ?_
  rintro e w1 ⟨rfl, hb⟩
  rw [HS.out]
  go_wp2_with fail
  refine (find_v HP.out _ hoff ok.n0 ok.n8 (heap_alloc_new _ _)).mono ?_
  rintro e w2 ⟨rfl, rfl⟩
  unfold findW
  by_cases h0 : 0 < sp.1
  · have hne : ((sp.1 : Int) != 0) = true := by simp; omega
    go_wp2
    go_ret
    exact ⟨by simp [h0], (((Fr.refl w).step hb).alloc _).1⟩
  · have hne : ((sp.1 : Int) != 0) = false := by simp; omega
    go_wp2
    go_ret
    exact ⟨by simp [h0], (((Fr.refl w).step hb).alloc _).1⟩

theorem cellsP_wa (s : PS) {f g : Nat → Bool} (h : ∀ j, j < 32 → f j = g j) : cellsP (setWa s f) = cellsP (setWa s g) := by
  rw [← P_setWa, ← P_setWa, W32_congr h]
theorem settled (s : PS) (ok : OkP s) (i : Nat) (on : Bool) (hi : i < 32) :
    cellsP (setWa (setWi s (upN s.wi i on)) fun j => s.wa j || (upN s.wi i on j && !s.se j)) = cellsP (wireS s i on) := by
  have hJ := ok.J
  unfold wireS
  split
  · rename_i hq
    refine cellsP_wa _ fun j hj => ?_
    unfold upN
    by_cases e : j = i
    · subst e; simp [hq.1, hq.2]
    · simp [e]
      have := hJ j
      revert this
      cases s.wa j <;> cases s.wi j <;> cases s.se j <;> simp
  · rename_i hq
    have : cellsP (setWi s (upN s.wi i on)) = cellsP (setWa (setWi s (upN s.wi i on)) s.wa) := rfl
    rw [this]
    refine cellsP_wa _ fun j hj => ?_
    unfold upN
    by_cases e : j = i
    · subst e
      revert hq
      cases s.se j <;> cases on <;> simp
    · simp [e]
      have := hJ j
      revert this
      cases s.wa j <;> cases s.wi j <;> cases s.se j <;> simp
set_option maxRecDepth 100000 in
set_option maxHeartbeats 4000000 in
theorem settle_v {b : Nat} {s : PS} {c : Array Value} (hc : cellsP (setWa s fun i => s.wa i || (s.wi i && !s.se i)) = c) (w : World) (h : w.heap[b]? = some (.cells (cellsP s) 60)) :
    Calls Try.prog 44 #[.pointer (some ⟨b, 0, none⟩)] w fun e w' => (∃ v, e = .returned v) ∧ w'.heap[b]? = some (.cells c 60) ∧ Wrote b w w' := by
  refine (settle_any b s w h).mono ?_
  rintro e w' ⟨hv, rfl⟩
  refine ⟨hv, ?_, ((Wrote.refl b w).setCell _ _).drew⟩
  have := set_at h 34 (.int .u32 ((W32 fun i => s.wa i || (s.wi i && !s.se i) : Nat) : Int))
  rw [P_setWa, hc] at this
  exact this
set_option maxRecDepth 100000 in
set_option maxHeartbeats 4000000 in
theorem wire_on (b : Nat) (s : PS) (i : Nat) (w : World) (ok : OkP s) (hn : s.n ≠ 0) (h1 : 1 ≤ i) (hi : i < 32) (h : w.heap[b]? = some (.cells (cellsP s) 60)) :
    Calls Try.prog 29 #[.pointer (some ⟨b, 0, none⟩), .int .i64 (i : Int), .bool true] w fun e w' => e = .returned (.bool true) ∧ w'.heap[b]? = some (.cells (cellsP (wireS s i true)) 60) ∧ Wrote b w w' := by
  obtain ⟨c0, c1, c2, c3, cl, cf⟩ := knownP h
  have hi1 : (1 : Int) ≤ i := by omega
  have hi32 : (i : Int) < 32 := by omega
  have d1 : decide ((i : Int) < 1) = false := by simp; omega
  have d2 : decide (32 ≤ (i : Int)) = false := by simp; omega
  have HS := Lib.hid (settled s ok i true hi)
  have hn0 : (s.n == 0) = false := by simp [hn]
  have HW := Lib.hid (onW s.wi i)
  go_enter Try.func29, Try.ntmps29
  go_wp2_with fail
  go_still_tail 9, (by kernel_rfl)
  still_call (pbit_any i _ hi)
  repeat still_step
  refine wpStill_nil ?_
  obtain ⟨w2, hw2⟩ : ∃ w2, w2 = w.drew := ⟨_, rfl⟩
  change wpList _ _ _ _ _ w.drew
  rw [← hw2, HW.out]
  have h2 : w2.heap[b]? = some (.cells (cellsP s) 60) := by rw [hw2]; exact h
  have W2 : Wrote b w w2 := by rw [hw2]; exact (Wrote.refl b w).drew
  clear hw2 c0 c1 c2 c3 cl cf h
  obtain ⟨c0, c1, c2, c3, cl, cf⟩ := knownP h2
  have k1 := set_at h2 33 (.int .u32 ((W32 (upN s.wi i true) : Nat) : Int))
  rw [P_setWi] at k1
  have W3 := W2.setCell 33 (.int .u32 ((W32 (upN s.wi i true) : Nat) : Int))
  go_wp2_with fail
  refine (settle_v HS.out _ k1).mono ?_
  rintro e w3 ⟨⟨v, rfl⟩, k3, t3⟩
  go_wp2
  go_ret
  exact ⟨rfl, k3, W3.trans t3⟩
set_option maxRecDepth 100000 in
set_option maxHeartbeats 4000000 in
theorem wire_off (b : Nat) (s : PS) (i : Nat) (w : World) (ok : OkP s) (hn : s.n ≠ 0) (h1 : 1 ≤ i) (hi : i < 32) (h : w.heap[b]? = some (.cells (cellsP s) 60)) :
    Calls Try.prog 29 #[.pointer (some ⟨b, 0, none⟩), .int .i64 (i : Int), .bool false] w fun e w' => e = .returned (.bool true) ∧ w'.heap[b]? = some (.cells (cellsP (wireS s i false)) 60) ∧ Wrote b w w' := by
  obtain ⟨c0, c1, c2, c3, cl, cf⟩ := knownP h
  have hi1 : (1 : Int) ≤ i := by omega
  have hi32 : (i : Int) < 32 := by omega
  have d1 : decide ((i : Int) < 1) = false := by simp; omega
  have d2 : decide (32 ≤ (i : Int)) = false := by simp; omega
  have HS := Lib.hid (settled s ok i false hi)
  have hn0 : (s.n == 0) = false := by simp [hn]
  have HW := Lib.hid (offW s.wi i)
  go_enter Try.func29, Try.ntmps29
  go_wp2_with fail
  go_still_tail 9, (by kernel_rfl)
  still_call (pbit_any i _ hi)
  repeat still_step
  refine wpStill_nil ?_
  obtain ⟨w2, hw2⟩ : ∃ w2, w2 = w.drew := ⟨_, rfl⟩
  change wpList _ _ _ _ _ w.drew
  rw [← hw2, HW.out]
  have h2 : w2.heap[b]? = some (.cells (cellsP s) 60) := by rw [hw2]; exact h
  have W2 : Wrote b w w2 := by rw [hw2]; exact (Wrote.refl b w).drew
  clear hw2 c0 c1 c2 c3 cl cf h
  obtain ⟨c0, c1, c2, c3, cl, cf⟩ := knownP h2
  have k1 := set_at h2 33 (.int .u32 ((W32 (upN s.wi i false) : Nat) : Int))
  rw [P_setWi] at k1
  have W3 := W2.setCell 33 (.int .u32 ((W32 (upN s.wi i false) : Nat) : Int))
  go_wp2_with fail
  refine (settle_v HS.out _ k1).mono ?_
  rintro e w3 ⟨⟨v, rfl⟩, k3, t3⟩
  go_wp2
  go_ret
  exact ⟨rfl, k3, W3.trans t3⟩
set_option maxRecDepth 100000 in
set_option maxHeartbeats 4000000 in
theorem wire_no (b : Nat) (s : PS) (i : Int) (on : Bool) (w : World) (hn : s.n = 0 ∨ i < 1 ∨ 31 < i) (h : w.heap[b]? = some (.cells (cellsP s) 60)) :
    Calls Try.prog 29 #[.pointer (some ⟨b, 0, none⟩), .int .i64 i, .bool on] w fun e w' => e = .returned (.bool false) ∧ w' = w := by
  obtain ⟨c0, c1, c2, c3, cl, cf⟩ := knownP h
  by_cases hn0 : s.n = 0
  · rw [hn0] at c0
    go_enter Try.func29, Try.ntmps29
    go_wp2
    go_ret
    exact ⟨rfl, rfl⟩
  · have hnb : (s.n == 0) = false := by simp [hn0]
    by_cases h1 : i < 1
    · have d1 : decide (i < 1) = true := by simp; omega
      go_enter Try.func29, Try.ntmps29
      go_wp2
      go_ret
      exact ⟨rfl, rfl⟩
    · have d1 : decide (i < 1) = false := by simp; omega
      have d2 : decide (32 ≤ i) = true := by simp; omega
      go_enter Try.func29, Try.ntmps29
      go_wp2
      go_ret
      exact ⟨rfl, rfl⟩
theorem wire_any (b : Nat) (s : PS) (i : Int) (on : Bool) (w : World) (ok : OkP s) (h : w.heap[b]? = some (.cells (cellsP s) 60)) :
    Calls Try.prog 29 #[.pointer (some ⟨b, 0, none⟩), .int .i64 i, .bool on] w fun e w' => e = .returned (.bool (wireP s i on).2) ∧ w'.heap[b]? = some (.cells (cellsP (wireP s i on).1) 60) ∧ Wrote b w w' := by
  unfold wireP
  by_cases hc : s.n = 0 ∨ i < 1 ∨ 31 < i
  · rw [if_pos hc]
    refine (wire_no b s i on w hc h).mono ?_
    rintro e w' ⟨rfl, rfl⟩
    exact ⟨rfl, h, Wrote.refl _ _⟩
  · rw [if_neg hc]
    obtain ⟨k, rfl⟩ := Int.eq_ofNat_of_zero_le (by omega : 0 ≤ i)
    cases on
    · exact wire_off b s k w ok (by omega) (by omega) (by omega) h
    · exact wire_on b s k w ok (by omega) (by omega) (by omega) h
end Go.Proofs.Ytgelpapjmlbgfaa
