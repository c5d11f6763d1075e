/- Lines: Ones of both, Lanes. -/
import Derived.Test.YtbboaekfhdeolaaLnF
import Derived.Test.YtbboaekfhdeolaaRef01d
namespace Go.Proofs.Ytbboaekfhdeolaa
open Go.RowKit
set_option linter.unusedSimpArgs false
set_option linter.unusedVariables false

theorem W64_congr {f g : Nat → Bool} (h : ∀ i, i < 64 → f i = g i) : W64 f = W64 g := by
  refine Nat.eq_of_testBit_eq fun i => ?_
  unfold W64
  rw [mkW_bit, mkW_bit]
  by_cases hi : i < 64
  · rw [h i hi]
  · simp [hi]
theorem W64_eq {f : Nat → Bool} {y : Nat} (hy : y < 18446744073709551616) (h : ∀ i, i < 64 → y.testBit i = f i) : y = W64 f := by
  refine Nat.eq_of_testBit_eq fun i => ?_
  unfold W64
  rw [mkW_bit]
  by_cases hi : i < 64
  · rw [h i hi]; simp [hi]
  · have := Nat.testBit_lt_two_pow (x := y) (i := i) (Nat.lt_of_lt_of_le hy (Nat.pow_le_pow_right (n := 2) (by omega) (show 64 ≤ i by omega)))
    simp [hi, this]
theorem W64_bit (f : Nat → Bool) (i : Nat) : (W64 f).testBit i = (decide (i < 64) && f i) := mkW_bit f 64 i
/-- The word whose bits of a part are 1. -/
def onesV (a n : Int) : Nat := W64 fun i => inB a n i
set_option maxRecDepth 100000 in
set_option maxHeartbeats 2000000 in
theorem rones_any (a n : Int) (w : World) (ha : IntB a) (hs : IntB n) :
    Calls Try.prog 22 #[.int .i64 a, .int .i64 n] w fun e w' => e = .returned (.int .u64 (onesV a n : Int)) ∧ Below w.heap.size w w' := by
  obtain ⟨i0, hi, hz0, hz1, hz2⟩ := info_parts info_u64
  go_enter Try.func22, Try.ntmps22
  go_wp2
  go_loopw [5, 6] (fun v i wr => ∃ k : Nat, k ≤ 64 ∧ i = .int .i64 k ∧ wr.ownsRow w.heap.size 24 1 v k ((List.range k).map fun j => Value.int .u64 ((inB a n (j : Nat)).toNat : Nat)) ∧ Fr w.heap.size w wr) (fun _ i _ => 64 - (intOf i).toNat)
  case atStart => exact ⟨0, by omega, rfl, World.ownsRow_nil _ _ _ _, Fr.refl w⟩
  case round =>
    obtain ⟨k, hk, rfl, hown, hfr⟩ := hrel
    by_cases hlt : k < 64
    · have hkb : IntB (k : Int) := by unfold IntB; omega
      have HP := @own_push (fun j => inB a n (j : Nat)) k
      have hkd : decide ((k : Int) < 64) = true := by simp; omega
      cases hin : inB a n k
      · simp only [hin] at HP
        have HHP : Hid (((List.range (k + 1)).map fun j => Value.int .u64 ((inB a n (j : Nat)).toNat : Nat)) = ((List.range k).map fun j => Value.int .u64 ((inB a n (j : Nat)).toNat : Nat)) ++ [Value.int .u64 0]) := HP
        have HI := Lib.hid hin
        clear HP hin
        go_wp2_with fail
        refine (in_v HI.out _ ha hs hkb).mono ?_
        rintro e w' ⟨rfl, rfl⟩
        go_wp2_with (first
          | (at_builtin; refine wpList_append_own _ rfl _ _ 84 rfl w.heap.size 24 i0 (.int .u64 0) 1 8 Try.underlying84 hi hz0 hz1 hz2 rfl (by decide) _ _ _ rfl (hown.alloc _) ⟨wr.heap.size, 0, none⟩ 1 1 [.int .u64 0] rfl rfl (one_new _ _ _) (one_cell _) (by unfold maxLen; omega) (by omega) (by have := hfr.2; simp; omega) ?_; intro v' w1 hown1 hgrow1 _; rw [← HHP.out] at hown1; have hfr1 := Fr.grown (hfr.alloc _) hgrow1 (own_ge hown)))
        go_roundw
        case rel => exact ⟨k + 1, by omega, by go_num, hown1, hfr1⟩
        case measure => simp [intOf]; omega
      · simp only [hin] at HP
        have HHP : Hid (((List.range (k + 1)).map fun j => Value.int .u64 ((inB a n (j : Nat)).toNat : Nat)) = ((List.range k).map fun j => Value.int .u64 ((inB a n (j : Nat)).toNat : Nat)) ++ [Value.int .u64 1]) := HP
        have HI := Lib.hid hin
        clear HP hin
        go_wp2_with fail
        refine (in_v HI.out _ ha hs hkb).mono ?_
        rintro e w' ⟨rfl, rfl⟩
        go_wp2_with (first
          | (at_builtin; refine wpList_append_own _ rfl _ _ 84 rfl w.heap.size 24 i0 (.int .u64 0) 1 8 Try.underlying84 hi hz0 hz1 hz2 rfl (by decide) _ _ _ rfl (hown.alloc _) ⟨wr.heap.size, 0, none⟩ 1 1 [.int .u64 1] rfl rfl (one_new _ _ _) (one_cell _) (by unfold maxLen; omega) (by omega) (by have := hfr.2; simp; omega) ?_; intro v' w1 hown1 hgrow1 _; rw [← HHP.out] at hown1; have hfr1 := Fr.grown (hfr.alloc _) hgrow1 (own_ge hown)))
        go_roundw
        case rel => exact ⟨k + 1, by omega, by go_num, hown1, hfr1⟩
        case measure => simp [intOf]; omega
    · obtain rfl : k = 64 := by omega
      obtain ⟨g, cap, rfl, hg, hcells⟩ := own_cells hown (by omega)
      have hc : ∀ k, k < 64 → wr.cell? ⟨g, k, none⟩ = some (.int .u64 (((onesV a n).testBit k).toNat : Nat)) := fun k hk => by
        rw [hcells k hk]
        unfold onesV
        rw [W64_bit]
        simp [hk]
      have hc' := Lib.hid hc
      clear hc hcells
      go_wp2_with fail
      refine (of_any _ (W64_lt _) g cap _ hc'.out).mono ?_
      rintro e w' ⟨rfl, rfl⟩
      go_wp2
      go_ret
      exact ⟨rfl, hfr.1⟩

def spanLo (a n : Int) : Nat := if n < 1 ∨ 63 < a then 0 else if 0 ≤ a then a.toNat else 0
def spanHi (a n : Int) : Nat := if n < 1 ∨ 63 < a then 0 else if 0 ≤ a then (a + min n (64 - a)).toNat else if a + n ≤ 0 then 0 else (min (a + n) 64).toNat
set_option maxRecDepth 100000 in
theorem span_any (a n : Int) (w : World) (ha : IntB a) (hs : IntB n) :
    Calls Try.prog 58 #[.int .i64 a, .int .i64 n] w fun e w' => e = .returned (.tuple #[.int .i64 (spanLo a n : Int), .int .i64 (spanHi a n : Int)]) ∧ w' = w := by
  unfold IntB at ha hs
  by_cases h1 : n < 1
  · have H1 : Hid (spanLo a n = 0) := by show _ = _; unfold spanLo; rw [if_pos (by omega)]
    have H2 : Hid (spanHi a n = 0) := by show _ = _; unfold spanHi; rw [if_pos (by omega)]
    have d1 : decide (n < 1) = true := by simp; omega
    go_enter Try.func58, Try.ntmps58
    go_wp2
    go_ret2
    exact ⟨by rw [H1.out, H2.out] <;> rfl, rfl⟩
  have d1 : decide (n < 1) = false := by simp; omega
  by_cases h2 : 63 < a
  · have H1 : Hid (spanLo a n = 0) := by show _ = _; unfold spanLo; rw [if_pos (by omega)]
    have H2 : Hid (spanHi a n = 0) := by show _ = _; unfold spanHi; rw [if_pos (by omega)]
    have d2 : decide (63 < a) = true := by simp; omega
    go_enter Try.func58, Try.ntmps58
    go_wp2
    go_ret2
    exact ⟨by rw [H1.out, H2.out] <;> rfl, rfl⟩
  have d2 : decide (63 < a) = false := by simp; omega
  by_cases h3 : 0 ≤ a
  · have H1 : Hid ((spanLo a n : Int) = a) := by show _ = _; unfold spanLo; rw [if_neg (by omega), if_pos h3]; omega
    have H2 : Hid ((spanHi a n : Int) = a + min n (64 - a)) := by show _ = _; unfold spanHi; rw [if_neg (by omega), if_pos h3]; omega
    have d3 : decide (0 ≤ a) = true := by simp; omega
    go_enter Try.func58, Try.ntmps58
    go_wp2
    all_goals
      go_ret2
      refine ⟨?_, rfl⟩
      rw [H1.out, H2.out]
      simp
      omega
  have d3 : decide (0 ≤ a) = false := by simp; omega
  by_cases h4 : a + n ≤ 0
  · have H1 : Hid (spanLo a n = 0) := by show _ = _; unfold spanLo; rw [if_neg (by omega), if_neg h3]
    have H2 : Hid (spanHi a n = 0) := by show _ = _; unfold spanHi; rw [if_neg (by omega), if_neg h3, if_pos h4]
    have d4 : decide (a + n ≤ 0) = true := by simp; omega
    go_enter Try.func58, Try.ntmps58
    go_wp2
    go_ret2
    exact ⟨by rw [H1.out, H2.out] <;> rfl, rfl⟩
  have d4 : decide (a + n ≤ 0) = false := by simp; omega
  have H1 : Hid (spanLo a n = 0) := by show _ = _; unfold spanLo; rw [if_neg (by omega), if_neg h3]
  have H2 : Hid ((spanHi a n : Int) = min (a + n) 64) := by show _ = _; unfold spanHi; rw [if_neg (by omega), if_neg h3, if_neg h4]; omega
  go_enter Try.func58, Try.ntmps58
  go_wp2
  all_goals
    go_ret2
    refine ⟨?_, rfl⟩
    rw [H1.out, H2.out]
    simp
    omega

theorem span_le (a n : Int) : spanHi a n ≤ 64 ∧ spanLo a n ≤ 63 := by
  unfold spanHi spanLo
  constructor
  · repeat' split
    all_goals omega
  · repeat' split
    all_goals omega
/-- What Ones is, by its ends. -/
theorem onesV_span (a n : Int) : onesV a n = W64 fun i => decide (spanLo a n ≤ i) && decide (i < spanHi a n) := by
  unfold onesV
  refine W64_congr fun i hi => ?_
  have e : (inB a n (i : Nat) = true) ↔ ((decide (spanLo a n ≤ i) && decide (i < spanHi a n)) = true) := by
    unfold inB spanHi spanLo
    simp only [Bool.and_eq_true, decide_eq_true_eq]
    by_cases h1 : n < 1 ∨ 63 < a
    · rw [if_pos h1, if_pos h1]; omega
    · rw [if_neg h1, if_neg h1]
      by_cases h2 : 0 ≤ a
      · rw [if_pos h2, if_pos h2]; omega
      · rw [if_neg h2, if_neg h2]
        by_cases h3 : a + n ≤ 0
        · rw [if_pos h3]; omega
        · rw [if_neg h3]; omega
  exact Bool.eq_iff_iff.2 e
theorem ones_val (lo hi : Nat) (h : lo < hi) (h64 : hi ≤ 64) : (18446744073709551615 / 2 ^ (64 - (hi - lo))) * 2 ^ lo = W64 fun i => decide (lo ≤ i) && decide (i < hi) := by
  have e : 18446744073709551615 / 2 ^ (64 - (hi - lo)) = 2 ^ (hi - lo) - 1 := by
    have h2 : (2 : Nat) ^ 64 = 2 ^ (hi - lo) * 2 ^ (64 - (hi - lo)) := by rw [← Nat.pow_add]; congr 1; omega
    have h3 : 18446744073709551615 = 2 ^ (hi - lo) * 2 ^ (64 - (hi - lo)) - 1 := by rw [← h2]
    have hp : 0 < 2 ^ (64 - (hi - lo)) := Nat.pow_pos (by omega)
    have hq : 0 < 2 ^ (hi - lo) := Nat.pow_pos (by omega)
    rw [h3]
    obtain ⟨m, hm⟩ : ∃ m, 2 ^ (hi - lo) = m + 1 := ⟨2 ^ (hi - lo) - 1, by omega⟩
    rw [hm]
    obtain ⟨p, hpe⟩ : ∃ p, 2 ^ (64 - (hi - lo)) = p + 1 := ⟨2 ^ (64 - (hi - lo)) - 1, by omega⟩
    rw [hpe]
    have : (m + 1) * (p + 1) - 1 = m * (p + 1) + p := by rw [Nat.succ_mul]; omega
    rw [this, Nat.add_comm, Nat.add_mul_div_right _ _ (by omega), Nat.div_eq_of_lt (by omega)]
    omega
  rw [e]
  refine W64_eq ?_ fun i hi2 => ?_
  · have h2 : (2 : Nat) ^ (hi - lo) * 2 ^ lo ≤ 18446744073709551616 := by
      rw [← Nat.pow_add, show hi - lo + lo = hi by omega]
      have := Nat.pow_le_pow_right (n := 2) (by omega) h64
      simpa using this
    have hq : 0 < 2 ^ (hi - lo) := Nat.pow_pos (by omega)
    have hp : 0 < 2 ^ lo := Nat.pow_pos (by omega)
    have := Nat.mul_lt_mul_of_pos_right (show 2 ^ (hi - lo) - 1 < 2 ^ (hi - lo) by omega) hp
    omega
  · rw [← Nat.shiftLeft_eq, Nat.testBit_shiftLeft, Nat.testBit_two_pow_sub_one]
    by_cases h1 : lo ≤ i
    · simp [h1]; omega
    · simp [h1]
theorem ones_none (lo hi : Nat) (h : hi ≤ lo) : (W64 fun i => decide (lo ≤ i) && decide (i < hi)) = 0 := by
  refine (W64_eq (by omega) fun i _ => ?_).symm
  rw [Nat.zero_testBit]
  by_cases h1 : lo ≤ i
  · have : ¬ i < hi := by omega
    simp [this]
  · simp [h1]
theorem bones_any (a n : Int) (w : World) (ha : IntB a) (hs : IntB n) :
    Calls Try.prog 48 #[.int .i64 a, .int .i64 n] w fun e w' => e = .returned (.int .u64 (onesV a n : Int)) ∧ w' = w := by
  obtain ⟨l64, l63⟩ := span_le a n
  rw [onesV_span]
  obtain ⟨lo, hlo⟩ : ∃ x, spanLo a n = x := ⟨_, rfl⟩
  obtain ⟨hi, hhi⟩ : ∃ x, spanHi a n = x := ⟨_, rfl⟩
  rw [hlo] at l63 ⊢
  rw [hhi] at l64 ⊢
  have HLO := Lib.hid hlo
  have HHI := Lib.hid hhi
  clear hlo hhi
  by_cases h : hi ≤ lo
  · have HN := Lib.hid (ones_none lo hi h)
    have d1 : decide ((hi : Int) ≤ lo) = true := by simp; omega
    go_enter Try.func48, Try.ntmps48
    go_wp2_with fail
    refine (span_any a n w ha hs).mono ?_
    rw [HLO.out, HHI.out]
    rintro e w' ⟨rfl, rfl⟩
    go_wp2
    go_ret
    exact ⟨by rw [HN.out] <;> rfl, rfl⟩
  · have HV := Lib.hid (ones_val lo hi (by omega) l64)
    have d1 : decide ((hi : Int) ≤ lo) = false := by simp; omega
    have hlt : lo < hi := by omega
    go_enter Try.func48, Try.ntmps48
    go_wp2_with fail
    refine (span_any a n w ha hs).mono ?_
    rw [HLO.out, HHI.out]
    rintro e w' ⟨rfl, rfl⟩
    go_wp2
    go_ret
    refine ⟨?_, rfl⟩
    have e : ((18446744073709551615 : Int) / 2 ^ (64 - (hi - lo)) * 2 ^ lo) = ((18446744073709551615 / 2 ^ (64 - (hi - lo)) * 2 ^ lo : Nat) : Int) := by simp
    have hw := W64_lt fun i => decide (lo ≤ i) && decide (i < hi)
    have e2 : IntKind.u64.wrap ((18446744073709551615 : Int) / 2 ^ (64 - (hi - lo)) * 2 ^ lo) = ((W64 fun i => decide (lo ≤ i) && decide (i < hi) : Nat) : Int) := by
      rw [e, HV.out, IntKind.wrap_u64]; omega
    show Ending.returned (Value.int .u64 (IntKind.u64.wrap ((18446744073709551615 : Int) / 2 ^ (64 - (hi - lo)) * 2 ^ lo))) = _
    rw [e2]
theorem lanes_any (a n : Int) (w : World) (ha : IntB a) (hs : IntB n) :
    Calls Try.prog 21 #[.int .i64 a, .int .i64 n] w fun e w' => e = .returned (.int .u64 (onesV a n : Int)) ∧ w' = w := by
  go_enter Try.func21, Try.ntmps21
  go_wp2_with fail
  refine (bones_any a n w ha hs).mono ?_
  rintro e w' ⟨rfl, rfl⟩
  go_wp2
  go_ret
  exact ⟨rfl, rfl⟩
end Go.Proofs.Ytbboaekfhdeolaa
