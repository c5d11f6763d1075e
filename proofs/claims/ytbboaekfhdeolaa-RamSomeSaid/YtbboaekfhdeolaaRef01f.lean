/- The contract of roebuckref01.Cut. -/
import Derived.Test.YtbboaekfhdeolaaRef01d
namespace Go.Proofs.Ytbboaekfhdeolaa
open Go.RowKit
set_option linter.unusedSimpArgs false
set_option linter.unusedVariables false

/-- The bits of a part. -/
def cutF (x : Nat) (at_ size : Int) (k : Nat) : Bool := decide ((k : Int) < size) && decide (0 ≤ at_ + k) && decide (at_ + k < 64) && x.testBit (at_ + k).toNat

theorem in_vv {at_ size bit j : Int} {b : Bool} (h : inB at_ size bit = b) (hj : inK at_ size bit = j) (w : World) (ha : IntB at_) (hs : IntB size) (hb : IntB bit) :
    Calls Try.prog 49 #[.int .i64 at_, .int .i64 size, .int .i64 bit] w fun e w' => e = .returned (.tuple #[.int .i64 j, .bool b]) ∧ w = w' := by
  rw [← h, ← hj]; exact in_any at_ size bit w ha hs hb

/-- What is gathered of bit k while the bits below i were gone through. -/
def cutG (x : Nat) (at_ size : Int) (k i : Nat) : Bool := decide (at_ + k < i) && cutF x at_ size k

theorem cut_hit (x : Nat) (hx : x < 18446744073709551616) (at_ size : Int) (k i : Nat) (hk : k < 64) (hs : (k : Int) < size) (hi : i < 64) (h : (i : Int) = at_ + k) :
    inB at_ size i = true ∧ inK at_ size i = k ∧ bitN x (i : Int) = (cutG x at_ size k (i + 1)).toNat := by
  have h1 : inB at_ size i = true := by unfold inB; simp; omega
  refine ⟨h1, ?_, ?_⟩
  · unfold inK; rw [if_pos h1, if_neg (by omega)]; omega
  · rw [bitN_big x hx _ (by omega)]
    unfold cutG cutF
    have e : (at_ + (k : Int)).toNat = i := by omega
    rw [e]
    have e1 : decide (at_ + (k : Int) < ((i + 1 : Nat) : Int)) = true := by simp; omega
    have e2 : decide ((k : Int) < size) = true := by simpa using hs
    have e3 : decide (0 ≤ at_ + (k : Int)) = true := by simp; omega
    have e4 : decide (at_ + (k : Int) < 64) = true := by simp; omega
    rw [e1, e2, e3, e4]
    simp
theorem cut_miss (x : Nat) (at_ size : Int) (k i : Nat) (hk : k < 64) (h : ¬ (i : Int) = at_ + k) :
    cutG x at_ size k (i + 1) = cutG x at_ size k i ∧ (inB at_ size i = true → inK at_ size i ≠ k) := by
  constructor
  · unfold cutG
    have : decide (at_ + (k : Int) < ((i + 1 : Nat) : Int)) = decide (at_ + (k : Int) < (i : Int)) := by
      rw [decide_eq_decide]; omega
    rw [this]
  · intro h1
    have h2 := h1
    unfold inB at h2
    simp at h2
    unfold inK
    rw [if_pos h1]
    split <;> omega
theorem cut_end (x : Nat) (at_ size : Int) (k : Nat) : cutG x at_ size k 64 = cutF x at_ size k := by
  unfold cutG
  by_cases h : at_ + (k : Int) < 64
  · simp [h]
  · unfold cutF; simp [h]
theorem cut_zero (x : Nat) (at_ size : Int) (k : Nat) : cutG x at_ size k 0 = false := by
  unfold cutG cutF
  by_cases h : at_ + (k : Int) < 0
  · have : ¬ 0 ≤ at_ + (k : Int) := by omega
    simp [this]
  · have : decide (at_ + (k : Int) < ((0 : Nat) : Int)) = false := by rw [decide_eq_false_iff_not]; omega
    rw [this]; rfl
theorem cut_far (x : Nat) (at_ size : Int) (k : Nat) (h : size ≤ k) : cutF x at_ size k = false := by
  unfold cutF
  have : ¬ (k : Int) < size := by omega
  simp [this]

set_option maxRecDepth 100000 in
set_option maxHeartbeats 4000000 in
theorem cut_any (x : Nat) (at_ size : Int) (w : World) (hx : x < 18446744073709551616) (ha : IntB at_) (hs : IntB size) :
    Calls Try.prog 23 #[.int .u64 (x : Int), .int .i64 at_, .int .i64 size] w fun e w' => e = .returned (.int .u64 (W64 (cutF x at_ size) : Nat)) ∧ Below w.heap.size w w' := by
  obtain ⟨i0, hi, hz0, hz1, hz2⟩ := info_parts info_u64
  go_enter Try.func23, Try.ntmps23
  go_wp2
  go_loopw [7, 8] (fun v i wr => ∃ k : Nat, k ≤ 64 ∧ i = .int .i64 k ∧ wr.ownsRow w.heap.size 24 1 v k ((List.range k).map fun j => Value.int .u64 ((cutF x at_ size j).toNat : Nat)) ∧ Fr w.heap.size w wr) (fun _ i _ => 64 - (intOf i).toNat)
  case atStart => exact ⟨0, by omega, rfl, World.ownsRow_nil _ _ _ _, Fr.refl w⟩
  case round =>
    obtain ⟨k, hk, rfl, hown, hfr⟩ := hrel
    by_cases hlt : k < 64
    · have HP := @own_push (cutF x at_ size) k
      obtain ⟨t, ht⟩ : ∃ t, t = (cutF x at_ size k).toNat := ⟨_, rfl⟩
      rw [← ht] at HP
      have HHP := Lib.hid HP
      clear HP
      obtain ⟨wo, hwo⟩ : ∃ wo : World, wo = wr := ⟨_, rfl⟩
      subst hwo
      by_cases hks : (k : Int) < size
      · have HT := Lib.hid ht
        clear ht
        have hkd : decide ((k : Int) < 64) = true := by simp; omega
        go_wp2
        go_loop [9, 10] (fun v i => ∃ m : Nat, m ≤ 64 ∧ i = .int .i64 m ∧ v = .int .u64 ((cutG x at_ size k m).toNat : Nat)) (fun _ i => 64 - (intOf i).toNat)
        case atStart => exact ⟨0, by omega, rfl, by rw [cut_zero]; rfl⟩
        case round =>
          obtain ⟨m, hm, rfl, rfl⟩ := hrel
          have hmb : IntB (m : Int) := by unfold IntB; omega
          by_cases hml : m < 64
          · by_cases heq : (m : Int) = at_ + k
            · obtain ⟨g1, g2, g3⟩ := cut_hit x hx at_ size k m hlt hks hml heq
              have G1 := Lib.hid g1
              have G2 := Lib.hid g2
              have G3 := Lib.hid g3
              clear g1 g2 g3 heq
              go_wp2_with fail
              refine (in_vv G1.out G2.out _ ha hs hmb).mono ?_
              rintro e w' ⟨rfl, rfl⟩
              go_wp2_with fail
              refine (bit_v G3.out _ hx).mono ?_
              rintro e w' ⟨rfl, rfl⟩
              go_wp2
              go_round
              case rel => exact ⟨m + 1, by omega, by go_num, rfl⟩
              case measure => simp [intOf]; omega
            · obtain ⟨g1, g2⟩ := cut_miss x at_ size k m hlt heq
              have G1 := Lib.hid g1
              clear g1 heq
              obtain ⟨j, hj⟩ : ∃ j, inK at_ size m = j := ⟨_, rfl⟩
              rw [hj] at g2
              have HJ := Lib.hid hj
              cases hib : inB at_ size m
              · have HI := Lib.hid hib
                clear hib hj g2
                go_wp2_with fail
                refine (in_vv HI.out HJ.out _ ha hs hmb).mono ?_
                rintro e w' ⟨rfl, rfl⟩
                go_wp2
                go_round
                case rel => exact ⟨m + 1, by omega, by go_num, by rw [G1.out]⟩
                case measure => simp [intOf]; omega
              · have HI := Lib.hid hib
                have hne : (j == (k : Int)) = false := by simpa using g2 hib
                clear hib hj g2
                go_wp2_with fail
                refine (in_vv HI.out HJ.out _ ha hs hmb).mono ?_
                rintro e w' ⟨rfl, rfl⟩
                go_wp2
                go_round
                case rel => exact ⟨m + 1, by omega, by go_num, by rw [G1.out]⟩
                case measure => simp [intOf]; omega
          · obtain rfl : m = 64 := by omega
            rw [cut_end, ← HT.out]
            go_wp2_with (first
              | (at_builtin; refine wpList_append_own _ rfl _ _ 84 rfl w.heap.size 24 i0 (.int .u64 0) 1 8 Try.underlying84 hi hz0 hz1 hz2 rfl (by decide) _ _ _ rfl (hown.alloc _) ⟨wo.heap.size, 0, none⟩ 1 1 [.int .u64 (t : Int)] rfl rfl (one_new _ _ _) (one_cell _) (by unfold maxLen; omega) (by omega) (by have := hfr.2; simp; omega) ?_; intro v' w1 hown1 hgrow1 _; rw [← HHP.out] at hown1; have hfr1 := Fr.grown (hfr.alloc _) hgrow1 (own_ge hown)))
            go_roundw
            case rel => exact ⟨k + 1, by omega, by go_num, hown1, hfr1⟩
            case measure => simp [intOf]; omega
      · have h0 : t = 0 := by rw [ht, cut_far x at_ size k (by omega)]; rfl
        subst h0
        clear ht
        go_wp2_with (first
          | (at_builtin; refine wpList_append_own _ rfl _ _ 84 rfl w.heap.size 24 i0 (.int .u64 0) 1 8 Try.underlying84 hi hz0 hz1 hz2 rfl (by decide) _ _ _ rfl (hown.alloc _) ⟨wo.heap.size, 0, none⟩ 1 1 [.int .u64 0] rfl rfl (one_new _ _ _) (one_cell _) (by unfold maxLen; omega) (by omega) (by have := hfr.2; simp; omega) ?_; intro v' w1 hown1 hgrow1 _; have hown1 : w1.ownsRow w.heap.size 24 1 v' (k + 1) ((List.range (k + 1)).map fun j => Value.int .u64 ((cutF x at_ size j).toNat : Nat)) := (by rw [HHP.out]; exact hown1); have hfr1 := Fr.grown (hfr.alloc _) hgrow1 (own_ge hown)))
        go_roundw
        case rel => exact ⟨k + 1, by omega, by go_num, hown1, hfr1⟩
        case measure => simp [intOf]; omega
    · obtain rfl : k = 64 := by omega
      obtain ⟨g, cap, rfl, hg, hcells⟩ := own_cells hown (by omega)
      have hc : ∀ k, k < 64 → wr.cell? ⟨g, k, none⟩ = some (.int .u64 (((W64 (cutF x at_ size)).testBit k).toNat : Nat)) := fun k hk => by
        rw [hcells k hk]
        simp [hk, mkW_bit]
      have hc' := Lib.hid hc
      clear hc hcells
      go_wp2_with fail
      refine (of_any _ (W64_lt _) g cap _ hc'.out).mono ?_
      rintro e w' ⟨rfl, rfl⟩
      go_wp2
      go_ret
      exact ⟨rfl, hfr.1⟩
end Go.Proofs.Ytbboaekfhdeolaa
