/- LineKeeps: the plain law. -/
import Derived.Test.YtbboaekfhdeolaaLnK
import Derived.Test.YtbboaekfhdeolaaRef01f
namespace Go.Proofs.Ytbboaekfhdeolaa
open Go.RowKit
set_option linter.unusedSimpArgs false
set_option linter.unusedVariables false

theorem blend_diff (g h : Nat → Nat) : cellsL (blendL g h (diffV g h) 64) = cellsL h := by
  refine cellsL_ext fun i hi => ?_
  unfold blendL diffV
  rw [W64_bit]
  by_cases e : g i = h i
  · rw [if_neg]
    · exact e
    · rintro ⟨-, h2⟩
      unfold diffB at h2
      simp [e] at h2
  · rw [if_pos]
    refine ⟨hi, ?_⟩
    unfold diffB
    simp [e, hi]
theorem blend_none (g h : Nat → Nat) : blendL g h 0 64 = g := by
  funext i; unfold blendL; rw [if_neg]; rintro ⟨-, h2⟩; simp at h2
theorem numL_seg (h : Nat → Nat) (a v n : Nat) (hh : ∀ j, a ≤ j → j < a + n → h j = v / 256 ^ (j - a) % 256) : ∀ (m i : Nat), i + m ≤ n → numL h (a + i) m = v / 256 ^ i % 256 ^ m
  | 0, i, _ => by simp [numL, Nat.mod_one]
  | m + 1, i, hi => by
      have ih := numL_seg h a v n hh m (i + 1) (by omega)
      show h (a + i) + 256 * numL h (a + i + 1) m = _
      rw [show a + i + 1 = a + (i + 1) by omega, ih, hh (a + i) (by omega) (by omega), show a + i - a = i by omega, Nat.pow_succ 256 i, ← Nat.div_div_eq_div_mul, Nat.pow_succ 256 m, Nat.mul_comm (256 ^ m) 256, Nat.mod_mul]
theorem put_get (g : Nat → Nat) (a n v : Nat) : numL (putL g a n v) a n = v % 256 ^ n := by
  have h := numL_seg (putL g a n v) a v n (fun j h1 h2 => by unfold putL; rw [if_pos ⟨h1, h2⟩]) n 0 (by omega)
  simpa using h
theorem cut_low (v n : Nat) (h8 : n ≤ 8) : W64 (cutF v 0 (8 * (n : Int))) = v % 256 ^ n := by
  have hp : (256 : Nat) ^ n = 2 ^ (8 * n) := by rw [Nat.pow_mul]
  have hlt : v % 256 ^ n < 18446744073709551616 := Nat.lt_of_lt_of_le (Nat.mod_lt _ (Nat.pow_pos (by omega))) (pow256_le h8)
  refine (W64_eq hlt fun i hi => ?_).symm
  rw [hp, Nat.testBit_mod_two_pow]
  unfold cutF
  have e0 : decide (0 ≤ (0 : Int) + (i : Int)) = true := by simp
  have e1 : decide ((0 : Int) + (i : Int) < 64) = true := by simp; omega
  rw [e0, e1, show ((0 : Int) + (i : Int)).toNat = i by omega]
  by_cases h : i < 8 * n
  · have : decide ((i : Int) < 8 * (n : Int)) = true := by simp; omega
    simp [h, this]
  · have : decide ((i : Int) < 8 * (n : Int)) = false := by simp; omega
    simp [h, this]
theorem diff_lanes (g : Nat → Nat) (a n v : Nat) (ha : a + n ≤ 64) (h1 : 1 ≤ n) : bits BinOp.andNot IntKind.u64 (diffV g (putL g a n v) : Int) (onesV (a : Int) (n : Int) : Int) = 0 := by
  rw [u64_andNot_nat (diffV g (putL g a n v)) (onesV (a : Int) (n : Int)) (W64_lt _) (W64_lt _)]
  have e : (diffV g (putL g a n v)) &&& (18446744073709551615 - onesV (a : Int) (n : Int)) = 0 := by
    refine Nat.eq_of_testBit_eq fun i => ?_
    rw [Nat.zero_testBit, Nat.testBit_and]
    by_cases hi : i < 64
    · have hs : (18446744073709551615 - onesV (a : Int) (n : Int)).testBit i = !(onesV (a : Int) (n : Int)).testBit i := by
        have := Nat.testBit_two_pow_sub_succ (x := onesV (a : Int) (n : Int)) (n := 64) (W64_lt _) i
        simpa [hi] using this
      rw [hs]
      unfold diffV onesV
      rw [W64_bit, W64_bit]
      by_cases hin : a ≤ i ∧ i < a + n
      · have : inB (a : Int) (n : Int) (i : Nat) = true := by unfold inB; simp; omega
        simp [hi, this]
      · have : diffB g (putL g a n v) i = false := by
          unfold diffB putL
          rw [if_neg hin]; simp
        simp [this]
    · unfold diffV
      rw [W64_bit]
      simp [hi]
  rw [e]
  rfl
theorem lblend_c {g h : Nat → Nat} {x : Nat} {c : Array Value} (hg : cellsL (blendL g h x 64) = c) (w : World) (hx : x < 18446744073709551616) :
    Calls Try.prog 17 #[.agg (cellsL g), .agg (cellsL h), .int .u64 (x : Int)] w fun e w' => e = .returned (.agg c) ∧ Below w.heap.size w w' := by
  rw [← hg]; exact lblend_any g h x w hx
theorem cut_v {x : Nat} {a n : Int} {y : Nat} (hy : W64 (cutF x a n) = y) (w : World) (hx : x < 18446744073709551616) (ha : IntB a) (hs : IntB n) :
    Calls Try.prog 23 #[.int .u64 (x : Int), .int .i64 a, .int .i64 n] w fun e w' => e = .returned (.int .u64 (y : Int)) ∧ Below w.heap.size w w' := by
  rw [← hy]; exact cut_any x a n w hx ha hs
end Go.Proofs.Ytbboaekfhdeolaa
