/- The contract of roebuckref01.in. -/
import Derived.Test.YtbboaekfhdeolaaBit
import Derived.Test.YtbboaekfhdeolaaWd
import Derived.Lib.Hide
namespace Go.Proofs.Ytbboaekfhdeolaa
open Go.RowKit
set_option linter.unusedSimpArgs false
set_option linter.unusedVariables false

def IntB (a : Int) : Prop := -9223372036854775808 ≤ a ∧ a ≤ 9223372036854775807

theorem sub_u64 (at_ bit : Int) (ha : IntB at_) (hb : IntB bit) (h : at_ ≤ bit) : IntKind.u64.wrap (IntKind.u64.wrap bit - IntKind.u64.wrap at_) = bit - at_ := by
  unfold IntB at ha hb
  simp only [IntKind.wrap_u64]
  omega

def inB (at_ size bit : Int) : Bool := decide (1 ≤ size) && decide (at_ ≤ bit) && decide (bit - at_ < size)
def inK (at_ size bit : Int) : Int := if inB at_ size bit then (if 1000 < bit - at_ then 1000 else bit - at_) else 0

set_option maxRecDepth 100000 in
theorem in_any (at_ size bit : Int) (w : World) (ha : IntB at_) (hs : IntB size) (hb : IntB bit) :
    Calls Try.prog 49 #[.int .i64 at_, .int .i64 size, .int .i64 bit] w fun e w' => e = .returned (.tuple #[.int .i64 (inK at_ size bit), .bool (inB at_ size bit)]) ∧ w = w' := by
  by_cases h1 : size < 1
  · have H : Hid (inB at_ size bit = false) := by show _ = _; unfold inB; simp; omega
    have HK : Hid (inK at_ size bit = 0) := by show _ = _; unfold inK; rw [H.out]; simp
    clear ha hs hb
    go_enter Try.func49, Try.ntmps49
    go_wp2
    go_ret2
    exact ⟨by rw [H.out, HK.out]; rfl, rfl⟩
  · by_cases h2 : bit < at_
    · have H : Hid (inB at_ size bit = false) := by show _ = _; unfold inB; simp; omega
      have HK : Hid (inK at_ size bit = 0) := by show _ = _; unfold inK; rw [H.out]; simp
      clear ha hs hb
      go_enter Try.func49, Try.ntmps49
      go_wp2
      go_ret2
      exact ⟨by rw [H.out, HK.out]; rfl, rfl⟩
    · have E := sub_u64 at_ bit ha hb (by omega)
      have E2 : IntKind.u64.wrap size = size := by unfold IntB at hs; rw [IntKind.wrap_u64]; omega
      have hd : bit - at_ < 18446744073709551616 := by unfold IntB at ha hb; omega
      obtain ⟨dd, hdd⟩ : ∃ dd, dd = bit - at_ := ⟨_, rfl⟩
      rw [← hdd] at E
      have h0 : 0 ≤ dd := by omega
      by_cases h3 : size ≤ dd
      · have H : Hid (inB at_ size bit = false) := by show _ = _; unfold inB; simp; omega
        have HK : Hid (inK at_ size bit = 0) := by show _ = _; unfold inK; rw [H.out]; simp
        clear hdd hd ha hs hb
        go_enter Try.func49, Try.ntmps49
        go_wp2
        go_ret2
        exact ⟨by rw [H.out, HK.out]; rfl, rfl⟩
      · have H : Hid (inB at_ size bit = true) := by show _ = _; unfold inB; simp; omega
        have hk : Hid (inK at_ size bit = if 1000 < dd then 1000 else dd) := by show _ = _; unfold inK; rw [H.out, hdd]; simp
        clear hdd hd ha hs hb
        by_cases h4 : 1000 < dd
        · go_enter Try.func49, Try.ntmps49
          go_wp2
          go_ret2
          exact ⟨by rw [H.out, hk.out, if_pos h4]; rfl, rfl⟩
        · go_enter Try.func49, Try.ntmps49
          go_wp2
          go_ret2
          exact ⟨by rw [H.out, hk.out, if_neg (by omega)]; rfl, rfl⟩

/-- The word of bits. -/
def mkW (f : Nat → Bool) : Nat → Nat
  | 0 => 0
  | n + 1 => mkW f n + (f n).toNat * 2 ^ n
theorem mkW_lt (f : Nat → Bool) : ∀ n, mkW f n < 2 ^ n
  | 0 => by simp [mkW]
  | n + 1 => by
    have := mkW_lt f n
    rw [mkW, Nat.pow_succ]
    cases f n <;> simp <;> omega
theorem mkW_bit (f : Nat → Bool) : ∀ n i, (mkW f n).testBit i = (decide (i < n) && f i)
  | 0, i => by simp [mkW]
  | n + 1, i => by
    have hl := mkW_lt f n
    have ih := mkW_bit f n i
    have e : mkW f (n + 1) = 2 ^ n * (f n).toNat + mkW f n := by rw [mkW, Nat.mul_comm, Nat.add_comm]
    rw [e, Nat.testBit_two_pow_mul_add _ hl]
    by_cases h : i < n
    · rw [if_pos h, ih]; simp [h, Nat.lt_succ_of_lt h]
    · rw [if_neg h]
      by_cases h2 : i = n
      · subst h2; cases f i <;> simp
      · have h3 : ¬ i < n + 1 := by omega
        have : i - n ≠ 0 := by omega
        cases f n
        · simp [h3]
        · have e1 : (true.toNat).testBit (i - n) = false := by
            refine Nat.testBit_lt_two_pow ?_
            have := Nat.pow_le_pow_right (n := 2) (by omega) (show 1 ≤ i - n by omega)
            simp at this ⊢
            omega
          rw [e1]; simp [h3]
abbrev W64 (f : Nat → Bool) : Nat := mkW f 64
theorem W64_lt (f : Nat → Bool) : W64 f < 18446744073709551616 := mkW_lt f 64
end Go.Proofs.Ytbboaekfhdeolaa
