/- Layer 20: with, privilege, MPP, Enter and Leave of both. -/
import Derived.Test.YthkkfdhgpaonjaaStA
namespace Go.Proofs.Ythkkfdhgpaonjaa
open Go.RowKit
set_option linter.unusedSimpArgs false
set_option linter.unusedVariables false

theorem two_pow_lt' (c : Nat) (hc : c < 64) : 2 ^ c < 18446744073709551616 := by
  have : 2 ^ c < 2 ^ 64 := Nat.pow_lt_pow_right (by omega) hc
  simpa using this
theorem wrap_pow' (c : Nat) (hc : c < 64) : IntKind.u64.wrap ((2 : Int) ^ c) = ((2 ^ c : Nat) : Int) := by
  have h := two_pow_lt' c hc
  have e : ((2 : Int) ^ c) = ((2 ^ c : Nat) : Int) := by simp
  rw [e]
  generalize 2 ^ c = y at h
  rw [IntKind.wrap_u64]
  omega
theorem set_on (x k : Nat) (hx : x < 18446744073709551616) (hk : k < 64) : bits BinOp.or IntKind.u64 (x : Int) (IntKind.u64.wrap ((2 : Int) ^ k)) = ((setB x k true : Nat) : Int) := by
  rw [wrap_pow' k hk, u64_or_nat x (2 ^ k) hx (two_pow_lt' k hk)]
  congr 1
  refine W64_eq (Nat.or_lt_two_pow (n := 64) hx (two_pow_lt' k hk)) fun i hi => ?_
  rw [Nat.testBit_or, Nat.testBit_two_pow]
  by_cases h : i = k
  · subst h; simp
  · have : ¬ k = i := fun e => h e.symm
    simp [h, this]
theorem not_bit (k i : Nat) (hk : k < 64) (hi : i < 64) : (18446744073709551615 - 2 ^ k).testBit i = !decide (k = i) := by
  have e : 18446744073709551615 - 2 ^ k = 2 ^ 64 - (2 ^ k + 1) := by omega
  rw [e, Nat.testBit_two_pow_sub_succ (by simpa using two_pow_lt' k hk), Nat.testBit_two_pow]
  simp [hi]
theorem set_off (x k : Nat) (hx : x < 18446744073709551616) (hk : k < 64) : bits BinOp.andNot IntKind.u64 (x : Int) (IntKind.u64.wrap ((2 : Int) ^ k)) = ((setB x k false : Nat) : Int) := by
  rw [wrap_pow' k hk, u64_andNot_nat x (2 ^ k) hx (two_pow_lt' k hk)]
  congr 1
  refine W64_eq (Nat.lt_of_le_of_lt Nat.and_le_left hx) fun i hi => ?_
  rw [Nat.testBit_and, not_bit k i hk hi]
  by_cases h : i = k
  · subst h; simp
  · have : ¬ k = i := fun e => h e.symm
    simp [h, this]

theorem with_any (x k : Nat) (b : Bool) (w : World) (hx : x < 18446744073709551616) (hk : k < 64) :
    Calls Try.prog 106 #[.int .u64 (x : Int), .int .u64 (k : Int), .bool b] w fun e w' => e = .returned (.int .u64 (setB x k b : Nat)) ∧ w = w' := by
  have h1 := set_on x k hx hk
  have h0 := set_off x k hx hk
  cases b
  all_goals
    go_enter Try.func106, Try.ntmps106
    go_wp2
    go_ret
    exact ⟨rfl, rfl⟩

def privB (p : Int) : Bool := decide (p = 0) || decide (p = 1) || decide (p = 3)
theorem privilege_any (p : Int) (w : World) :
    Calls Try.prog 105 #[.int .i64 p] w fun e w' => e = .returned (.bool (privB p)) ∧ w = w' := by
  have hp : p = 0 ∨ p = 1 ∨ p = 3 ∨ ¬ (p = 0 ∨ p = 1 ∨ p = 3) := by omega
  rcases hp with rfl | rfl | rfl | hp
  · go_enter Try.func105, Try.ntmps105
    go_wp2
    go_ret
    exact ⟨rfl, rfl⟩
  · go_enter Try.func105, Try.ntmps105
    go_wp2
    go_ret
    exact ⟨rfl, rfl⟩
  · go_enter Try.func105, Try.ntmps105
    go_wp2
    go_ret
    exact ⟨rfl, rfl⟩
  · have H : Hid (privB p = false) := by show _ = _; unfold privB; simp; omega
    have e0 : (p == 0) = false := by simp; omega
    have e1 : (p == 1) = false := by simp; omega
    have e3 : (p == 3) = false := by simp; omega
    clear hp
    go_enter Try.func105, Try.ntmps105
    go_wp2
    go_ret
    exact ⟨by rw [H.out]; rfl, rfl⟩

/-- MPP as a privilege. -/
def mppV (a b : Bool) : Int := if a = true then (if b = true then 3 else 0) else (if b = true then 1 else 0)
def mppOf (x : Nat) : Int := mppV (x.testBit 12) (x.testBit 11)

theorem and3 (x : Nat) (hx : x < 18446744073709551616) : bits BinOp.and IntKind.u64 ((x : Int) / 2048) 3 = (2 * (x.testBit 12).toNat + (x.testBit 11).toNat : Nat) := by
  have h := u64_and_nat (x / 2 ^ 11) 3 (Nat.lt_of_le_of_lt (Nat.div_le_self _ _) hx) (by omega)
  have e : ((x : Int) / 2048) = ((x / 2 ^ 11 : Nat) : Int) := by simp
  rw [e]
  show bits BinOp.and IntKind.u64 ((x / 2 ^ 11 : Nat) : Int) ((3 : Nat) : Int) = _
  rw [h]
  congr 1
  rw [Nat.testBit_eq_decide_div_mod_eq, Nat.testBit_eq_decide_div_mod_eq]
  have e3 : x / 2 ^ 11 &&& 3 = x / 2 ^ 11 % 4 := Nat.and_two_pow_sub_one_eq_mod (n := 2) _
  rw [e3]
  have e12 : x / 2 ^ 12 = x / 2 ^ 11 / 2 := by rw [Nat.div_div_eq_div_mul]
  rw [e12]
  generalize x / 2 ^ 11 = y
  by_cases h1 : y % 2 = 1 <;> by_cases h2 : y / 2 % 2 = 1 <;> simp [h1, h2] <;> omega

theorem prior_any (x : Nat) (w : World) (hx : x < 18446744073709551616) :
    Calls Try.prog 109 #[.int .u64 (x : Int)] w fun e w' => e = .returned (.int .i64 (mppOf x)) ∧ w = w' := by
  have h := and3 x hx
  have H : Hid (mppOf x = mppV (x.testBit 12) (x.testBit 11)) := rfl
  generalize x.testBit 12 = a at h H
  generalize x.testBit 11 = b at h H
  cases a <;> cases b
  all_goals
    simp only [Bool.toNat_true, Bool.toNat_false] at h
    go_enter Try.func109, Try.ntmps109
    go_wp2
    go_ret
    exact ⟨val_i64 (by rw [H.out]; rfl), rfl⟩

theorem cut_mpp (x : Nat) (hx : x < 18446744073709551616) : W64 (cutF x 11 2) = 2 * (x.testBit 12).toNat + (x.testBit 11).toNat := by
  symm
  refine W64_eq ?_ fun i hi => ?_
  · cases x.testBit 12 <;> cases x.testBit 11 <;> decide
  · unfold cutF
    have e1 : decide ((0 : Int) ≤ 11 + (i : Int)) = true := by simp; omega
    rw [e1]
    by_cases h0 : i = 0
    · subst h0; cases x.testBit 12 <;> cases h : x.testBit 11 <;> simp [h]
    · by_cases h1 : i = 1
      · subst h1; cases h : x.testBit 12 <;> cases x.testBit 11 <;> simp [h] <;> decide
      · have e2 : decide ((i : Int) < 2) = false := by simp; omega
        rw [e2]
        have hb : 2 * (x.testBit 12).toNat + (x.testBit 11).toNat < 2 ^ 2 := by cases x.testBit 12 <;> cases x.testBit 11 <;> decide
        rw [Nat.testBit_lt_two_pow (Nat.lt_of_lt_of_le hb (Nat.pow_le_pow_right (by omega) (by omega)))]
        simp

theorem rmpp_any (x : Nat) (w : World) (hx : x < 18446744073709551616) :
    Calls Try.prog 120 #[.int .u64 (x : Int)] w fun e w' => e = .returned (.int .i64 (mppOf x)) ∧ Below w.heap.size w w' := by
  have h := cut_mpp x hx
  have H : Hid (mppOf x = mppV (x.testBit 12) (x.testBit 11)) := rfl
  generalize x.testBit 12 = a at h H
  generalize x.testBit 11 = b at h H
  have b11 : IntB 11 := by unfold IntB; omega
  have b2 : IntB 2 := by unfold IntB; omega
  cases a <;> cases b
  all_goals
    simp only [Bool.toNat_true, Bool.toNat_false] at h
    have HC := Lib.hid h
    clear h
    go_enter Try.func120, Try.ntmps120
    go_wp2_with fail
    refine (cut_any x 11 2 _ hx b11 b2).mono ?_
    rw [HC.out]
    rintro e w' ⟨rfl, hb⟩
    go_wp2
    go_ret
    exact ⟨val_i64 (by rw [H.out]; rfl), hb⟩
end Go.Proofs.Ythkkfdhgpaonjaa
