import Derived.Test.YthkkfdhgpaonjaaMRef
/- Layer 20: names of bits, single bits of words, MPP. -/
namespace Go.Proofs.Ythkkfdhgpaonjaa
open Go.RowKit
set_option linter.unusedSimpArgs false
set_option linter.unusedVariables false

/-- Where the bit of a name stands. -/
def atOf (l : List UInt8) : Int :=
  if (l == [115, 105, 101]) = true then 1 else
  if (l == [109, 105, 101]) = true then 3 else
  if (l == [115, 112, 105, 101]) = true then 5 else
  if (l == [109, 112, 105, 101]) = true then 7 else
  if (l == [115, 112, 112]) = true then 8 else
  if (l == [109, 112, 114, 118]) = true then 17 else
  if (l == [115, 117, 109]) = true then 18 else
  if (l == [109, 120, 114]) = true then 19 else
  if (l == [116, 118, 109]) = true then 20 else
  if (l == [116, 119]) = true then 21 else
  if (l == [116, 115, 114]) = true then 22 else
  -1

set_option maxRecDepth 100000 in
set_option maxHeartbeats 4000000 in
theorem at_any (s : ByteArray) (w : World) :
    Calls Try.prog 118 #[.string s] w fun e w' => e = .returned (.int .i64 (atOf s.toList)) ∧ w = w' := by
  go_enter Try.func118, Try.ntmps118
  go_wp2
  all_goals
    go_ret
    refine ⟨val_i64 ?_, rfl⟩
    unfold atOf
    simp only [*]
    rfl
theorem at_sie (w : World) : Calls Try.prog 118 #[.string ⟨#[115, 105, 101]⟩] w fun e w' => e = .returned (.int .i64 1) ∧ w = w' :=
  (at_any _ w).mono fun e w' ⟨he, hw⟩ => ⟨by rw [he]; simp only [ByteArray.toList_eq]; rfl, hw⟩
theorem at_mie (w : World) : Calls Try.prog 118 #[.string ⟨#[109, 105, 101]⟩] w fun e w' => e = .returned (.int .i64 3) ∧ w = w' :=
  (at_any _ w).mono fun e w' ⟨he, hw⟩ => ⟨by rw [he]; simp only [ByteArray.toList_eq]; rfl, hw⟩
theorem at_spie (w : World) : Calls Try.prog 118 #[.string ⟨#[115, 112, 105, 101]⟩] w fun e w' => e = .returned (.int .i64 5) ∧ w = w' :=
  (at_any _ w).mono fun e w' ⟨he, hw⟩ => ⟨by rw [he]; simp only [ByteArray.toList_eq]; rfl, hw⟩
theorem at_mpie (w : World) : Calls Try.prog 118 #[.string ⟨#[109, 112, 105, 101]⟩] w fun e w' => e = .returned (.int .i64 7) ∧ w = w' :=
  (at_any _ w).mono fun e w' ⟨he, hw⟩ => ⟨by rw [he]; simp only [ByteArray.toList_eq]; rfl, hw⟩
theorem at_spp (w : World) : Calls Try.prog 118 #[.string ⟨#[115, 112, 112]⟩] w fun e w' => e = .returned (.int .i64 8) ∧ w = w' :=
  (at_any _ w).mono fun e w' ⟨he, hw⟩ => ⟨by rw [he]; simp only [ByteArray.toList_eq]; rfl, hw⟩
theorem at_mprv (w : World) : Calls Try.prog 118 #[.string ⟨#[109, 112, 114, 118]⟩] w fun e w' => e = .returned (.int .i64 17) ∧ w = w' :=
  (at_any _ w).mono fun e w' ⟨he, hw⟩ => ⟨by rw [he]; simp only [ByteArray.toList_eq]; rfl, hw⟩
theorem at_sum (w : World) : Calls Try.prog 118 #[.string ⟨#[115, 117, 109]⟩] w fun e w' => e = .returned (.int .i64 18) ∧ w = w' :=
  (at_any _ w).mono fun e w' ⟨he, hw⟩ => ⟨by rw [he]; simp only [ByteArray.toList_eq]; rfl, hw⟩
theorem at_mxr (w : World) : Calls Try.prog 118 #[.string ⟨#[109, 120, 114]⟩] w fun e w' => e = .returned (.int .i64 19) ∧ w = w' :=
  (at_any _ w).mono fun e w' ⟨he, hw⟩ => ⟨by rw [he]; simp only [ByteArray.toList_eq]; rfl, hw⟩
theorem at_tvm (w : World) : Calls Try.prog 118 #[.string ⟨#[116, 118, 109]⟩] w fun e w' => e = .returned (.int .i64 20) ∧ w = w' :=
  (at_any _ w).mono fun e w' ⟨he, hw⟩ => ⟨by rw [he]; simp only [ByteArray.toList_eq]; rfl, hw⟩
theorem at_tw (w : World) : Calls Try.prog 118 #[.string ⟨#[116, 119]⟩] w fun e w' => e = .returned (.int .i64 21) ∧ w = w' :=
  (at_any _ w).mono fun e w' ⟨he, hw⟩ => ⟨by rw [he]; simp only [ByteArray.toList_eq]; rfl, hw⟩
theorem at_tsr (w : World) : Calls Try.prog 118 #[.string ⟨#[116, 115, 114]⟩] w fun e w' => e = .returned (.int .i64 22) ∧ w = w' :=
  (at_any _ w).mono fun e w' ⟨he, hw⟩ => ⟨by rw [he]; simp only [ByteArray.toList_eq]; rfl, hw⟩

/-- A word with one bit changed. -/
def setB (x k : Nat) (b : Bool) : Nat := W64 (fun i => if i = k then b else x.testBit i)
theorem setB_lt (x k : Nat) (b : Bool) : setB x k b < 18446744073709551616 := W64_lt _
theorem setB_bit (x k : Nat) (b : Bool) (i : Nat) : (setB x k b).testBit i = (decide (i < 64) && if i = k then b else x.testBit i) := mkW_bit _ 64 i
theorem W64_congr {f g : Nat → Bool} (h : ∀ i, i < 64 → f i = g i) : W64 f = W64 g := by
  apply Nat.eq_of_testBit_eq
  intro i
  rw [mkW_bit, mkW_bit]
  by_cases hi : i < 64
  · simp [hi, h i hi]
  · simp [hi]
theorem W64_eq {f : Nat → Bool} {y : Nat} (hy : y < 18446744073709551616) (h : ∀ i, i < 64 → y.testBit i = f i) : y = W64 f := by
  apply Nat.eq_of_testBit_eq
  intro i
  rw [mkW_bit]
  by_cases hi : i < 64
  · simp [hi, h i hi]
  · simp [hi, tb_big y hy i (by omega)]

theorem put_one (x : Nat) (k : Nat) (b : Bool) (hk : k < 64) : W64 (putF x b.toNat k 1) = setB x k b := by
  refine W64_congr fun i hi => ?_
  unfold putF inB
  by_cases h : i = k
  · subst h; cases b <;> simp
  · have : ¬ ((k : Int) ≤ i ∧ (i : Int) - k < 1) := by omega
    rw [if_neg h, if_neg (by simp; omega)]

theorem ones_lt (b : Bool) : b.toNat < 18446744073709551616 := by cases b <;> decide
theorem get_at {s : ByteArray} {c : Nat} (hc : c < 64) (h : ∀ w, Calls Try.prog 118 #[.string s] w fun e w' => e = .returned (.int .i64 (c : Int)) ∧ w = w') (x : Nat) (hx : x < 18446744073709551616) (w : World) :
    Calls Try.prog 93 #[.int .u64 (x : Int), .string s] w fun e w' => e = .returned (.int .u64 ((x.testBit c).toNat : Nat)) ∧ w = w' := by
  have hb : bitN x (c : Int) = (x.testBit c).toNat := by rw [bitN_big x hx _ (by omega)]; simp
  have HB := Lib.hid hb
  clear hb
  go_enter Try.func93, Try.ntmps93
  go_wp2_with fail
  refine (h _).mono ?_
  rintro e w' ⟨rfl, rfl⟩
  go_wp2_with fail
  refine (bit_v HB.out _ hx).mono ?_
  rintro e w' ⟨rfl, rfl⟩
  go_wp2
  go_ret
  exact ⟨rfl, rfl⟩
theorem put_at {s : ByteArray} {c : Nat} (hc : c < 64) (h : ∀ w, Calls Try.prog 118 #[.string s] w fun e w' => e = .returned (.int .i64 (c : Int)) ∧ w = w') (x : Nat) (hx : x < 18446744073709551616) (n : Nat) (b : Bool) (hn : n = b.toNat) (w : World) :
    Calls Try.prog 92 #[.int .u64 (x : Int), .string s, .int .u64 (n : Int)] w fun e w' => e = .returned (.int .u64 (setB x c b : Nat)) ∧ Below w.heap.size w w' := by
  subst hn
  have HP := Lib.hid (put_one x c b hc)
  have hcb : IntB (c : Int) := by unfold IntB; omega
  have h1b : IntB 1 := by unfold IntB; omega
  go_enter Try.func92, Try.ntmps92
  go_wp2_with fail
  refine (h _).mono ?_
  rintro e w' ⟨rfl, rfl⟩
  go_wp2_with fail
  refine (put_any x b.toNat c 1 _ hx (ones_lt b) hcb h1b).mono ?_
  rw [HP.out]
  rintro e w' ⟨rfl, hb⟩
  go_wp2
  go_ret
  exact ⟨rfl, hb⟩

theorem bit_test1 (x k : Nat) (hx : x < 18446744073709551616) : (bits BinOp.and IntKind.u64 ((x : Int) / 2 ^ k) 1 == 1) = x.testBit k := by
  have h := u64_and_nat (x / 2 ^ k) 1 (Nat.lt_of_le_of_lt (Nat.div_le_self _ _) hx) (by omega)
  have e : ((x : Int) / 2 ^ k) = ((x / 2 ^ k : Nat) : Int) := by simp
  rw [e]
  show (bits BinOp.and IntKind.u64 ((x / 2 ^ k : Nat) : Int) ((1 : Nat) : Int) == 1) = _
  rw [h, Nat.and_one_is_mod, Nat.testBit_eq_decide_div_mod_eq]
  generalize x / 2 ^ k % 2 = y
  rw [Bool.eq_iff_iff]
  simp
  omega

theorem bit1_any (x k : Nat) (w : World) (hx : x < 18446744073709551616) (hk : k < 64) :
    Calls Try.prog 107 #[.int .u64 (x : Int), .int .u64 (k : Int)] w fun e w' => e = .returned (.bool (x.testBit k)) ∧ w = w' := by
  have tb := bit_test1 x k hx
  go_enter Try.func107, Try.ntmps107
  go_wp2
  go_ret
  exact ⟨rfl, rfl⟩
end Go.Proofs.Ythkkfdhgpaonjaa
/- Layer 20: with, privilege, MPP, Enter and Leave of both. -/
namespace Go.Proofs.Ythkkfdhgpaonjaa
open Go.RowKit
set_option linter.unusedSimpArgs false
set_option linter.unusedVariables false

theorem two_pow_lt' (c : Nat) (hc : c < 64) : 2 ^ c < 18446744073709551616 := by
  have : 2 ^ c < 2 ^ 64 := Nat.pow_lt_pow_right (by omega) hc
  simpa using this
theorem wrap_pow' (c : Nat) (hc : c < 64) : IntKind.u64.wrap ((2 : Int) ^ c) = ((2 ^ c : Nat) : Int) := by
  have h := two_pow_lt' c hc
  have e : ((2 : Int) ^ c) = ((2 ^ c : Nat) : Int) := by simp
  rw [e]
  generalize 2 ^ c = y at h
  rw [IntKind.wrap_u64]
  omega
theorem set_on (x k : Nat) (hx : x < 18446744073709551616) (hk : k < 64) : bits BinOp.or IntKind.u64 (x : Int) (IntKind.u64.wrap ((2 : Int) ^ k)) = ((setB x k true : Nat) : Int) := by
  rw [wrap_pow' k hk, u64_or_nat x (2 ^ k) hx (two_pow_lt' k hk)]
  congr 1
  refine W64_eq (Nat.or_lt_two_pow (n := 64) hx (two_pow_lt' k hk)) fun i hi => ?_
  rw [Nat.testBit_or, Nat.testBit_two_pow]
  by_cases h : i = k
  · subst h; simp
  · have : ¬ k = i := fun e => h e.symm
    simp [h, this]
theorem not_bit (k i : Nat) (hk : k < 64) (hi : i < 64) : (18446744073709551615 - 2 ^ k).testBit i = !decide (k = i) := by
  have e : 18446744073709551615 - 2 ^ k = 2 ^ 64 - (2 ^ k + 1) := by omega
  rw [e, Nat.testBit_two_pow_sub_succ (by simpa using two_pow_lt' k hk), Nat.testBit_two_pow]
  simp [hi]
theorem set_off (x k : Nat) (hx : x < 18446744073709551616) (hk : k < 64) : bits BinOp.andNot IntKind.u64 (x : Int) (IntKind.u64.wrap ((2 : Int) ^ k)) = ((setB x k false : Nat) : Int) := by
  rw [wrap_pow' k hk, u64_andNot_nat x (2 ^ k) hx (two_pow_lt' k hk)]
  congr 1
  refine W64_eq (Nat.lt_of_le_of_lt Nat.and_le_left hx) fun i hi => ?_
  rw [Nat.testBit_and, not_bit k i hk hi]
  by_cases h : i = k
  · subst h; simp
  · have : ¬ k = i := fun e => h e.symm
    simp [h, this]

theorem with_any (x k : Nat) (b : Bool) (w : World) (hx : x < 18446744073709551616) (hk : k < 64) :
    Calls Try.prog 106 #[.int .u64 (x : Int), .int .u64 (k : Int), .bool b] w fun e w' => e = .returned (.int .u64 (setB x k b : Nat)) ∧ w = w' := by
  have h1 := set_on x k hx hk
  have h0 := set_off x k hx hk
  cases b
  all_goals
    go_enter Try.func106, Try.ntmps106
    go_wp2
    go_ret
    exact ⟨rfl, rfl⟩

def privB (p : Int) : Bool := decide (p = 0) || decide (p = 1) || decide (p = 3)
theorem privilege_any (p : Int) (w : World) :
    Calls Try.prog 105 #[.int .i64 p] w fun e w' => e = .returned (.bool (privB p)) ∧ w = w' := by
  have hp : p = 0 ∨ p = 1 ∨ p = 3 ∨ ¬ (p = 0 ∨ p = 1 ∨ p = 3) := by omega
  rcases hp with rfl | rfl | rfl | hp
  · go_enter Try.func105, Try.ntmps105
    go_wp2
    go_ret
    exact ⟨rfl, rfl⟩
  · go_enter Try.func105, Try.ntmps105
    go_wp2
    go_ret
    exact ⟨rfl, rfl⟩
  · go_enter Try.func105, Try.ntmps105
    go_wp2
    go_ret
    exact ⟨rfl, rfl⟩
  · have H : Hid (privB p = false) := by show _ = _; unfold privB; simp; omega
    have e0 : (p == 0) = false := by simp; omega
    have e1 : (p == 1) = false := by simp; omega
    have e3 : (p == 3) = false := by simp; omega
    clear hp
    go_enter Try.func105, Try.ntmps105
    go_wp2
    go_ret
    exact ⟨by rw [H.out]; rfl, rfl⟩

/-- MPP as a privilege. -/
def mppV (a b : Bool) : Int := if a = true then (if b = true then 3 else 0) else (if b = true then 1 else 0)
def mppOf (x : Nat) : Int := mppV (x.testBit 12) (x.testBit 11)

theorem and3 (x : Nat) (hx : x < 18446744073709551616) : bits BinOp.and IntKind.u64 ((x : Int) / 2048) 3 = (2 * (x.testBit 12).toNat + (x.testBit 11).toNat : Nat) := by
  have h := u64_and_nat (x / 2 ^ 11) 3 (Nat.lt_of_le_of_lt (Nat.div_le_self _ _) hx) (by omega)
  have e : ((x : Int) / 2048) = ((x / 2 ^ 11 : Nat) : Int) := by simp
  rw [e]
  show bits BinOp.and IntKind.u64 ((x / 2 ^ 11 : Nat) : Int) ((3 : Nat) : Int) = _
  rw [h]
  congr 1
  rw [Nat.testBit_eq_decide_div_mod_eq, Nat.testBit_eq_decide_div_mod_eq]
  have e3 : x / 2 ^ 11 &&& 3 = x / 2 ^ 11 % 4 := Nat.and_two_pow_sub_one_eq_mod (n := 2) _
  rw [e3]
  have e12 : x / 2 ^ 12 = x / 2 ^ 11 / 2 := by rw [Nat.div_div_eq_div_mul]
  rw [e12]
  generalize x / 2 ^ 11 = y
  by_cases h1 : y % 2 = 1 <;> by_cases h2 : y / 2 % 2 = 1 <;> simp [h1, h2] <;> omega

theorem prior_any (x : Nat) (w : World) (hx : x < 18446744073709551616) :
    Calls Try.prog 109 #[.int .u64 (x : Int)] w fun e w' => e = .returned (.int .i64 (mppOf x)) ∧ w = w' := by
  have h := and3 x hx
  have H : Hid (mppOf x = mppV (x.testBit 12) (x.testBit 11)) := rfl
  generalize x.testBit 12 = a at h H
  generalize x.testBit 11 = b at h H
  cases a <;> cases b
  all_goals
    simp only [Bool.toNat_true, Bool.toNat_false] at h
    go_enter Try.func109, Try.ntmps109
    go_wp2
    go_ret
    exact ⟨val_i64 (by rw [H.out]; rfl), rfl⟩

theorem cut_mpp (x : Nat) (hx : x < 18446744073709551616) : W64 (cutF x 11 2) = 2 * (x.testBit 12).toNat + (x.testBit 11).toNat := by
  symm
  refine W64_eq ?_ fun i hi => ?_
  · cases x.testBit 12 <;> cases x.testBit 11 <;> decide
  · unfold cutF
    have e1 : decide ((0 : Int) ≤ 11 + (i : Int)) = true := by simp; omega
    rw [e1]
    by_cases h0 : i = 0
    · subst h0; cases x.testBit 12 <;> cases h : x.testBit 11 <;> simp [h]
    · by_cases h1 : i = 1
      · subst h1; cases h : x.testBit 12 <;> cases x.testBit 11 <;> simp [h] <;> decide
      · have e2 : decide ((i : Int) < 2) = false := by simp; omega
        rw [e2]
        have hb : 2 * (x.testBit 12).toNat + (x.testBit 11).toNat < 2 ^ 2 := by cases x.testBit 12 <;> cases x.testBit 11 <;> decide
        rw [Nat.testBit_lt_two_pow (Nat.lt_of_lt_of_le hb (Nat.pow_le_pow_right (by omega) (by omega)))]
        simp

theorem rmpp_any (x : Nat) (w : World) (hx : x < 18446744073709551616) :
    Calls Try.prog 120 #[.int .u64 (x : Int)] w fun e w' => e = .returned (.int .i64 (mppOf x)) ∧ Below w.heap.size w w' := by
  have h := cut_mpp x hx
  have H : Hid (mppOf x = mppV (x.testBit 12) (x.testBit 11)) := rfl
  generalize x.testBit 12 = a at h H
  generalize x.testBit 11 = b at h H
  have b11 : IntB 11 := by unfold IntB; omega
  have b2 : IntB 2 := by unfold IntB; omega
  cases a <;> cases b
  all_goals
    simp only [Bool.toNat_true, Bool.toNat_false] at h
    have HC := Lib.hid h
    clear h
    go_enter Try.func120, Try.ntmps120
    go_wp2_with fail
    refine (cut_any x 11 2 _ hx b11 b2).mono ?_
    rw [HC.out]
    rintro e w' ⟨rfl, hb⟩
    go_wp2
    go_ret
    exact ⟨val_i64 (by rw [H.out]; rfl), hb⟩
end Go.Proofs.Ythkkfdhgpaonjaa
/- Layer 20: Enter and Leave, of the program and of the document. -/
namespace Go.Proofs.Ythkkfdhgpaonjaa
open Go.RowKit
set_option linter.unusedSimpArgs false
set_option linter.unusedVariables false

/-- MPP laid. -/
def setMpp (x p : Nat) : Nat := W64 (putF x p 11 2)
theorem setMpp_lt (x p : Nat) : setMpp x p < 18446744073709551616 := W64_lt _
def enterM (x p : Nat) : Nat := setMpp (setB (setB x 7 (x.testBit 3)) 3 false) p
def enterS (x : Nat) (b : Bool) : Nat := setB (setB (setB x 5 (x.testBit 1)) 1 false) 8 b
def enterOf (x : Nat) (f t : Int) : Nat := if privB f = true then (if t = 3 then enterM x f.toNat else if t = 1 then enterS x (decide (f = 1)) else x) else x

theorem mpp_or (x p : Nat) (hx : x < 18446744073709551616) (hp : p < 4) :
    bits BinOp.or IntKind.u64 (bits BinOp.andNot IntKind.u64 (x : Int) 6144) ((p : Int) * 2048) = ((setMpp x p : Nat) : Int) := by
  have h1 := u64_andNot_nat x 6144 hx (by omega)
  have e1 : bits BinOp.andNot IntKind.u64 (x : Int) 6144 = ((x &&& (18446744073709551615 - 6144) : Nat) : Int) := h1
  rw [e1]
  have e2 : ((p : Int) * 2048) = ((p * 2048 : Nat) : Int) := by simp
  rw [e2, u64_or_nat _ _ (Nat.lt_of_le_of_lt Nat.and_le_left hx) (by omega)]
  congr 1
  refine W64_eq (Nat.or_lt_two_pow (n := 64) (Nat.lt_of_le_of_lt Nat.and_le_left hx) (by omega)) fun i hi => ?_
  rw [Nat.testBit_or, Nat.testBit_and]
  have hm : Nat.testBit (18446744073709551615 - 6144) i = (decide (i < 64) && !Nat.testBit 6144 i) := by
    have e : 18446744073709551615 - 6144 = 2 ^ 64 - (6144 + 1) := by omega
    rw [e, Nat.testBit_two_pow_sub_succ (by omega)]
  have hm2 : Nat.testBit 6144 i = (decide (i = 11) || decide (i = 12)) := by
    have e : 6144 = 2 ^ 11 + 2 ^ 12 := rfl
    by_cases h11 : i = 11
    · subst h11; rfl
    · by_cases h12 : i = 12
      · subst h12; rfl
      · have e : 6144 = 2 ^ 11 ||| 2 ^ 12 := rfl
        rw [e, Nat.testBit_or, Nat.testBit_two_pow, Nat.testBit_two_pow]
        have a1 : ¬ 11 = i := fun e => h11 e.symm
        have a2 : ¬ 12 = i := fun e => h12 e.symm
        simp [h11, h12, a1, a2]
  have hp2 : (p * 2048).testBit i = (decide (11 ≤ i) && p.testBit (i - 11)) := by
    have e : p * 2048 = p * 2 ^ 11 := rfl
    rw [e, Nat.testBit_mul_two_pow]
  rw [hm, hm2, hp2]
  unfold putF inB
  by_cases h11 : i = 11
  · subst h11; simp
  · by_cases h12 : i = 12
    · subst h12; simp
    · rw [if_neg (by simp; omega)]
      simp only [h11, h12, decide_false, Bool.or_false, Bool.not_false, Bool.and_true]
      by_cases hl : 11 ≤ i
      · have : p.testBit (i - 11) = false := Nat.testBit_lt_two_pow (Nat.lt_of_lt_of_le hp (Nat.pow_le_pow_right (n := 2) (i := 2) (by omega) (by omega)))
        rw [this]; simp [hi]
      · simp [hl, hi]

set_option maxRecDepth 100000 in
set_option maxHeartbeats 2000000 in
theorem enter_any (x : Nat) (f t : Int) (w : World) (hx : x < 18446744073709551616) :
    Calls Try.prog 67 #[.int .u64 (x : Int), .int .i64 f, .int .i64 t] w fun e w' => e = .returned (.int .u64 (enterOf x f t : Nat)) ∧ w = w' := by
  cases hp : privB f
  · have H : Hid (enterOf x f t = x) := by show _ = _; unfold enterOf; rw [hp]; simp
    have HP := Lib.hid hp
    clear hp
    go_enter Try.func67, Try.ntmps67
    go_wp2_with fail
    refine (privilege_any f _).mono ?_
    rw [HP.out]
    rintro e w' ⟨rfl, rfl⟩
    go_wp2
    go_ret
    exact ⟨val_u64 (by rw [H.out]), rfl⟩
  · have hpp : ∃ p : Nat, f = p ∧ p < 4 := ⟨f.toNat, by unfold privB at hp; simp at hp; omega, by unfold privB at hp; simp at hp; omega⟩
    obtain ⟨p, rfl, hp4⟩ := hpp
    have HP := Lib.hid hp
    by_cases h3 : t = 3
    · subst h3
      have H : Hid (enterOf x p 3 = enterM x p) := by show _ = _; unfold enterOf; rw [hp]; simp
      have HM := Lib.hid (mpp_or (setB (setB x 7 (x.testBit 3)) 3 false) p (setB_lt _ _ _) hp4)
      clear hp
      go_enter Try.func67, Try.ntmps67
      go_wp2_with fail
      refine (privilege_any _ _).mono ?_
      rw [HP.out]
      rintro e w' ⟨rfl, rfl⟩
      go_wp2_with fail
      refine (bit1_any x 3 _ hx (by omega)).mono ?_
      rintro e w' ⟨rfl, rfl⟩
      go_wp2_with fail
      refine (with_any x 7 _ _ hx (by omega)).mono ?_
      rintro e w' ⟨rfl, rfl⟩
      go_wp2_with fail
      refine (with_any _ 3 _ _ (setB_lt _ _ _) (by omega)).mono ?_
      rintro e w' ⟨rfl, rfl⟩
      go_wp2
      go_ret
      exact ⟨val_u64 (by rw [H.out]; exact HM.out), rfl⟩
    · have e3 : (t == 3) = false := by simpa using h3
      by_cases h1 : t = 1
      · subst h1
        have H : Hid (enterOf x p 1 = enterS x ((p : Int) == 1)) := by show _ = _; unfold enterOf; rw [hp]; simp; rfl
        clear hp h3
        go_enter Try.func67, Try.ntmps67
        go_wp2_with fail
        refine (privilege_any _ _).mono ?_
        rw [HP.out]
        rintro e w' ⟨rfl, rfl⟩
        go_wp2_with fail
        refine (bit1_any x 1 _ hx (by omega)).mono ?_
        rintro e w' ⟨rfl, rfl⟩
        go_wp2_with fail
        refine (with_any x 5 _ _ hx (by omega)).mono ?_
        rintro e w' ⟨rfl, rfl⟩
        go_wp2_with fail
        refine (with_any _ 1 _ _ (setB_lt _ _ _) (by omega)).mono ?_
        rintro e w' ⟨rfl, rfl⟩
        go_wp2_with fail
        refine (with_any _ 8 _ _ (setB_lt _ _ _) (by omega)).mono ?_
        rintro e w' ⟨rfl, rfl⟩
        go_wp2
        go_ret
        exact ⟨val_u64 (by rw [H.out]; rfl), rfl⟩
      · have e1 : (t == 1) = false := by simpa using h1
        have H : Hid (enterOf x p t = x) := by show _ = _; unfold enterOf; rw [hp, if_pos rfl, if_neg h3, if_neg h1]
        clear hp h3 h1
        go_enter Try.func67, Try.ntmps67
        go_wp2_with fail
        refine (privilege_any _ _).mono ?_
        rw [HP.out]
        rintro e w' ⟨rfl, rfl⟩
        go_wp2
        go_ret
        exact ⟨val_u64 (by rw [H.out]), rfl⟩
end Go.Proofs.Ythkkfdhgpaonjaa
/- Layer 20: the document's Enter and Leave, the program's Leave. -/
namespace Go.Proofs.Ythkkfdhgpaonjaa
open Go.RowKit
set_option linter.unusedSimpArgs false
set_option linter.unusedVariables false

theorem b11 : IntB 11 := by unfold IntB; omega
theorem b2 : IntB 2 := by unfold IntB; omega

set_option maxRecDepth 100000 in
set_option maxHeartbeats 2000000 in
theorem renter_any (x : Nat) (f t : Int) (w : World) (hx : x < 18446744073709551616) :
    Calls Try.prog 103 #[.int .u64 (x : Int), .int .i64 f, .int .i64 t] w fun e w' => e = .returned (.int .u64 (enterOf x f t : Nat)) ∧ Below w.heap.size w w' := by
  cases hp : privB f
  · have H : Hid (enterOf x f t = x) := by show _ = _; unfold enterOf; rw [hp]; simp
    have f0 : (f != 0) = true := by unfold privB at hp; simp at hp ⊢; omega
    have f1 : (f != 1) = true := by unfold privB at hp; simp at hp ⊢; omega
    have f3 : (f != 3) = true := by unfold privB at hp; simp at hp ⊢; omega
    clear hp
    go_enter Try.func103, Try.ntmps103
    go_wp2
    go_ret
    exact ⟨val_u64 (by rw [H.out]), Below.refl _ _⟩
  · by_cases h3 : t = 3
    · subst h3
      have hf : f = 0 ∨ f = 1 ∨ f = 3 := by unfold privB at hp; simp at hp; omega
      clear hp
      rcases hf with rfl | rfl | rfl
      all_goals
        go_enter Try.func103, Try.ntmps103
        go_wp2_with fail
        refine (get_at (c := 3) (by omega) at_mie x hx _).mono ?_
        rintro e w' ⟨rfl, rfl⟩
        go_wp2_with fail
        refine (put_at (c := 7) (by omega) at_mpie x hx _ (x.testBit 3) rfl _).mono ?_
        rintro e w1 ⟨rfl, hb1⟩
        go_wp2_with fail
        refine (put_at (c := 3) (by omega) at_mie _ (setB_lt _ _ _) 0 false rfl _).mono ?_
        rintro e w2 ⟨rfl, hb2⟩
        go_wp2_with fail
        refine (put_any _ _ 11 2 _ (setB_lt _ _ _) ?_ b11 b2).mono ?_
        rotate_left
        rintro e w3 ⟨rfl, hb3⟩
        go_wp2
        go_ret
        exact ⟨rfl, ((((Fr.refl _).step hb1).step hb2).step hb3).1⟩
    · have e3 : (t == 3) = false := by simpa using h3
      by_cases h1 : t = 1
      · subst h1
        clear h3
        have hf : f = 0 ∨ f = 1 ∨ f = 3 := by unfold privB at hp; simp at hp; omega
        clear hp
        rcases hf with rfl | rfl | rfl
        · go_enter Try.func103, Try.ntmps103
          go_wp2_with fail
          refine (get_at (c := 1) (by omega) at_sie x hx _).mono ?_
          rintro e w' ⟨rfl, rfl⟩
          go_wp2_with fail
          refine (put_at (c := 5) (by omega) at_spie x hx _ (x.testBit 1) rfl _).mono ?_
          rintro e w1 ⟨rfl, hb1⟩
          go_wp2_with fail
          refine (put_at (c := 1) (by omega) at_sie _ (setB_lt _ _ _) 0 false rfl _).mono ?_
          rintro e w2 ⟨rfl, hb2⟩
          go_wp2_with fail
          refine (put_at (c := 8) (by omega) at_spp _ (setB_lt _ _ _) 0 false rfl _).mono ?_
          rintro e w3 ⟨rfl, hb3⟩
          go_wp2
          go_ret
          exact ⟨rfl, ((((Fr.refl _).step hb1).step hb2).step hb3).1⟩
        · go_enter Try.func103, Try.ntmps103
          go_wp2_with fail
          refine (get_at (c := 1) (by omega) at_sie x hx _).mono ?_
          rintro e w' ⟨rfl, rfl⟩
          go_wp2_with fail
          refine (put_at (c := 5) (by omega) at_spie x hx _ (x.testBit 1) rfl _).mono ?_
          rintro e w1 ⟨rfl, hb1⟩
          go_wp2_with fail
          refine (put_at (c := 1) (by omega) at_sie _ (setB_lt _ _ _) 0 false rfl _).mono ?_
          rintro e w2 ⟨rfl, hb2⟩
          go_wp2_with fail
          refine (put_at (c := 8) (by omega) at_spp _ (setB_lt _ _ _) 1 true rfl _).mono ?_
          rintro e w3 ⟨rfl, hb3⟩
          go_wp2
          go_ret
          exact ⟨rfl, ((((Fr.refl _).step hb1).step hb2).step hb3).1⟩
        · go_enter Try.func103, Try.ntmps103
          go_wp2_with fail
          refine (get_at (c := 1) (by omega) at_sie x hx _).mono ?_
          rintro e w' ⟨rfl, rfl⟩
          go_wp2_with fail
          refine (put_at (c := 5) (by omega) at_spie x hx _ (x.testBit 1) rfl _).mono ?_
          rintro e w1 ⟨rfl, hb1⟩
          go_wp2_with fail
          refine (put_at (c := 1) (by omega) at_sie _ (setB_lt _ _ _) 0 false rfl _).mono ?_
          rintro e w2 ⟨rfl, hb2⟩
          go_wp2_with fail
          refine (put_at (c := 8) (by omega) at_spp _ (setB_lt _ _ _) 0 false rfl _).mono ?_
          rintro e w3 ⟨rfl, hb3⟩
          go_wp2
          go_ret
          exact ⟨rfl, ((((Fr.refl _).step hb1).step hb2).step hb3).1⟩
      · have e1 : (t == 1) = false := by simpa using h1
        have H : Hid (enterOf x f t = x) := by show _ = _; unfold enterOf; rw [hp, if_pos rfl, if_neg h3, if_neg h1]
        have hf : f = 0 ∨ f = 1 ∨ f = 3 := by unfold privB at hp; simp at hp; omega
        clear hp h3 h1
        rcases hf with rfl | rfl | rfl
        all_goals
          go_enter Try.func103, Try.ntmps103
          go_wp2
          go_ret
          exact ⟨val_u64 (by rw [H.out]), Below.refl _ _⟩
end Go.Proofs.Ythkkfdhgpaonjaa
/- Layer 20: Leave, of the program and of the document. -/
namespace Go.Proofs.Ythkkfdhgpaonjaa
open Go.RowKit
set_option linter.unusedSimpArgs false
set_option linter.unusedVariables false

/-- The word behind a return from Machine, but for MPRV. -/
def leaveM (x : Nat) : Nat := setMpp (setB (setB x 3 (x.testBit 7)) 7 true) 0
def leaveS (x : Nat) : Nat := setB (setB (setB (setB x 1 (x.testBit 5)) 5 true) 8 false) 17 false
def leaveOf (x : Nat) (t : Int) : Nat := if t = 3 then (if mppOf x = 3 then leaveM x else setB (leaveM x) 17 false) else if t = 1 then leaveS x else x
def leaveTo (x : Nat) (t : Int) : Int := if t = 3 then mppOf x else if t = 1 then (if x.testBit 8 = true then 1 else 0) else 0

theorem mpp_off (x : Nat) (hx : x < 18446744073709551616) : bits BinOp.andNot IntKind.u64 (x : Int) 6144 = ((setMpp x 0 : Nat) : Int) := by
  have h := mpp_or x 0 hx (by omega)
  have h1 := u64_andNot_nat x 6144 hx (by omega)
  have e1 : bits BinOp.andNot IntKind.u64 (x : Int) 6144 = ((x &&& (18446744073709551615 - 6144) : Nat) : Int) := h1
  rw [e1] at h
  have h2 := u64_or_nat (x &&& (18446744073709551615 - 6144)) 0 (Nat.lt_of_le_of_lt Nat.and_le_left hx) (by omega)
  have h3 : bits BinOp.or IntKind.u64 ((x &&& (18446744073709551615 - 6144) : Nat) : Int) (((0 : Nat) : Int) * 2048) = ((x &&& (18446744073709551615 - 6144) : Nat) : Int) := by
    simpa using h2
  rw [h3] at h
  rw [e1, h]

set_option maxRecDepth 100000 in
set_option maxHeartbeats 2000000 in
theorem leave_any (x : Nat) (t : Int) (w : World) (hx : x < 18446744073709551616) :
    Calls Try.prog 73 #[.int .u64 (x : Int), .int .i64 t] w fun e w' => e = .returned (.tuple #[.int .u64 (leaveOf x t : Nat), .int .i64 (leaveTo x t)]) ∧ w = w' := by
  by_cases h3 : t = 3
  · subst h3
    have HM := Lib.hid (mpp_off (setB (setB x 3 (x.testBit 7)) 7 true) (setB_lt _ _ _))
    have HT : Hid (leaveTo x 3 = mppOf x) := by show _ = _; unfold leaveTo; rw [if_pos rfl]
    by_cases hm : mppOf x = 3
    · have H : Hid (leaveOf x 3 = leaveM x) := by show _ = _; unfold leaveOf; rw [if_pos rfl, if_pos hm]
      have HP := Lib.hid hm
      clear hm
      go_enter Try.func73, Try.ntmps73
      go_wp2_with fail
      refine (prior_any x _ hx).mono ?_
      rw [HP.out]
      rintro e w' ⟨rfl, rfl⟩
      go_wp2_with fail
      refine (bit1_any x 7 _ hx (by omega)).mono ?_
      rintro e w' ⟨rfl, rfl⟩
      go_wp2_with fail
      refine (with_any x 3 _ _ hx (by omega)).mono ?_
      rintro e w' ⟨rfl, rfl⟩
      go_wp2_with fail
      refine (with_any _ 7 _ _ (setB_lt _ _ _) (by omega)).mono ?_
      rintro e w' ⟨rfl, rfl⟩
      go_wp2
      go_ret2
      refine ⟨?_, rfl⟩
      rw [H.out, HT.out, HP.out]
      show _ = Ending.returned (.tuple #[.int .u64 ((setMpp (setB (setB x 3 (x.testBit 7)) 7 true) 0 : Nat) : Int), .int .i64 3])
      rw [← HM.out]
      rfl
    · have H : Hid (leaveOf x 3 = setB (leaveM x) 17 false) := by show _ = _; unfold leaveOf; rw [if_pos rfl, if_neg hm]
      obtain ⟨m, hmm⟩ : ∃ m, m = mppOf x := ⟨_, rfl⟩
      have HP := Lib.hid hmm.symm
      have hne : (m != 3) = true := by rw [hmm]; simpa using hm
      clear hm hmm
      go_enter Try.func73, Try.ntmps73
      go_wp2_with fail
      refine (prior_any x _ hx).mono ?_
      rw [HP.out]
      rintro e w' ⟨rfl, rfl⟩
      go_wp2_with fail
      refine (bit1_any x 7 _ hx (by omega)).mono ?_
      rintro e w' ⟨rfl, rfl⟩
      go_wp2_with fail
      refine (with_any x 3 _ _ hx (by omega)).mono ?_
      rintro e w' ⟨rfl, rfl⟩
      go_wp2_with fail
      refine (with_any _ 7 _ _ (setB_lt _ _ _) (by omega)).mono ?_
      rintro e w' ⟨rfl, rfl⟩
      go_wp2_with fail
      rw [HM.out]
      refine (with_any _ 17 _ _ (setMpp_lt _ _) (by omega)).mono ?_
      rintro e w' ⟨rfl, rfl⟩
      go_wp2
      go_ret2
      refine ⟨?_, rfl⟩
      rw [H.out, HT.out, HP.out]
      rfl
  · have e3 : (t == 3) = false := by simpa using h3
    by_cases h1 : t = 1
    · subst h1
      have H : Hid (leaveOf x 1 = leaveS x) := by show _ = _; unfold leaveOf; rw [if_neg (by omega), if_pos rfl]
      have HT : Hid (leaveTo x 1 = if x.testBit 8 = true then 1 else 0) := by show _ = _; unfold leaveTo; rw [if_neg (by omega), if_pos rfl]
      clear h3
      cases hb : x.testBit 8
      all_goals
        rw [hb] at HT
        have HB := Lib.hid hb
        clear hb
        go_enter Try.func73, Try.ntmps73
        go_wp2_with fail
        refine (bit1_any x 8 _ hx (by omega)).mono ?_
        rw [HB.out]
        rintro e w' ⟨rfl, rfl⟩
        go_wp2_with fail
        refine (bit1_any x 5 _ hx (by omega)).mono ?_
        rintro e w' ⟨rfl, rfl⟩
        go_wp2_with fail
        refine (with_any x 1 _ _ hx (by omega)).mono ?_
        rintro e w' ⟨rfl, rfl⟩
        go_wp2_with fail
        refine (with_any _ 5 _ _ (setB_lt _ _ _) (by omega)).mono ?_
        rintro e w' ⟨rfl, rfl⟩
        go_wp2_with fail
        refine (with_any _ 8 _ _ (setB_lt _ _ _) (by omega)).mono ?_
        rintro e w' ⟨rfl, rfl⟩
        go_wp2_with fail
        refine (with_any _ 17 _ _ (setB_lt _ _ _) (by omega)).mono ?_
        rintro e w' ⟨rfl, rfl⟩
        go_wp2
        go_ret2
        refine ⟨?_, rfl⟩
        rw [H.out, HT.out]
        rfl
    · have e1 : (t == 1) = false := by simpa using h1
      have H : Hid (leaveOf x t = x) := by show _ = _; unfold leaveOf; rw [if_neg h3, if_neg h1]
      have HT : Hid (leaveTo x t = 0) := by show _ = _; unfold leaveTo; rw [if_neg h3, if_neg h1]
      clear h3 h1
      go_enter Try.func73, Try.ntmps73
      go_wp2
      go_ret2
      exact ⟨by rw [H.out, HT.out]; rfl, rfl⟩

set_option maxRecDepth 100000 in
set_option maxHeartbeats 2000000 in
theorem rleave_any (x : Nat) (t : Int) (w : World) (hx : x < 18446744073709551616) :
    Calls Try.prog 104 #[.int .u64 (x : Int), .int .i64 t] w fun e w' => e = .returned (.tuple #[.int .u64 (leaveOf x t : Nat), .int .i64 (leaveTo x t)]) ∧ Below w.heap.size w w' := by
  by_cases h3 : t = 3
  · subst h3
    have HT : Hid (leaveTo x 3 = mppOf x) := by show _ = _; unfold leaveTo; rw [if_pos rfl]
    have H : Hid (leaveOf x 3 = if mppOf x = 3 then leaveM x else setB (leaveM x) 17 false) := by show _ = _; unfold leaveOf; rw [if_pos rfl]
    obtain ⟨m, hmm⟩ : ∃ m, m = mppOf x := ⟨_, rfl⟩
    rw [← hmm] at H
    have HP := Lib.hid hmm.symm
    clear hmm
    by_cases hm : m = 3
    · subst hm
      have H' : Hid (leaveOf x 3 = leaveM x) := by show _ = _; rw [H.out, if_pos rfl]
      clear H
      go_enter Try.func104, Try.ntmps104
      go_wp2_with fail
      refine (rmpp_any x _ hx).mono ?_
      rw [HP.out]
      rintro e w1 ⟨rfl, hb1⟩
      go_wp2_with fail
      refine (get_at (c := 7) (by omega) at_mpie x hx _).mono ?_
      rintro e w' ⟨rfl, rfl⟩
      go_wp2_with fail
      refine (put_at (c := 3) (by omega) at_mie x hx _ (x.testBit 7) rfl _).mono ?_
      rintro e w2 ⟨rfl, hb2⟩
      go_wp2_with fail
      refine (put_at (c := 7) (by omega) at_mpie _ (setB_lt _ _ _) 1 true rfl _).mono ?_
      rintro e w3 ⟨rfl, hb3⟩
      go_wp2_with fail
      refine (put_any _ 0 11 2 _ (setB_lt _ _ _) (by decide) b11 b2).mono ?_
      rintro e w4 ⟨rfl, hb4⟩
      go_wp2
      go_ret2
      exact ⟨by rw [H'.out, HT.out, HP.out]; rfl, (((((Fr.refl _).step hb1).step hb2).step hb3).step hb4).1⟩
    · have hne : (m != 3) = true := by simpa using hm
      have H' : Hid (leaveOf x 3 = setB (leaveM x) 17 false) := by show _ = _; rw [H.out, if_neg hm]
      clear hm H
      go_enter Try.func104, Try.ntmps104
      go_wp2_with fail
      refine (rmpp_any x _ hx).mono ?_
      rw [HP.out]
      rintro e w1 ⟨rfl, hb1⟩
      go_wp2_with fail
      refine (get_at (c := 7) (by omega) at_mpie x hx _).mono ?_
      rintro e w' ⟨rfl, rfl⟩
      go_wp2_with fail
      refine (put_at (c := 3) (by omega) at_mie x hx _ (x.testBit 7) rfl _).mono ?_
      rintro e w2 ⟨rfl, hb2⟩
      go_wp2_with fail
      refine (put_at (c := 7) (by omega) at_mpie _ (setB_lt _ _ _) 1 true rfl _).mono ?_
      rintro e w3 ⟨rfl, hb3⟩
      go_wp2_with fail
      refine (put_any _ 0 11 2 _ (setB_lt _ _ _) (by decide) b11 b2).mono ?_
      rintro e w4 ⟨rfl, hb4⟩
      go_wp2_with fail
      refine (put_at (c := 17) (by omega) at_mprv _ (W64_lt _) 0 false rfl _).mono ?_
      rintro e w5 ⟨rfl, hb5⟩
      go_wp2
      go_ret2
      exact ⟨by rw [H'.out, HT.out, HP.out]; rfl, ((((((Fr.refl _).step hb1).step hb2).step hb3).step hb4).step hb5).1⟩
  · have e3 : (t == 3) = false := by simpa using h3
    by_cases h1 : t = 1
    · subst h1
      have H : Hid (leaveOf x 1 = leaveS x) := by show _ = _; unfold leaveOf; rw [if_neg (by omega), if_pos rfl]
      have HT : Hid (leaveTo x 1 = ((x.testBit 8).toNat : Nat)) := by show _ = _; unfold leaveTo; rw [if_neg (by omega), if_pos rfl]; cases x.testBit 8 <;> rfl
      have h8 : ((x.testBit 8).toNat : Nat) ≤ 1 := by cases x.testBit 8 <;> decide
      clear h3
      go_enter Try.func104, Try.ntmps104
      go_wp2_with fail
      refine (get_at (c := 5) (by omega) at_spie x hx _).mono ?_
      rintro e w' ⟨rfl, rfl⟩
      go_wp2_with fail
      refine (put_at (c := 1) (by omega) at_sie x hx _ (x.testBit 5) rfl _).mono ?_
      rintro e w1 ⟨rfl, hb1⟩
      go_wp2_with fail
      refine (put_at (c := 5) (by omega) at_spie _ (setB_lt _ _ _) 1 true rfl _).mono ?_
      rintro e w2 ⟨rfl, hb2⟩
      go_wp2_with fail
      refine (put_at (c := 8) (by omega) at_spp _ (setB_lt _ _ _) 0 false rfl _).mono ?_
      rintro e w3 ⟨rfl, hb3⟩
      go_wp2_with fail
      refine (put_at (c := 17) (by omega) at_mprv _ (setB_lt _ _ _) 0 false rfl _).mono ?_
      rintro e w4 ⟨rfl, hb4⟩
      go_wp2_with fail
      refine (get_at (c := 8) (by omega) at_spp x hx _).mono ?_
      rintro e w' ⟨rfl, rfl⟩
      go_wp2
      go_ret2
      exact ⟨by rw [H.out, HT.out]; rfl, (((((Fr.refl _).step hb1).step hb2).step hb3).step hb4).1⟩
    · have e1 : (t == 1) = false := by simpa using h1
      have H : Hid (leaveOf x t = x) := by show _ = _; unfold leaveOf; rw [if_neg h3, if_neg h1]
      have HT : Hid (leaveTo x t = 0) := by show _ = _; unfold leaveTo; rw [if_neg h3, if_neg h1]
      clear h3 h1
      go_enter Try.func104, Try.ntmps104
      go_wp2
      go_ret2
      exact ⟨by rw [H.out, HT.out]; rfl, Below.refl _ _⟩

theorem leaveOf_lt (x : Nat) (t : Int) (hx : x < 18446744073709551616) : leaveOf x t < 18446744073709551616 := by
  unfold leaveOf
  split
  · split
    · exact setMpp_lt _ _
    · exact setB_lt _ _ _
  · split
    · exact setB_lt _ _ _
    · exact hx
end Go.Proofs.Ythkkfdhgpaonjaa
