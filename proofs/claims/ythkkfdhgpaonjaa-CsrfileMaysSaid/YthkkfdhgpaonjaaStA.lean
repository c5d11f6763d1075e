/- Layer 20: names of bits, single bits of words, MPP. -/
import Derived.Test.YthkkfdhgpaonjaaRef01c
namespace Go.Proofs.Ythkkfdhgpaonjaa
open Go.RowKit
set_option linter.unusedSimpArgs false
set_option linter.unusedVariables false

/-- Where the bit of a name stands. -/
def atOf (l : List UInt8) : Int :=
  if (l == [115, 105, 101]) = true then 1 else
  if (l == [109, 105, 101]) = true then 3 else
  if (l == [115, 112, 105, 101]) = true then 5 else
  if (l == [109, 112, 105, 101]) = true then 7 else
  if (l == [115, 112, 112]) = true then 8 else
  if (l == [109, 112, 114, 118]) = true then 17 else
  if (l == [115, 117, 109]) = true then 18 else
  if (l == [109, 120, 114]) = true then 19 else
  if (l == [116, 118, 109]) = true then 20 else
  if (l == [116, 119]) = true then 21 else
  if (l == [116, 115, 114]) = true then 22 else
  -1

set_option maxRecDepth 100000 in
set_option maxHeartbeats 4000000 in
theorem at_any (s : ByteArray) (w : World) :
    Calls Try.prog 118 #[.string s] w fun e w' => e = .returned (.int .i64 (atOf s.toList)) ∧ w = w' := by
  go_enter Try.func118, Try.ntmps118
  go_wp2
  all_goals
    go_ret
    refine ⟨val_i64 ?_, rfl⟩
    unfold atOf
    simp only [*]
    rfl
theorem at_sie (w : World) : Calls Try.prog 118 #[.string ⟨#[115, 105, 101]⟩] w fun e w' => e = .returned (.int .i64 1) ∧ w = w' :=
  (at_any _ w).mono fun e w' ⟨he, hw⟩ => ⟨by rw [he]; simp only [ByteArray.toList_eq]; rfl, hw⟩
theorem at_mie (w : World) : Calls Try.prog 118 #[.string ⟨#[109, 105, 101]⟩] w fun e w' => e = .returned (.int .i64 3) ∧ w = w' :=
  (at_any _ w).mono fun e w' ⟨he, hw⟩ => ⟨by rw [he]; simp only [ByteArray.toList_eq]; rfl, hw⟩
theorem at_spie (w : World) : Calls Try.prog 118 #[.string ⟨#[115, 112, 105, 101]⟩] w fun e w' => e = .returned (.int .i64 5) ∧ w = w' :=
  (at_any _ w).mono fun e w' ⟨he, hw⟩ => ⟨by rw [he]; simp only [ByteArray.toList_eq]; rfl, hw⟩
theorem at_mpie (w : World) : Calls Try.prog 118 #[.string ⟨#[109, 112, 105, 101]⟩] w fun e w' => e = .returned (.int .i64 7) ∧ w = w' :=
  (at_any _ w).mono fun e w' ⟨he, hw⟩ => ⟨by rw [he]; simp only [ByteArray.toList_eq]; rfl, hw⟩
theorem at_spp (w : World) : Calls Try.prog 118 #[.string ⟨#[115, 112, 112]⟩] w fun e w' => e = .returned (.int .i64 8) ∧ w = w' :=
  (at_any _ w).mono fun e w' ⟨he, hw⟩ => ⟨by rw [he]; simp only [ByteArray.toList_eq]; rfl, hw⟩
theorem at_mprv (w : World) : Calls Try.prog 118 #[.string ⟨#[109, 112, 114, 118]⟩] w fun e w' => e = .returned (.int .i64 17) ∧ w = w' :=
  (at_any _ w).mono fun e w' ⟨he, hw⟩ => ⟨by rw [he]; simp only [ByteArray.toList_eq]; rfl, hw⟩
theorem at_sum (w : World) : Calls Try.prog 118 #[.string ⟨#[115, 117, 109]⟩] w fun e w' => e = .returned (.int .i64 18) ∧ w = w' :=
  (at_any _ w).mono fun e w' ⟨he, hw⟩ => ⟨by rw [he]; simp only [ByteArray.toList_eq]; rfl, hw⟩
theorem at_mxr (w : World) : Calls Try.prog 118 #[.string ⟨#[109, 120, 114]⟩] w fun e w' => e = .returned (.int .i64 19) ∧ w = w' :=
  (at_any _ w).mono fun e w' ⟨he, hw⟩ => ⟨by rw [he]; simp only [ByteArray.toList_eq]; rfl, hw⟩
theorem at_tvm (w : World) : Calls Try.prog 118 #[.string ⟨#[116, 118, 109]⟩] w fun e w' => e = .returned (.int .i64 20) ∧ w = w' :=
  (at_any _ w).mono fun e w' ⟨he, hw⟩ => ⟨by rw [he]; simp only [ByteArray.toList_eq]; rfl, hw⟩
theorem at_tw (w : World) : Calls Try.prog 118 #[.string ⟨#[116, 119]⟩] w fun e w' => e = .returned (.int .i64 21) ∧ w = w' :=
  (at_any _ w).mono fun e w' ⟨he, hw⟩ => ⟨by rw [he]; simp only [ByteArray.toList_eq]; rfl, hw⟩
theorem at_tsr (w : World) : Calls Try.prog 118 #[.string ⟨#[116, 115, 114]⟩] w fun e w' => e = .returned (.int .i64 22) ∧ w = w' :=
  (at_any _ w).mono fun e w' ⟨he, hw⟩ => ⟨by rw [he]; simp only [ByteArray.toList_eq]; rfl, hw⟩

/-- A word with one bit changed. -/
def setB (x k : Nat) (b : Bool) : Nat := W64 (fun i => if i = k then b else x.testBit i)
theorem setB_lt (x k : Nat) (b : Bool) : setB x k b < 18446744073709551616 := W64_lt _
theorem setB_bit (x k : Nat) (b : Bool) (i : Nat) : (setB x k b).testBit i = (decide (i < 64) && if i = k then b else x.testBit i) := mkW_bit _ 64 i
theorem W64_congr {f g : Nat → Bool} (h : ∀ i, i < 64 → f i = g i) : W64 f = W64 g := by
  apply Nat.eq_of_testBit_eq
  intro i
  rw [mkW_bit, mkW_bit]
  by_cases hi : i < 64
  · simp [hi, h i hi]
  · simp [hi]
theorem W64_eq {f : Nat → Bool} {y : Nat} (hy : y < 18446744073709551616) (h : ∀ i, i < 64 → y.testBit i = f i) : y = W64 f := by
  apply Nat.eq_of_testBit_eq
  intro i
  rw [mkW_bit]
  by_cases hi : i < 64
  · simp [hi, h i hi]
  · simp [hi, tb_big y hy i (by omega)]

theorem put_one (x : Nat) (k : Nat) (b : Bool) (hk : k < 64) : W64 (putF x b.toNat k 1) = setB x k b := by
  refine W64_congr fun i hi => ?_
  unfold putF inB
  by_cases h : i = k
  · subst h; cases b <;> simp
  · have : ¬ ((k : Int) ≤ i ∧ (i : Int) - k < 1) := by omega
    rw [if_neg h, if_neg (by simp; omega)]

theorem ones_lt (b : Bool) : b.toNat < 18446744073709551616 := by cases b <;> decide
theorem get_at {s : ByteArray} {c : Nat} (hc : c < 64) (h : ∀ w, Calls Try.prog 118 #[.string s] w fun e w' => e = .returned (.int .i64 (c : Int)) ∧ w = w') (x : Nat) (hx : x < 18446744073709551616) (w : World) :
    Calls Try.prog 93 #[.int .u64 (x : Int), .string s] w fun e w' => e = .returned (.int .u64 ((x.testBit c).toNat : Nat)) ∧ w = w' := by
  have hb : bitN x (c : Int) = (x.testBit c).toNat := by rw [bitN_big x hx _ (by omega)]; simp
  have HB := Lib.hid hb
  clear hb
  go_enter Try.func93, Try.ntmps93
  go_wp2_with fail
  refine (h _).mono ?_
  rintro e w' ⟨rfl, rfl⟩
  go_wp2_with fail
  refine (bit_v HB.out _ hx).mono ?_
  rintro e w' ⟨rfl, rfl⟩
  go_wp2
  go_ret
  exact ⟨rfl, rfl⟩
theorem put_at {s : ByteArray} {c : Nat} (hc : c < 64) (h : ∀ w, Calls Try.prog 118 #[.string s] w fun e w' => e = .returned (.int .i64 (c : Int)) ∧ w = w') (x : Nat) (hx : x < 18446744073709551616) (n : Nat) (b : Bool) (hn : n = b.toNat) (w : World) :
    Calls Try.prog 92 #[.int .u64 (x : Int), .string s, .int .u64 (n : Int)] w fun e w' => e = .returned (.int .u64 (setB x c b : Nat)) ∧ Below w.heap.size w w' := by
  subst hn
  have HP := Lib.hid (put_one x c b hc)
  have hcb : IntB (c : Int) := by unfold IntB; omega
  have h1b : IntB 1 := by unfold IntB; omega
  go_enter Try.func92, Try.ntmps92
  go_wp2_with fail
  refine (h _).mono ?_
  rintro e w' ⟨rfl, rfl⟩
  go_wp2_with fail
  refine (put_any x b.toNat c 1 _ hx (ones_lt b) hcb h1b).mono ?_
  rw [HP.out]
  rintro e w' ⟨rfl, hb⟩
  go_wp2
  go_ret
  exact ⟨rfl, hb⟩

theorem bit_test1 (x k : Nat) (hx : x < 18446744073709551616) : (bits BinOp.and IntKind.u64 ((x : Int) / 2 ^ k) 1 == 1) = x.testBit k := by
  have h := u64_and_nat (x / 2 ^ k) 1 (Nat.lt_of_le_of_lt (Nat.div_le_self _ _) hx) (by omega)
  have e : ((x : Int) / 2 ^ k) = ((x / 2 ^ k : Nat) : Int) := by simp
  rw [e]
  show (bits BinOp.and IntKind.u64 ((x / 2 ^ k : Nat) : Int) ((1 : Nat) : Int) == 1) = _
  rw [h, Nat.and_one_is_mod, Nat.testBit_eq_decide_div_mod_eq]
  generalize x / 2 ^ k % 2 = y
  rw [Bool.eq_iff_iff]
  simp
  omega

theorem bit1_any (x k : Nat) (w : World) (hx : x < 18446744073709551616) (hk : k < 64) :
    Calls Try.prog 107 #[.int .u64 (x : Int), .int .u64 (k : Int)] w fun e w' => e = .returned (.bool (x.testBit k)) ∧ w = w' := by
  have tb := bit_test1 x k hx
  go_enter Try.func107, Try.ntmps107
  go_wp2
  go_ret
  exact ⟨rfl, rfl⟩
end Go.Proofs.Ythkkfdhgpaonjaa
