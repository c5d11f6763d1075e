/- Layer 20: Enter and Leave, of the program and of the document. -/
import Derived.Test.YthkkfdhgpaonjaaStB
namespace Go.Proofs.Ythkkfdhgpaonjaa
open Go.RowKit
set_option linter.unusedSimpArgs false
set_option linter.unusedVariables false

/-- MPP laid. -/
def setMpp (x p : Nat) : Nat := W64 (putF x p 11 2)
theorem setMpp_lt (x p : Nat) : setMpp x p < 18446744073709551616 := W64_lt _
def enterM (x p : Nat) : Nat := setMpp (setB (setB x 7 (x.testBit 3)) 3 false) p
def enterS (x : Nat) (b : Bool) : Nat := setB (setB (setB x 5 (x.testBit 1)) 1 false) 8 b
def enterOf (x : Nat) (f t : Int) : Nat := if privB f = true then (if t = 3 then enterM x f.toNat else if t = 1 then enterS x (decide (f = 1)) else x) else x

theorem mpp_or (x p : Nat) (hx : x < 18446744073709551616) (hp : p < 4) :
    bits BinOp.or IntKind.u64 (bits BinOp.andNot IntKind.u64 (x : Int) 6144) ((p : Int) * 2048) = ((setMpp x p : Nat) : Int) := by
  have h1 := u64_andNot_nat x 6144 hx (by omega)
  have e1 : bits BinOp.andNot IntKind.u64 (x : Int) 6144 = ((x &&& (18446744073709551615 - 6144) : Nat) : Int) := h1
  rw [e1]
  have e2 : ((p : Int) * 2048) = ((p * 2048 : Nat) : Int) := by simp
  rw [e2, u64_or_nat _ _ (Nat.lt_of_le_of_lt Nat.and_le_left hx) (by omega)]
  congr 1
  refine W64_eq (Nat.or_lt_two_pow (n := 64) (Nat.lt_of_le_of_lt Nat.and_le_left hx) (by omega)) fun i hi => ?_
  rw [Nat.testBit_or, Nat.testBit_and]
  have hm : Nat.testBit (18446744073709551615 - 6144) i = (decide (i < 64) && !Nat.testBit 6144 i) := by
    have e : 18446744073709551615 - 6144 = 2 ^ 64 - (6144 + 1) := by omega
    rw [e, Nat.testBit_two_pow_sub_succ (by omega)]
  have hm2 : Nat.testBit 6144 i = (decide (i = 11) || decide (i = 12)) := by
    have e : 6144 = 2 ^ 11 + 2 ^ 12 := rfl
    by_cases h11 : i = 11
    · subst h11; rfl
    · by_cases h12 : i = 12
      · subst h12; rfl
      · have e : 6144 = 2 ^ 11 ||| 2 ^ 12 := rfl
        rw [e, Nat.testBit_or, Nat.testBit_two_pow, Nat.testBit_two_pow]
        have a1 : ¬ 11 = i := fun e => h11 e.symm
        have a2 : ¬ 12 = i := fun e => h12 e.symm
        simp [h11, h12, a1, a2]
  have hp2 : (p * 2048).testBit i = (decide (11 ≤ i) && p.testBit (i - 11)) := by
    have e : p * 2048 = p * 2 ^ 11 := rfl
    rw [e, Nat.testBit_mul_two_pow]
  rw [hm, hm2, hp2]
  unfold putF inB
  by_cases h11 : i = 11
  · subst h11; simp
  · by_cases h12 : i = 12
    · subst h12; simp
    · rw [if_neg (by simp; omega)]
      simp only [h11, h12, decide_false, Bool.or_false, Bool.not_false, Bool.and_true]
      by_cases hl : 11 ≤ i
      · have : p.testBit (i - 11) = false := Nat.testBit_lt_two_pow (Nat.lt_of_lt_of_le hp (Nat.pow_le_pow_right (n := 2) (i := 2) (by omega) (by omega)))
        rw [this]; simp [hi]
      · simp [hl, hi]

set_option maxRecDepth 100000 in
set_option maxHeartbeats 2000000 in
theorem enter_any (x : Nat) (f t : Int) (w : World) (hx : x < 18446744073709551616) :
    Calls Try.prog 67 #[.int .u64 (x : Int), .int .i64 f, .int .i64 t] w fun e w' => e = .returned (.int .u64 (enterOf x f t : Nat)) ∧ w = w' := by
  cases hp : privB f
  · have H : Hid (enterOf x f t = x) := by show _ = _; unfold enterOf; rw [hp]; simp
    have HP := Lib.hid hp
    clear hp
    go_enter Try.func67, Try.ntmps67
    go_wp2_with fail
    refine (privilege_any f _).mono ?_
    rw [HP.out]
    rintro e w' ⟨rfl, rfl⟩
    go_wp2
    go_ret
    exact ⟨val_u64 (by rw [H.out]), rfl⟩
  · have hpp : ∃ p : Nat, f = p ∧ p < 4 := ⟨f.toNat, by unfold privB at hp; simp at hp; omega, by unfold privB at hp; simp at hp; omega⟩
    obtain ⟨p, rfl, hp4⟩ := hpp
    have HP := Lib.hid hp
    by_cases h3 : t = 3
    · subst h3
      have H : Hid (enterOf x p 3 = enterM x p) := by show _ = _; unfold enterOf; rw [hp]; simp
      have HM := Lib.hid (mpp_or (setB (setB x 7 (x.testBit 3)) 3 false) p (setB_lt _ _ _) hp4)
      clear hp
      go_enter Try.func67, Try.ntmps67
      go_wp2_with fail
      refine (privilege_any _ _).mono ?_
      rw [HP.out]
      rintro e w' ⟨rfl, rfl⟩
      go_wp2_with fail
      refine (bit1_any x 3 _ hx (by omega)).mono ?_
      rintro e w' ⟨rfl, rfl⟩
      go_wp2_with fail
      refine (with_any x 7 _ _ hx (by omega)).mono ?_
      rintro e w' ⟨rfl, rfl⟩
      go_wp2_with fail
      refine (with_any _ 3 _ _ (setB_lt _ _ _) (by omega)).mono ?_
      rintro e w' ⟨rfl, rfl⟩
      go_wp2
      go_ret
      exact ⟨val_u64 (by rw [H.out]; exact HM.out), rfl⟩
    · have e3 : (t == 3) = false := by simpa using h3
      by_cases h1 : t = 1
      · subst h1
        have H : Hid (enterOf x p 1 = enterS x ((p : Int) == 1)) := by show _ = _; unfold enterOf; rw [hp]; simp; rfl
        clear hp h3
        go_enter Try.func67, Try.ntmps67
        go_wp2_with fail
        refine (privilege_any _ _).mono ?_
        rw [HP.out]
        rintro e w' ⟨rfl, rfl⟩
        go_wp2_with fail
        refine (bit1_any x 1 _ hx (by omega)).mono ?_
        rintro e w' ⟨rfl, rfl⟩
        go_wp2_with fail
        refine (with_any x 5 _ _ hx (by omega)).mono ?_
        rintro e w' ⟨rfl, rfl⟩
        go_wp2_with fail
        refine (with_any _ 1 _ _ (setB_lt _ _ _) (by omega)).mono ?_
        rintro e w' ⟨rfl, rfl⟩
        go_wp2_with fail
        refine (with_any _ 8 _ _ (setB_lt _ _ _) (by omega)).mono ?_
        rintro e w' ⟨rfl, rfl⟩
        go_wp2
        go_ret
        exact ⟨val_u64 (by rw [H.out]; rfl), rfl⟩
      · have e1 : (t == 1) = false := by simpa using h1
        have H : Hid (enterOf x p t = x) := by show _ = _; unfold enterOf; rw [hp, if_pos rfl, if_neg h3, if_neg h1]
        clear hp h3 h1
        go_enter Try.func67, Try.ntmps67
        go_wp2_with fail
        refine (privilege_any _ _).mono ?_
        rw [HP.out]
        rintro e w' ⟨rfl, rfl⟩
        go_wp2
        go_ret
        exact ⟨val_u64 (by rw [H.out]), rfl⟩
end Go.Proofs.Ythkkfdhgpaonjaa
