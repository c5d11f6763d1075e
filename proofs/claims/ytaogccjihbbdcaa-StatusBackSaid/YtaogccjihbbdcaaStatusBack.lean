/- StatusBack: behind a trap and its return the privilege is the one that it came from. -/
import Derived.Test.YtaogccjihbbdcaaStG
namespace Go.Proofs.Ytaogccjihbbdcaa
open Go.RowKit
set_option linter.unusedSimpArgs false
set_option linter.unusedVariables false

theorem setMpp_bit (x p i : Nat) (hp : p < 4) : (setMpp x p).testBit i = (decide (i < 64) && if i = 11 then p.testBit 0 else if i = 12 then p.testBit 1 else x.testBit i) := by
  unfold setMpp
  rw [mkW_bit]
  by_cases hi : i < 64
  · simp only [hi, decide_true, Bool.true_and]
    unfold putF inB
    by_cases h1 : i = 11
    · subst h1; simp
    · by_cases h2 : i = 12
      · subst h2; simp
      · rw [if_neg h1, if_neg h2, if_neg (by simp; omega)]
  · simp [hi]

theorem back_m (x p : Nat) (hp : p = 0 ∨ p = 1 ∨ p = 3) :
    mppOf (enterM x p) = p ∧ (enterM x p).testBit 3 = false ∧ (leaveOf (enterM x p) 3).testBit 3 = x.testBit 3 := by
  have b : ∀ i, i < 64 → (enterM x p).testBit i = if i = 11 then p.testBit 0 else if i = 12 then p.testBit 1 else if i = 3 then false else if i = 7 then x.testBit 3 else x.testBit i := by
    intro i hi
    unfold enterM
    rw [setMpp_bit _ _ _ (by omega)]
    simp only [hi, decide_true, Bool.true_and]
    by_cases h1 : i = 11
    · rw [if_pos h1, if_pos h1]
    · by_cases h2 : i = 12
      · rw [if_neg h1, if_pos h2, if_neg h1, if_pos h2]
      · rw [if_neg h1, if_neg h2, if_neg h1, if_neg h2, setB_bit, setB_bit]
        simp [hi]
  refine ⟨?_, ?_, ?_⟩
  · unfold mppOf
    rw [b 12 (by omega), b 11 (by omega)]
    rcases hp with rfl | rfl | rfl <;> rfl
  · rw [b 3 (by omega)]; simp
  · have hl : (leaveM (enterM x p)).testBit 3 = x.testBit 3 := by
      unfold leaveM
      rw [setMpp_bit _ _ _ (by omega), setB_bit, setB_bit, b 7 (by omega)]
      simp
    unfold leaveOf
    rw [if_pos rfl]
    split
    · exact hl
    · rw [setB_bit, hl]; simp

theorem back_s (x : Nat) (q : Bool) : (enterS x q).testBit 8 = q ∧ (enterS x q).testBit 1 = false ∧ (leaveOf (enterS x q) 1).testBit 1 = x.testBit 1 := by
  unfold enterS
  refine ⟨?_, ?_, ?_⟩
  · rw [setB_bit]; simp
  · rw [setB_bit, setB_bit]; simp
  · unfold leaveOf leaveS
    rw [if_neg (by omega), if_pos rfl]
    simp only [setB_bit]
    simp

theorem has_mie (x : Nat) : hasOf x [109, 105, 101] = x.testBit 3 := rfl
theorem has_sie (x : Nat) : hasOf x [115, 105, 101] = x.testBit 1 := rfl

theorem viewM_bit (i : Nat) (hi : i < 64) : viewM.testBit i = (Nat.testBit 786722 i || decide (i = 33)) := by
  have : ∀ j : Fin 64, viewM.testBit j.1 = (Nat.testBit 786722 j.1 || decide (j.1 = 33)) := by decide +kernel
  exact this ⟨i, hi⟩

def allOnes : Nat := 18446744073709551615
def bit33 : Nat := 8589934592
theorem bit33_bit (i : Nat) (hi : i < 64) : bit33.testBit i = decide (i = 33) := by
  have : ∀ j : Fin 64, bit33.testBit j.1 = decide (j.1 = 33) := by decide +kernel
  exact this ⟨i, hi⟩
theorem ones_bit (i : Nat) (hi : i < 64) : allOnes.testBit i = true := by
  have : ∀ j : Fin 64, allOnes.testBit j.1 = true := by decide +kernel
  exact this ⟨i, hi⟩
theorem viewOf_lt (y : Nat) (hy : y < 18446744073709551616) : viewOf y < 18446744073709551616 := Nat.lt_of_le_of_lt Nat.and_le_left hy
theorem legal256 (x v : Nat) : legalOf 256 x v = blend x v 786722 := by
  unfold legalOf
  rw [if_neg (by omega), if_neg (by omega), mask256]
theorem blend_bit (x v m i : Nat) (hi : i < 64) : (blend x v m).testBit i = if m.testBit i then v.testBit i else x.testBit i := by
  unfold blend
  rw [mkW_bit]
  simp [hi]
theorem bits_ext {a b : Nat} (ha : a < 18446744073709551616) (hb : b < 18446744073709551616) (h : ∀ i, i < 64 → a.testBit i = b.testBit i) : a = b := by
  apply Nat.eq_of_testBit_eq
  intro i
  by_cases hi : i < 64
  · exact h i hi
  · rw [tb_big a ha i (by omega), tb_big b hb i (by omega)]
theorem view_bit (y i : Nat) : (viewOf y).testBit i = (y.testBit i && viewM.testBit i) := by
  unfold viewOf
  rw [Nat.testBit_and]
theorem view_bit' (y i : Nat) (hi : i < 64) : (viewOf y).testBit i = (y.testBit i && (Nat.testBit 786722 i || decide (i = 33))) := by
  rw [view_bit, viewM_bit i hi]
theorem legal_bit (x v i : Nat) (hi : i < 64) : (legalOf 256 x v).testBit i = (if Nat.testBit 786722 i = true then v.testBit i else x.testBit i) := by
  rw [legal256]
  exact blend_bit _ _ _ _ hi
theorem lay_bool (a b c m : Bool) : ((if m = true then a else b) && (m || c) && !c) = (a && (m || c) && !c) := by cases a <;> cases b <;> cases c <;> cases m <;> rfl
theorem lay_bool2 (a b c m : Bool) : ((if m = true then a else b) && !(true && (m || c))) = (b && !(true && (m || c))) := by cases a <;> cases b <;> cases c <;> cases m <;> rfl
theorem lay1 (x v : Nat) (hx : x < 18446744073709551616) (hv : v < 18446744073709551616) (m33 : Nat) (hm : m33 < 18446744073709551616) (h33 : ∀ i, i < 64 → m33.testBit i = decide (i = 33)) :
    viewOf (legalOf 256 x v) &&& (18446744073709551615 - m33) = viewOf v &&& (18446744073709551615 - m33) := by
  have hl := legalOf_lt 256 x v hx
  refine bits_ext (Nat.lt_of_le_of_lt Nat.and_le_left (viewOf_lt _ hl)) (Nat.lt_of_le_of_lt Nat.and_le_left (viewOf_lt _ hv)) fun i hi => ?_
  rw [Nat.testBit_and, Nat.testBit_and, inv_bit _ i hm hi, h33 i hi]
  rw [view_bit' _ _ hi, view_bit' _ _ hi, legal_bit _ _ _ hi]
  exact lay_bool _ _ _ _
theorem lay2 (x v : Nat) (hx : x < 18446744073709551616) (hv : v < 18446744073709551616) (a1 : Nat) (ha : a1 < 18446744073709551616) (h1 : ∀ i, i < 64 → a1.testBit i = true) :
    legalOf 256 x v &&& (18446744073709551615 - viewOf a1) = x &&& (18446744073709551615 - viewOf a1) := by
  have hl := legalOf_lt 256 x v hx
  refine bits_ext (Nat.lt_of_le_of_lt Nat.and_le_left hl) (Nat.lt_of_le_of_lt Nat.and_le_left hx) fun i hi => ?_
  rw [Nat.testBit_and, Nat.testBit_and, inv_bit _ i (viewOf_lt _ ha) hi]
  rw [view_bit' _ _ hi, h1 i hi, legal_bit _ _ _ hi]
  exact lay_bool2 _ _ _ _
theorem lay1' (x v : Nat) (hx : x < 18446744073709551616) (hv : v < 18446744073709551616) :
    bits BinOp.andNot IntKind.u64 ((viewOf (legalOf 256 x v) : Nat) : Int) ((bit33 : Nat) : Int) = bits BinOp.andNot IntKind.u64 ((viewOf v : Nat) : Int) ((bit33 : Nat) : Int) := by
  have h33 : bit33 < 18446744073709551616 := by unfold bit33; omega
  rw [u64_andNot_nat _ _ (viewOf_lt _ (legalOf_lt 256 x v hx)) h33, u64_andNot_nat _ _ (viewOf_lt _ hv) h33, lay1 x v hx hv bit33 h33 bit33_bit]
theorem lay2' (x v : Nat) (hx : x < 18446744073709551616) (hv : v < 18446744073709551616) :
    bits BinOp.andNot IntKind.u64 ((legalOf 256 x v : Nat) : Int) ((viewOf allOnes : Nat) : Int) = bits BinOp.andNot IntKind.u64 (x : Int) ((viewOf allOnes : Nat) : Int) := by
  have h1 : allOnes < 18446744073709551616 := by unfold allOnes; omega
  rw [u64_andNot_nat _ _ (legalOf_lt 256 x v hx) (viewOf_lt _ h1), u64_andNot_nat _ _ hx (viewOf_lt _ h1), lay2 x v hx hv allOnes h1 ones_bit]
end Go.Proofs.Ytaogccjihbbdcaa
