/- Layer 22: what a supervisor writes changes nothing that it doesn't see. Plain. -/
import Derived.Test.YthkkfdhgpaonjaaTrA
namespace Go.Proofs.Ythkkfdhgpaonjaa
open Go.RowKit
set_option linter.unusedSimpArgs false
set_option linter.unusedVariables false

def hidN (q : Nat) : Int := if q = 0 then 256 else if q = 1 then 260 else 324
def hidB (q : Nat) : Int := if q = 0 then 768 else if q = 1 then 772 else 836
def hidM (s : FS) (q : Nat) : Nat := if q = 0 then viewOf 18446744073709551615 else if q = 1 then s.g 9 else s.g 9 &&& 2
theorem own772' : ownIx 772 = some 10 := by decide +kernel
theorem get_772' (s : FS) : getOf s 772 0 = s.g 10 := getOf_plain own772' (by omega) (by omega) (by omega) (by omega) (by omega) (by omega) (by omega) (by omega)
theorem get_836' (s : FS) : getOf s 836 0 = s.g 17 := by
  have e : getOf s 836 0 = s.g 17 ||| (0 &&& lined) := by unfold getOf; rw [if_neg (by omega), if_neg (by omega), if_neg (by omega), if_pos rfl]
  rw [e, Nat.zero_and, Nat.or_zero]
theorem setG_id (s : FS) (i v : Nat) (h : v = s.g i) : setG s i v = s := by
  subst h
  cases s with
  | mk a g c d =>
    unfold setG
    congr 1
    funext j
    by_cases hj : j = i <;> simp [hj]
theorem blend_and (x m : Nat) (hx : x < 18446744073709551616) (k : Nat) (hk : ∀ i, i < 64 → m.testBit i = true → k.testBit i = true) : blend x (x &&& k) m = x := by
  refine Nat.eq_of_testBit_eq fun i => ?_
  by_cases hi : i < 64
  · rw [blend_bit _ _ _ _ hi]
    split
    · rename_i h; rw [Nat.testBit_and, hk i hi h, Bool.and_true]
    · rfl
  · have h1 := Nat.testBit_lt_two_pow (x := blend x (x &&& k) m) (i := i) (Nat.lt_of_lt_of_le (blend_lt x (x &&& k) m) (Nat.pow_le_pow_right (n := 2) (by omega) (show 64 ≤ i by omega)))
    have h2 := Nat.testBit_lt_two_pow (x := x) (i := i) (Nat.lt_of_lt_of_le hx (Nat.pow_le_pow_right (n := 2) (by omega) (show 64 ≤ i by omega)))
    rw [h1, h2]
theorem viewM_on : ∀ i, i < 64 → Nat.testBit 786722 i = true → viewM.testBit i = true := by decide +kernel
theorem hid_back (s : FS) (ok : OkF s) (q : Nat) (hq : q < 3) : setOf s (hidN q) (getOf s (hidN q) 0) = s := by
  have hq' : q = 0 ∨ q = 1 ∨ q = 2 := by omega
  rcases hq' with rfl | rfl | rfl
  · show setG s 7 (legalOf 256 (s.g 7) (viewOf (s.g 7))) = s
    refine setG_id _ _ _ ?_
    rw [legal256]
    exact blend_and _ _ (ok.g 7) _ viewM_on
  · show setG s 10 (blend (s.g 10) (s.g 10 &&& s.g 9) (s.g 9)) = s
    refine setG_id _ _ _ ?_
    exact blend_and _ _ (ok.g 10) _ (fun i _ h => h)
  · show setG s 17 (blend (s.g 17) ((s.g 17 ||| (0 &&& lined)) &&& s.g 9) (s.g 9 &&& 2)) = s
    refine setG_id _ _ _ ?_
    rw [Nat.zero_and, Nat.or_zero]
    refine blend_and _ _ (ok.g 17) _ (fun i _ h => ?_)
    rw [Nat.testBit_and, Bool.and_eq_true] at h
    exact h.1
theorem setG_get {s : FS} {i v : Nat} {k : Int} (h1 : i ≠ 7 ∨ k ≠ 256) (h2 : (i ≠ 10 ∧ i ≠ 9) ∨ k ≠ 260) (h3 : (i ≠ 17 ∧ i ≠ 9) ∨ k ≠ 324) (h4 : i ≠ 17 ∨ k ≠ 836) (h5 : i ≠ 20 ∨ k ≠ 3072) (h6 : i ≠ 21 ∨ k ≠ 3074)
    (h7 : own22.getD i 0 ≠ k) : getOf (setG s i v) k 0 = getOf s k 0 := by
  have off : ∀ j, i ≠ j → (setG s i v).g j = s.g j := fun j hj => setG_other _ _ _ _ (fun e => hj e.symm)
  unfold getOf
  by_cases e1 : k = 256
  · rw [if_pos e1, if_pos e1, off 7 (by omega)]
  rw [if_neg e1, if_neg e1]
  by_cases e2 : k = 260
  · rw [if_pos e2, if_pos e2, off 10 (by omega), off 9 (by omega)]
  rw [if_neg e2, if_neg e2]
  by_cases e3 : k = 324
  · rw [if_pos e3, if_pos e3, off 17 (by omega), off 9 (by omega)]
  rw [if_neg e3, if_neg e3]
  by_cases e4 : k = 836
  · rw [if_pos e4, if_pos e4, off 17 (by omega)]
  rw [if_neg e4, if_neg e4]
  by_cases e5 : k = 769
  · rw [if_pos e5, if_pos e5]
  rw [if_neg e5, if_neg e5]
  by_cases e6 : k = 3072
  · rw [if_pos e6, if_pos e6, off 20 (by omega)]
  rw [if_neg e6, if_neg e6]
  by_cases e7 : k = 3074
  · rw [if_pos e7, if_pos e7, off 21 (by omega)]
  rw [if_neg e7, if_neg e7]
  by_cases e8 : k = 3860
  · rw [if_pos e8, if_pos e8]; rfl
  rw [if_neg e8, if_neg e8]
  cases ho : ownIx k with
  | none => rfl
  | some j =>
    have hj := ownIx_lt ho
    refine off j ?_
    rintro rfl
    exact h7 hj.2
theorem hid_row (s : FS) (v : Nat) (k : Int) (q : Nat) (hq : q < 3) (hn : k ≠ hidN q) (hb : k ≠ hidB q) : getOf (setOf s (hidN q) v) k 0 = getOf s k 0 := by
  have hq' : q = 0 ∨ q = 1 ∨ q = 2 := by omega
  rcases hq' with rfl | rfl | rfl
  · have hn' : k ≠ 256 := hn
    have hb' : k ≠ 768 := hb
    exact setG_get (Or.inr hn') (Or.inl (by omega)) (Or.inl (by omega)) (Or.inl (by omega)) (Or.inl (by omega)) (Or.inl (by omega)) (fun e => hb' e.symm)
  · have hn' : k ≠ 260 := hn
    have hb' : k ≠ 772 := hb
    exact setG_get (Or.inl (by omega)) (Or.inr hn') (Or.inl (by omega)) (Or.inl (by omega)) (Or.inl (by omega)) (Or.inl (by omega)) (fun e => hb' e.symm)
  · have hn' : k ≠ 324 := hn
    have hb' : k ≠ 836 := hb
    exact setG_get (Or.inl (by omega)) (Or.inl (by omega)) (Or.inr hn') (Or.inr hb') (Or.inl (by omega)) (Or.inl (by omega)) (fun e => hb' e.symm)
theorem hidM_lt (s : FS) (ok : OkF s) (q : Nat) : hidM s q < 18446744073709551616 := by
  unfold hidM
  split
  · decide +kernel
  · split
    · exact ok.g 9
    · exact and_lt (ok.g 9)
theorem blend_off (x v m k : Nat) (hx : x < 18446744073709551616) (hk : k < 18446744073709551616) (hmk : ∀ i, i < 64 → m.testBit i = true → k.testBit i = true) : bits BinOp.andNot IntKind.u64 (bits BinOp.xor IntKind.u64 (x : Int) (blend x v m : Int)) (k : Int) = 0 := by
  rw [u64_xor_nat _ _ hx (blend_lt _ _ _), u64_andNot_nat _ _ (Nat.xor_lt_two_pow (n := 64) hx (blend_lt _ _ _)) hk]
  have e : (x ^^^ blend x v m) &&& (18446744073709551615 - k) = 0 := by
    refine Nat.eq_of_testBit_eq fun i => ?_
    rw [Nat.zero_testBit, Nat.testBit_and, Nat.testBit_xor]
    by_cases hi : i < 64
    · have hs : (18446744073709551615 - k).testBit i = !k.testBit i := by
        have := Nat.testBit_two_pow_sub_succ (x := k) (n := 64) hk i
        simpa [hi] using this
      rw [blend_bit _ _ _ _ hi, hs]
      by_cases hm : m.testBit i = true
      · rw [hmk i hi hm]; simp
      · rw [if_neg hm]; simp
    · have h2 := Nat.testBit_lt_two_pow (x := 18446744073709551615 - k) (i := i) (Nat.lt_of_lt_of_le (show 18446744073709551615 - k < 2 ^ 64 by omega) (Nat.pow_le_pow_right (n := 2) (by omega) (show 64 ≤ i by omega)))
      rw [h2, Bool.and_false]
  rw [e]
  rfl
theorem view_on : ∀ i, i < 64 → Nat.testBit 786722 i = true → (viewOf 18446744073709551615).testBit i = true := by decide +kernel
theorem hb_a (s : FS) (v : Nat) : getOf (setG s 7 v) 768 0 = v := by rw [getOf_768, setG_same]
theorem hb_b (s : FS) (v : Nat) : getOf (setG s 10 v) 772 0 = v := by rw [get_772', setG_same]
theorem hb_c (s : FS) (v : Nat) : getOf (setG s 17 v) 836 0 = v := by rw [get_836', setG_same]
theorem hid_beh0 (s : FS) (ok : OkF s) (v : Nat) : bits BinOp.andNot IntKind.u64 (bits BinOp.xor IntKind.u64 (getOf s 768 0 : Int) (getOf (setOf s 256 v) 768 0 : Int)) (viewOf 18446744073709551615 : Int) = 0 := by
  have hm := hidM_lt s ok 0
  have e2 : setOf s 256 v = setG s 7 (legalOf 256 (s.g 7) v) := by unfold setOf; rw [if_pos rfl]
  rw [e2, hb_a, getOf_768, legal256]
  exact blend_off _ _ _ _ (ok.g 7) hm view_on
theorem hid_beh1 (s : FS) (ok : OkF s) (v : Nat) : bits BinOp.andNot IntKind.u64 (bits BinOp.xor IntKind.u64 (getOf s 772 0 : Int) (getOf (setOf s 260 v) 772 0 : Int)) (s.g 9 : Int) = 0 := by
  have e2 : setOf s 260 v = setG s 10 (blend (s.g 10) v (s.g 9)) := by unfold setOf; rw [if_neg (by omega), if_pos rfl]
  rw [e2, hb_b, get_772']
  exact blend_off _ _ _ _ (ok.g 10) (ok.g 9) (fun i _ h => h)
theorem hid_beh2 (s : FS) (ok : OkF s) (v : Nat) : bits BinOp.andNot IntKind.u64 (bits BinOp.xor IntKind.u64 (getOf s 836 0 : Int) (getOf (setOf s 324 v) 836 0 : Int)) ((s.g 9 &&& 2 : Nat) : Int) = 0 := by
  have e2 : setOf s 324 v = setG s 17 (blend (s.g 17) v (s.g 9 &&& 2)) := by unfold setOf; rw [if_neg (by omega), if_neg (by omega), if_pos rfl]
  rw [e2, hb_c, get_836']
  exact blend_off _ _ _ _ (ok.g 17) (and_lt (ok.g 9)) (fun i _ h => h)
end Go.Proofs.Ythkkfdhgpaonjaa
