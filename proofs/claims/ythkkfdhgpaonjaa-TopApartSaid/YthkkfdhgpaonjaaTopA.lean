/- T2: a supervisor's traps leave a machine's alone, and the other way. Plain. -/
import Derived.Test.YthkkfdhgpaonjaaMTr
import Derived.Test.YthkkfdhgpaonjaaIrD
namespace Go.Proofs.Ythkkfdhgpaonjaa
open Go.RowKit
set_option linter.unusedSimpArgs false
set_option linter.unusedVariables false

theorem entS_off1 {s : FS} {i : Bool} {c p : Int} {pc tv : Nat} (h : entTo s i c p = 1) (k : Nat) (h3 : k ≠ 3) (h4 : k ≠ 4) (h5 : k ≠ 5) (h7 : k ≠ 7) : (entS s i c p pc tv).g k = s.g k := by
  unfold entS
  rw [h, show epcN 1 = 321 from rfl, show causeN 1 = 322 from rfl, show tvalN 1 = 323 from rfl, setG_other _ _ _ _ h7, ent_g_1 _ _ _ _ _ h3 h4 h5]
theorem entS_off3 {s : FS} {i : Bool} {c p : Int} {pc tv : Nat} (h : entTo s i c p = 3) (k : Nat) (h3 : k ≠ 14) (h4 : k ≠ 15) (h5 : k ≠ 16) (h7 : k ≠ 7) : (entS s i c p pc tv).g k = s.g k := by
  unfold entS
  rw [h, show epcN 3 = 833 from rfl, show causeN 3 = 834 from rfl, show tvalN 3 = 835 from rfl, setG_other _ _ _ _ h7, ent_g_3 _ _ _ _ _ h3 h4 h5]
theorem entS_off {s : FS} {i : Bool} {c p : Int} {pc tv : Nat} (k : Nat) (h : k = 9 ∨ k = 10 ∨ k = 17) : (entS s i c p pc tv).g k = s.g k := by
  rcases entTo_13 s i c p with h1 | h1
  · exact entS_off1 h1 k (by omega) (by omega) (by omega) (by omega)
  · exact entS_off3 h1 k (by omega) (by omega) (by omega) (by omega)
/-- The others' registers: of a machine's traps where Super takes, of a supervisor's where Machine takes. -/
def otherN (tt : Int) (k : Nat) : Int := if tt = 3 then (if k = 0 then 321 else if k = 1 then 322 else 323) else (if k = 0 then 833 else if k = 1 then 834 else 835)
theorem others_same (s : FS) (i : Bool) (c p : Int) (pc tv k : Nat) (hk : k < 3) : getOf (entS s i c p pc tv) (otherN (entTo s i c p) k) 0 = getOf s (otherN (entTo s i c p) k) 0 := by
  have hk' : k = 0 ∨ k = 1 ∨ k = 2 := by omega
  rcases entTo_13 s i c p with h1 | h1
  · rw [h1]
    rcases hk' with rfl | rfl | rfl
    · show getOf _ 833 0 = getOf _ 833 0
      rw [getOf_plain own833 (by omega) (by omega) (by omega) (by omega) (by omega) (by omega) (by omega) (by omega), getOf_plain own833 (by omega) (by omega) (by omega) (by omega) (by omega) (by omega) (by omega) (by omega)]
      exact entS_off1 h1 14 (by omega) (by omega) (by omega) (by omega)
    · show getOf _ 834 0 = getOf _ 834 0
      rw [getOf_plain own834 (by omega) (by omega) (by omega) (by omega) (by omega) (by omega) (by omega) (by omega), getOf_plain own834 (by omega) (by omega) (by omega) (by omega) (by omega) (by omega) (by omega) (by omega)]
      exact entS_off1 h1 15 (by omega) (by omega) (by omega) (by omega)
    · show getOf _ 835 0 = getOf _ 835 0
      rw [getOf_plain own835 (by omega) (by omega) (by omega) (by omega) (by omega) (by omega) (by omega) (by omega), getOf_plain own835 (by omega) (by omega) (by omega) (by omega) (by omega) (by omega) (by omega) (by omega)]
      exact entS_off1 h1 16 (by omega) (by omega) (by omega) (by omega)
  · rw [h1]
    rcases hk' with rfl | rfl | rfl
    · show getOf _ 321 0 = getOf _ 321 0
      rw [getOf_plain own321 (by omega) (by omega) (by omega) (by omega) (by omega) (by omega) (by omega) (by omega), getOf_plain own321 (by omega) (by omega) (by omega) (by omega) (by omega) (by omega) (by omega) (by omega)]
      exact entS_off3 h1 3 (by omega) (by omega) (by omega) (by omega)
    · show getOf _ 322 0 = getOf _ 322 0
      rw [getOf_plain own322 (by omega) (by omega) (by omega) (by omega) (by omega) (by omega) (by omega) (by omega), getOf_plain own322 (by omega) (by omega) (by omega) (by omega) (by omega) (by omega) (by omega) (by omega)]
      exact entS_off3 h1 4 (by omega) (by omega) (by omega) (by omega)
    · show getOf _ 323 0 = getOf _ 323 0
      rw [getOf_plain own323 (by omega) (by omega) (by omega) (by omega) (by omega) (by omega) (by omega) (by omega), getOf_plain own323 (by omega) (by omega) (by omega) (by omega) (by omega) (by omega) (by omega) (by omega)]
      exact entS_off3 h1 5 (by omega) (by omega) (by omega) (by omega)
theorem enterM_b1 (x p : Nat) (hp : p = 0 ∨ p = 1 ∨ p = 3) : (enterM x p).testBit 1 = x.testBit 1 := by
  unfold enterM
  rw [setMpp_bit _ _ _ (by omega)]
  simp only [show (1 : Nat) < 64 by omega, decide_true, Bool.true_and]
  rw [if_neg (by omega), if_neg (by omega), setB_off _ _ _ _ (by omega) (by omega), setB_off _ _ _ _ (by omega) (by omega)]
theorem lets_back (x : Nat) (p t t' : Int) (hp : p = 0 ∨ p = 1 ∨ p = 3) (ht : t = 1 ∨ t = 3) (hpt : p ≤ t) : letsOf (leaveOf (enterOf x p t) t) p t' = letsOf x p t' := by
  rcases hp with rfl | rfl | rfl
  · simp [letsOf]
  · have hb : (leaveOf (enterOf x 1 t) t).testBit 1 = x.testBit 1 := by
      rcases ht with rfl | rfl
      · exact (back_s x true).2.2
      · show (leaveOf (enterM x 1) 3).testBit 1 = _
        have hm : mppOf (enterM x 1) = ((1 : Nat) : Int) := (back_m x 1 (by omega)).1
        unfold leaveOf
        rw [if_pos rfl, if_neg (by rw [hm]; omega), setB_off _ _ _ _ (by omega) (by omega), leaveM_bit _ _ (by omega) (by omega) (by omega) (by omega) (by omega)]
        exact enterM_b1 x 1 (by omega)
    unfold letsOf
    rw [hb]
    simp
  · have e : t = 3 := by omega
    subst e
    have hb : (leaveOf (enterOf x 3 3) 3).testBit 3 = x.testBit 3 := (back_m x 3 (by omega)).2.2
    unfold letsOf
    rw [hb]
    simp
theorem getOf_836 (s : FS) (L : Nat) : getOf s 836 L = s.g 17 ||| (L &&& lined) := rfl
theorem next_same {s s' : FS} {p : Int} {L : Nat} (h : ∀ t, letsOf (s'.g 7) p t = letsOf (s.g 7) p t) (h9 : s'.g 9 = s.g 9) (h10 : s'.g 10 = s.g 10) (h17 : s'.g 17 = s.g 17) : nextOf s' p L = nextOf s p L := by
  have e : waitOf s' L = waitOf s L := by unfold waitOf; rw [getOf_836, getOf_836, h10, h17]
  unfold nextOf supN machOf supOf
  rw [e, h, h, h9]
theorem lvS_off (s : FS) (t : Int) (k : Nat) (h : k ≠ 7) : (lvS s t).g k = s.g k := by
  unfold lvS
  split
  · exact setG_other _ _ _ _ h
  · rfl
theorem next_back {s : FS} {i : Bool} {c p : Int} {pc tv L : Nat} (hp : p = 0 ∨ p = 1 ∨ p = 3) : nextOf (lvS (entS s i c p pc tv) (entTo s i c p)) p L = nextOf s p L := by
  refine next_same (fun t => ?_) ?_ ?_ ?_
  · have e : (lvS (entS s i c p pc tv) (entTo s i c p)).g 7 = leaveOf (enterOf (s.g 7) p (entTo s i c p)) (entTo s i c p) := by
      unfold lvS
      rw [if_pos (entTo_13 s i c p), setG_same, ent_7]
    rw [e]
    exact lets_back _ _ _ _ hp (entTo_13 s i c p) (to_ge s i c p hp)
  · rw [lvS_off _ _ _ (by omega), entS_off 9 (by omega)]
  · rw [lvS_off _ _ _ (by omega), entS_off 10 (by omega)]
  · rw [lvS_off _ _ _ (by omega), entS_off 17 (by omega)]
theorem next_within {s : FS} {i : Bool} {c p y : Int} {pc tv L : Nat} (ok : OkF s) (hp : p = 0 ∨ p = 1 ∨ p = 3) (h : nextOf (entS s i c p pc tv) (entTo s i c p) L = some y) :
    toOf true y (entTo s i c p) 0 (getOf (entS s i c p pc tv) 771 0) ≠ entTo s i c p := by
  have ok1 : OkF (entS s i c p pc tv) := ok.ent _ _ _ _ _
  have hpr : privB p = true := by rcases hp with rfl | rfl | rfl <;> rfl
  have hge := to_ge s i c p hp
  have e7 := ent_7 s i c p pc tv
  rw [getOf_771, toOf_t]
  rcases entTo_13 s i c p with h1 | h1
  · rw [h1] at h e7 hge ⊢
    have hr := rises ok1 (Or.inr (Or.inl rfl)) h
    have hb : ((entS s i c p pc tv).g 7).testBit 1 = false := by
      rw [e7]
      have e1 : enterOf (s.g 7) p 1 = enterS (s.g 7) (decide (p = 1)) := by unfold enterOf; simp [hpr]
      rw [e1]
      exact (back_s _ _).2.1
    intro he
    have := hr.u rfl (by rw [toOf_t]; exact he)
    rw [hb] at this
    cases this
  · rw [h1] at h e7 ⊢
    have hr := rises ok1 (Or.inr (Or.inr rfl)) h
    have hb : ((entS s i c p pc tv).g 7).testBit 3 = false := by
      rw [e7]
      have e1 : enterOf (s.g 7) p 3 = enterM (s.g 7) p.toNat := by unfold enterOf; simp [hpr]
      rw [e1]
      exact (back_m _ _ (by omega)).2.1
    have := hr.m rfl
    rw [hb] at this
    cases this
end Go.Proofs.Ythkkfdhgpaonjaa
