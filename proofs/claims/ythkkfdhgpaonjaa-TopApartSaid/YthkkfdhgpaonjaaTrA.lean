/- Layer 23: what entering and returning make of a file. Plain; and trap.Vector, groupOf, lay. -/
import Derived.Test.YthkkfdhgpaonjaaCfO
import Derived.Test.YthkkfdhgpaonjaaTabF
import Derived.Test.YthkkfdhgpaonjaaMTab
import Derived.Test.YthkkfdhgpaonjaaMSv
namespace Go.Proofs.Ythkkfdhgpaonjaa
open Go.RowKit
set_option linter.unusedSimpArgs false
set_option linter.unusedVariables false

def vecOf (t : Nat) (i : Bool) (c : Int) : Nat := if t % 2 = 1 ∧ i = true ∧ 0 ≤ c ∧ c ≤ 63 then (t / 4 * 4 + 4 * c.toNat) % 18446744073709551616 else t / 4 * 4
theorem vecOf_lt (t : Nat) (i : Bool) (c : Int) (ht : t < 18446744073709551616) : vecOf t i c < 18446744073709551616 := by unfold vecOf; split <;> omega
theorem vec_no {t : Nat} {i : Bool} {c : Int} (h : ¬ (t % 2 = 1 ∧ i = true ∧ 0 ≤ c ∧ c ≤ 63)) : vecOf t i c = t / 4 * 4 := by unfold vecOf; rw [if_neg h]
theorem vec_yes {t : Nat} {i : Bool} {c : Int} (h : t % 2 = 1 ∧ i = true ∧ 0 ≤ c ∧ c ≤ 63) : vecOf t i c = (t / 4 * 4 + 4 * c.toNat) % 18446744073709551616 := by unfold vecOf; rw [if_pos h]
/-- The registers of a privilege's traps. -/
def epcN (to : Int) : Int := if to = 1 then 321 else 833
def causeN (to : Int) : Int := if to = 1 then 322 else 834
def tvalN (to : Int) : Int := if to = 1 then 323 else 835
def tvecN (to : Int) : Int := if to = 1 then 261 else 773
def entTo (s : FS) (i : Bool) (c p : Int) : Int := toOf i c p (s.g 8) (s.g 9)
def entS (s : FS) (i : Bool) (c p : Int) (pc tv : Nat) : FS :=
  setG (setOf (setOf (setOf s (epcN (entTo s i c p)) pc) (causeN (entTo s i c p)) (wordOf i c)) (tvalN (entTo s i c p)) tv) 7 (enterOf (s.g 7) p (entTo s i c p))
def entV (s : FS) (i : Bool) (c p : Int) : Nat := vecOf (getOf s (tvecN (entTo s i c p)) 0) i c
def lvS (s : FS) (t : Int) : FS := if t = 1 ∨ t = 3 then setG s 7 (leaveOf (s.g 7) t) else s
def lvTo (s : FS) (t : Int) : Int := if t = 1 ∨ t = 3 then leaveTo (s.g 7) t else 0
def lvPc (s : FS) (t : Int) : Nat := if t = 1 ∨ t = 3 then getOf s (epcN t) 0 else 0
theorem toOf_13 (i : Bool) (c p : Int) (d e : Nat) : toOf i c p d e = 1 ∨ toOf i c p d e = 3 := by
  unfold toOf
  rcases Decidable.em (p ≠ 3 ∧ bitN (if i = true then e else d) c = 1) with h | h
  · exact Or.inl (if_pos h)
  · exact Or.inr (if_neg h)
theorem entTo_13 (s : FS) (i : Bool) (c p : Int) : entTo s i c p = 1 ∨ entTo s i c p = 3 := toOf_13 _ _ _ _ _
theorem wordOf_lt (i : Bool) (c : Int) : wordOf i c < 18446744073709551616 := by unfold wordOf top63; split <;> split <;> omega

/-- What a legal write into mstatus keeps. -/
theorem legal_keep (x v : Nat) (hx : x < 18446744073709551616) (hv : v < 18446744073709551616) (hout : ∀ i, i < 64 → Nat.testBit 8264106 i = false → v.testBit i = x.testBit i) (hm : ¬ (v.testBit 12 = true ∧ v.testBit 11 = false) ∨ (v.testBit 12 = x.testBit 12 ∧ v.testBit 11 = x.testBit 11)) :
    legalOf 768 x v = v := by
  have hb : blend x v (mask19 768) = v := by
    rw [mask768]
    refine ext64 (blend_lt _ _ _) hv fun i hi => ?_
    rw [bblend_bit _ _ _ i hi]
    cases h : Nat.testBit 8264106 i
    · simp [hout i hi h]
    · simp
  unfold legalOf
  rw [if_pos rfl, hb]
  split
  · rename_i h
    rcases hm with hm | ⟨h1, h2⟩
    · exact (hm h).elim
    · refine ext64 (mppFix_lt _ _) hv fun i hi => ?_
      rw [bfix_bit _ _ _ hi]
      split
      · rename_i hh
        rcases hh with rfl | rfl
        · exact h2.symm
        · exact h1.symm
      · rfl
  · rfl
theorem m768_bits : ∀ i, i < 64 → Nat.testBit 8264106 i = false → i ≠ 1 ∧ i ≠ 3 ∧ i ≠ 5 ∧ i ≠ 7 ∧ i ≠ 8 ∧ i ≠ 11 ∧ i ≠ 12 ∧ i ≠ 17 := by decide +kernel
theorem enterOf_lt (x : Nat) (f t : Int) (hx : x < 18446744073709551616) : enterOf x f t < 18446744073709551616 := by
  unfold enterOf
  split
  · split
    · exact setMpp_lt _ _
    · split
      · exact setB_lt _ _ _
      · exact hx
  · exact hx
theorem setB_off (x k : Nat) (b : Bool) (i : Nat) (hi : i < 64) (h : i ≠ k) : (setB x k b).testBit i = x.testBit i := by
  rw [setB_bit]; simp [hi, h]
theorem legal_enter (x : Nat) (f t : Int) (hx : x < 18446744073709551616) : legalOf 768 x (enterOf x f t) = enterOf x f t := by
  unfold enterOf
  cases hp : privB f
  · simpa using legal_self 768 x hx
  simp only [if_true]
  have hf : f = 0 ∨ f = 1 ∨ f = 3 := by unfold privB at hp; simp at hp; omega
  split
  · have hp4 : f.toNat < 4 := by omega
    refine legal_keep x _ hx (setMpp_lt _ _) (fun i hi hm => ?_) (Or.inl ?_)
    · obtain ⟨h1, h3, h5, h7, h8, h11, h12, h17⟩ := m768_bits i hi hm
      unfold enterM
      rw [setMpp_bit _ _ _ hp4]
      simp only [hi, decide_true, Bool.true_and]
      rw [if_neg h11, if_neg h12, setB_off _ _ _ _ hi h3, setB_off _ _ _ _ hi h7]
    · have e12 : (enterM x f.toNat).testBit 12 = f.toNat.testBit 1 := by unfold enterM; rw [setMpp_bit _ _ _ hp4]; simp
      have e11 : (enterM x f.toNat).testBit 11 = f.toNat.testBit 0 := by unfold enterM; rw [setMpp_bit _ _ _ hp4]; simp
      rw [e12, e11]
      rcases hf with rfl | rfl | rfl <;> decide
  · split
    · refine legal_keep x _ hx (setB_lt _ _ _) (fun i hi hm => ?_) (Or.inr ?_)
      · obtain ⟨h1, h3, h5, h7, h8, h11, h12, h17⟩ := m768_bits i hi hm
        unfold enterS
        rw [setB_off _ _ _ _ hi h8, setB_off _ _ _ _ hi h1, setB_off _ _ _ _ hi h5]
      · unfold enterS
        constructor <;> rw [setB_off _ _ _ _ (by omega) (by omega), setB_off _ _ _ _ (by omega) (by omega), setB_off _ _ _ _ (by omega) (by omega)]
    · exact legal_self 768 x hx
theorem leaveM_bit (x i : Nat) (hi : i < 64) (h3 : i ≠ 3) (h7 : i ≠ 7) (h11 : i ≠ 11) (h12 : i ≠ 12) : (leaveM x).testBit i = x.testBit i := by
  unfold leaveM
  rw [setMpp_bit _ _ _ (by omega)]
  simp only [hi, decide_true, Bool.true_and]
  rw [if_neg h11, if_neg h12, setB_off _ _ _ _ hi h7, setB_off _ _ _ _ hi h3]
theorem leaveM_12 (x : Nat) : (leaveM x).testBit 12 = false := by
  unfold leaveM
  rw [setMpp_bit _ _ _ (by omega)]; rfl
theorem legal_leave (x : Nat) (t : Int) (hx : x < 18446744073709551616) : legalOf 768 x (leaveOf x t) = leaveOf x t := by
  have hlt := leaveOf_lt x t hx
  unfold leaveOf at hlt ⊢
  split
  · rename_i h3
    rw [if_pos h3] at hlt
    split
    · rename_i hm
      rw [if_pos hm] at hlt
      refine legal_keep x _ hx hlt (fun i hi hb => ?_) (Or.inl ?_)
      · obtain ⟨h1, h3, h5, h7, h8, h11, h12, h17⟩ := m768_bits i hi hb
        exact leaveM_bit x i hi h3 h7 h11 h12
      · rw [leaveM_12]; simp
    · refine legal_keep x _ hx (setB_lt _ _ _) (fun i hi hb => ?_) (Or.inl ?_)
      · obtain ⟨h1, h3, h5, h7, h8, h11, h12, h17⟩ := m768_bits i hi hb
        rw [setB_off _ _ _ _ hi h17]
        exact leaveM_bit x i hi h3 h7 h11 h12
      · rw [setB_off _ _ _ _ (by omega) (by omega), leaveM_12]; simp
  · split
    · refine legal_keep x _ hx (setB_lt _ _ _) (fun i hi hb => ?_) (Or.inr ?_)
      · obtain ⟨h1, h3, h5, h7, h8, h11, h12, h17⟩ := m768_bits i hi hb
        unfold leaveS
        rw [setB_off _ _ _ _ hi h17, setB_off _ _ _ _ hi h8, setB_off _ _ _ _ hi h5, setB_off _ _ _ _ hi h1]
      · unfold leaveS
        constructor <;> rw [setB_off _ _ _ _ (by omega) (by omega), setB_off _ _ _ _ (by omega) (by omega), setB_off _ _ _ _ (by omega) (by omega), setB_off _ _ _ _ (by omega) (by omega)]
    · exact legal_self 768 x hx
theorem setOf_768 (s : FS) (v : Nat) : setOf s 768 v = setG s 7 (legalOf 768 (s.g 7) v) := rfl
theorem getOf_768 (s : FS) (L : Nat) : getOf s 768 L = s.g 7 := rfl
theorem getOf_770 (s : FS) (L : Nat) : getOf s 770 L = s.g 8 := rfl
theorem getOf_771 (s : FS) (L : Nat) : getOf s 771 L = s.g 9 := rfl
theorem own321 : ownIx 321 = some 3 := by decide +kernel
theorem own322 : ownIx 322 = some 4 := by decide +kernel
theorem own323 : ownIx 323 = some 5 := by decide +kernel
theorem own261 : ownIx 261 = some 0 := by decide +kernel
theorem own833 : ownIx 833 = some 14 := by decide +kernel
theorem own834 : ownIx 834 = some 15 := by decide +kernel
theorem own835 : ownIx 835 = some 16 := by decide +kernel
theorem own773 : ownIx 773 = some 11 := by decide +kernel
/-- A plain CSR's write and read. -/
theorem setOf_plain {s : FS} {n : Int} {i v : Nat} (h : ownIx n = some i) (h1 : n ≠ 256) (h2 : n ≠ 260) (h3 : n ≠ 324) (h4 : n ≠ 2816) (h5 : n ≠ 2818) : setOf s n v = setG s i (legalOf n (s.g i) v) := by
  unfold setOf; rw [if_neg h1, if_neg h2, if_neg h3, if_neg h4, if_neg h5, h]
theorem getOf_plain {s : FS} {n : Int} {i L : Nat} (h : ownIx n = some i) (h1 : n ≠ 256) (h2 : n ≠ 260) (h3 : n ≠ 324) (h4 : n ≠ 836) (h5 : n ≠ 769) (h6 : n ≠ 3072) (h7 : n ≠ 3074) (h8 : n ≠ 3860) : getOf s n L = s.g i := by
  unfold getOf; rw [if_neg h1, if_neg h2, if_neg h3, if_neg h4, if_neg h5, if_neg h6, if_neg h7, if_neg h8, h]
theorem setG_same (s : FS) (i v : Nat) : (setG s i v).g i = v := by unfold setG; simp
theorem setG_other (s : FS) (i j v : Nat) (h : j ≠ i) : (setG s i v).g j = s.g j := by unfold setG; simp [h]
theorem ent_g_1 (s : FS) (a b c : Nat) (k : Nat) (h0 : k ≠ 3) (h1 : k ≠ 4) (h2 : k ≠ 5) : (setOf (setOf (setOf s 321 a) 322 b) 323 c).g k = s.g k := by
  rw [setOf_plain own323 (by omega) (by omega) (by omega) (by omega) (by omega), setG_other _ _ _ _ h2, setOf_plain own322 (by omega) (by omega) (by omega) (by omega) (by omega), setG_other _ _ _ _ h1, setOf_plain own321 (by omega) (by omega) (by omega) (by omega) (by omega), setG_other _ _ _ _ h0]
theorem entS_1 {s : FS} {i : Bool} {c p : Int} {pc tv : Nat} (ok : OkF s) (h : toOf i c p (s.g 8) (s.g 9) = 1) : entS s i c p pc tv = setOf (setOf (setOf (setOf s 321 pc) 322 (wordOf i c)) 323 tv) 768 (enterOf (getOf (setOf (setOf (setOf s 321 pc) 322 (wordOf i c)) 323 tv) 768 0) p 1) := by
  have HT : entTo s i c p = 1 := h
  unfold entS
  rw [HT, show epcN 1 = 321 from rfl, show causeN 1 = 322 from rfl, show tvalN 1 = 323 from rfl, getOf_768, setOf_768, ent_g_1 _ _ _ _ 7 (by omega) (by omega) (by omega), legal_enter _ _ _ (ok.g 7)]
theorem entV_1 {s : FS} {i : Bool} {c p : Int} {a b d x : Nat} (h : toOf i c p (s.g 8) (s.g 9) = 1) : entV s i c p = vecOf (getOf (setOf (setOf (setOf (setOf s 321 a) 322 b) 323 d) 768 x) 261 0) i c := by
  have HT : entTo s i c p = 1 := h
  unfold entV
  rw [HT, show tvecN 1 = 261 from rfl, getOf_plain own261 (by omega) (by omega) (by omega) (by omega) (by omega) (by omega) (by omega) (by omega), getOf_plain own261 (by omega) (by omega) (by omega) (by omega) (by omega) (by omega) (by omega) (by omega), setOf_768, setG_other _ _ _ _ (by omega), ent_g_1 _ _ _ _ 0 (by omega) (by omega) (by omega)]
theorem ent_g_3 (s : FS) (a b c : Nat) (k : Nat) (h0 : k ≠ 14) (h1 : k ≠ 15) (h2 : k ≠ 16) : (setOf (setOf (setOf s 833 a) 834 b) 835 c).g k = s.g k := by
  rw [setOf_plain own835 (by omega) (by omega) (by omega) (by omega) (by omega), setG_other _ _ _ _ h2, setOf_plain own834 (by omega) (by omega) (by omega) (by omega) (by omega), setG_other _ _ _ _ h1, setOf_plain own833 (by omega) (by omega) (by omega) (by omega) (by omega), setG_other _ _ _ _ h0]
theorem entS_3 {s : FS} {i : Bool} {c p : Int} {pc tv : Nat} (ok : OkF s) (h : toOf i c p (s.g 8) (s.g 9) = 3) : entS s i c p pc tv = setOf (setOf (setOf (setOf s 833 pc) 834 (wordOf i c)) 835 tv) 768 (enterOf (getOf (setOf (setOf (setOf s 833 pc) 834 (wordOf i c)) 835 tv) 768 0) p 3) := by
  have HT : entTo s i c p = 3 := h
  unfold entS
  rw [HT, show epcN 3 = 833 from rfl, show causeN 3 = 834 from rfl, show tvalN 3 = 835 from rfl, getOf_768, setOf_768, ent_g_3 _ _ _ _ 7 (by omega) (by omega) (by omega), legal_enter _ _ _ (ok.g 7)]
theorem entV_3 {s : FS} {i : Bool} {c p : Int} {a b d x : Nat} (h : toOf i c p (s.g 8) (s.g 9) = 3) : entV s i c p = vecOf (getOf (setOf (setOf (setOf (setOf s 833 a) 834 b) 835 d) 768 x) 773 0) i c := by
  have HT : entTo s i c p = 3 := h
  unfold entV
  rw [HT, show tvecN 3 = 773 from rfl, getOf_plain own773 (by omega) (by omega) (by omega) (by omega) (by omega) (by omega) (by omega) (by omega), getOf_plain own773 (by omega) (by omega) (by omega) (by omega) (by omega) (by omega) (by omega) (by omega), setOf_768, setG_other _ _ _ _ (by omega), ent_g_3 _ _ _ _ 11 (by omega) (by omega) (by omega)]
theorem to_getOf (s : FS) (i : Bool) (c p : Int) : toOf i c p (getOf s 770 0) (getOf s 771 0) = toOf i c p (s.g 8) (s.g 9) := by rw [getOf_770, getOf_771]
theorem entS_1r {s : FS} {i : Bool} {c p : Int} {pc tv : Nat} (h : toOf i c p (s.g 8) (s.g 9) = 1) : entS s i c p pc tv = setG (setOf (setOf (setOf s 321 pc) 322 (wordOf i c)) 323 tv) 7 (enterOf ((setOf (setOf (setOf s 321 pc) 322 (wordOf i c)) 323 tv).g 7) p 1) := by
  have HT : entTo s i c p = 1 := h
  unfold entS
  rw [HT, show epcN 1 = 321 from rfl, show causeN 1 = 322 from rfl, show tvalN 1 = 323 from rfl, ent_g_1 _ _ _ _ 7 (by omega) (by omega) (by omega)]
theorem entV_1r {s : FS} {i : Bool} {c p : Int} {a b d x : Nat} (h : toOf i c p (s.g 8) (s.g 9) = 1) : entV s i c p = vecOf ((setG (setOf (setOf (setOf s 321 a) 322 b) 323 d) 7 x).g 0) i c := by
  have HT : entTo s i c p = 1 := h
  unfold entV
  rw [HT, show tvecN 1 = 261 from rfl, getOf_plain own261 (by omega) (by omega) (by omega) (by omega) (by omega) (by omega) (by omega) (by omega), setG_other _ _ _ _ (by omega), ent_g_1 _ _ _ _ 0 (by omega) (by omega) (by omega)]
theorem entS_3r {s : FS} {i : Bool} {c p : Int} {pc tv : Nat} (h : toOf i c p (s.g 8) (s.g 9) = 3) : entS s i c p pc tv = setG (setOf (setOf (setOf s 833 pc) 834 (wordOf i c)) 835 tv) 7 (enterOf ((setOf (setOf (setOf s 833 pc) 834 (wordOf i c)) 835 tv).g 7) p 3) := by
  have HT : entTo s i c p = 3 := h
  unfold entS
  rw [HT, show epcN 3 = 833 from rfl, show causeN 3 = 834 from rfl, show tvalN 3 = 835 from rfl, ent_g_3 _ _ _ _ 7 (by omega) (by omega) (by omega)]
theorem entV_3r {s : FS} {i : Bool} {c p : Int} {a b d x : Nat} (h : toOf i c p (s.g 8) (s.g 9) = 3) : entV s i c p = vecOf ((setG (setOf (setOf (setOf s 833 a) 834 b) 835 d) 7 x).g 11) i c := by
  have HT : entTo s i c p = 3 := h
  unfold entV
  rw [HT, show tvecN 3 = 773 from rfl, getOf_plain own773 (by omega) (by omega) (by omega) (by omega) (by omega) (by omega) (by omega) (by omega), setG_other _ _ _ _ (by omega), ent_g_3 _ _ _ _ 11 (by omega) (by omega) (by omega)]
end Go.Proofs.Ythkkfdhgpaonjaa
