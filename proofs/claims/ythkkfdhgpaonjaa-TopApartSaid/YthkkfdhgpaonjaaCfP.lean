/- What the CSR file's functions compute. Plain. -/
import Derived.Test.YthkkfdhgpaonjaaCfA
import Derived.Test.YthkkfdhgpaonjaaMCsrB
import Derived.Test.YthkkfdhgpaonjaaMSv
namespace Go.Proofs.Ythkkfdhgpaonjaa
open Go.RowKit
set_option linter.unusedSimpArgs false
set_option linter.unusedVariables false

def misaV : Nat := 9223372036856090881
def lined : Nat := 2696
def hartW (h : Int) : Nat := (h % 18446744073709551616).toNat
theorem hartW_val (h : Int) : IntKind.u64.wrap h = (hartW h : Int) := by
  unfold hartW; rw [IntKind.wrap_u64]; omega
theorem hartW_lt (h : Int) : hartW h < 18446744073709551616 := by unfold hartW; omega
/-- What a CSR is. -/
def getOf (s : FS) (n : Int) (L : Nat) : Nat :=
  if n = 256 then viewOf (s.g 7) else if n = 260 then s.g 10 &&& s.g 9 else if n = 324 then (s.g 17 ||| (L &&& lined)) &&& s.g 9 else if n = 836 then s.g 17 ||| (L &&& lined)
  else if n = 769 then misaV else if n = 3072 then s.g 20 else if n = 3074 then s.g 21 else if n = 3860 then hartW s.hart else match ownIx n with | some i => s.g i | none => 0
/-- What a file becomes when a CSR is written. -/
def setOf (s : FS) (n : Int) (v : Nat) : FS :=
  if n = 256 then setG s 7 (legalOf 256 (s.g 7) v) else if n = 260 then setG s 10 (blend (s.g 10) v (s.g 9)) else if n = 324 then setG s 17 (blend (s.g 17) v (s.g 9 &&& 2))
  else if n = 2816 then setG (setCy s true) 20 (legalOf 2816 (s.g 20) v) else if n = 2818 then setG (setIl s true) 21 (legalOf 2818 (s.g 21) v)
  else match ownIx n with | some i => setG s i (legalOf n (s.g i) v) | none => s
def turnCy (s : FS) : FS := if s.cy = true then s else setG s 20 ((s.g 20 + 1) % 18446744073709551616)
def turnIl (s : FS) (r : Bool) : FS := if (r && !s.il) = true then setG s 21 ((s.g 21 + 1) % 18446744073709551616) else s
def turnOf (s : FS) (r : Bool) : FS := setIl (setCy (turnIl (turnCy s) r) false) false

theorem and_lt {a b : Nat} (ha : a < 18446744073709551616) : a &&& b < 18446744073709551616 := Nat.lt_of_le_of_lt Nat.and_le_left ha
theorem or_lt64 {a b : Nat} (ha : a < 18446744073709551616) (hb : b < 18446744073709551616) : a ||| b < 18446744073709551616 := Nat.or_lt_two_pow (n := 64) ha hb
theorem viewOf_lt' {x : Nat} (hx : x < 18446744073709551616) : viewOf x < 18446744073709551616 := and_lt hx
theorem getOf_lt {s : FS} (ok : OkF s) (n : Int) (L : Nat) (hL : L < 18446744073709551616) : getOf s n L < 18446744073709551616 := by
  unfold getOf
  have h1 : s.g 17 ||| (L &&& lined) < 18446744073709551616 := or_lt64 (ok.g 17) (and_lt hL)
  split
  · exact viewOf_lt' (ok.g 7)
  split
  · exact and_lt (ok.g 10)
  split
  · exact and_lt h1
  split
  · exact h1
  split
  · decide
  split
  · exact ok.g 20
  split
  · exact ok.g 21
  split
  · exact hartW_lt _
  split
  · exact ok.g _
  · omega
theorem OkF.set {s : FS} (ok : OkF s) (n : Int) (v : Nat) : OkF (setOf s n v) := by
  unfold setOf
  split
  · exact ok.setG _ _ (legalOf_lt _ _ _ (ok.g 7))
  split
  · exact ok.setG _ _ (blend_lt _ _ _)
  split
  · exact ok.setG _ _ (blend_lt _ _ _)
  split
  · exact (ok.setCy true).setG _ _ (legalOf_lt _ _ _ (ok.g 20))
  split
  · exact (ok.setIl true).setG _ _ (legalOf_lt _ _ _ (ok.g 21))
  split
  · exact ok.setG _ _ (legalOf_lt _ _ _ (ok.g _))
  · exact ok
theorem OkF.turnCy {s : FS} (ok : OkF s) : OkF (turnCy s) := by
  unfold Go.Proofs.Ythkkfdhgpaonjaa.turnCy
  split
  · exact ok
  · exact ok.setG _ _ (Nat.mod_lt _ (by omega))
theorem OkF.turn {s : FS} (ok : OkF s) (r : Bool) : OkF (turnOf s r) := by
  unfold turnOf turnIl
  refine OkF.setIl (OkF.setCy ?_ _) _
  split
  · exact ok.turnCy.setG _ _ (Nat.mod_lt _ (by omega))
  · exact ok.turnCy

theorem and_or_add (a : Nat) : ∀ b : Nat, (a &&& b) + (a ||| b) = a + b := by
  induction a using Nat.strongRecOn with
  | ind a ih =>
    intro b
    by_cases h : a = 0
    · subst h; simp
    · have h1 := ih (a / 2) (by omega) (b / 2)
      have e1 : (a &&& b) / 2 = a / 2 &&& b / 2 := Nat.and_div_two
      have e2 : (a ||| b) / 2 = a / 2 ||| b / 2 := Nat.or_div_two
      have m1 : (a &&& b) % 2 + (a ||| b) % 2 = a % 2 + b % 2 := by
        have p1 := Nat.and_mod_two_eq_one (a := a) (b := b)
        have p2 := Nat.or_mod_two_eq_one (a := a) (b := b)
        omega
      rw [← e1, ← e2] at h1
      omega
theorem or_sub (a b : Nat) : a + b - (a &&& b) = a ||| b := by have := and_or_add a b; omega
theorem and_le_l (a b : Nat) : a &&& b ≤ a := Nat.and_le_left
theorem sub_and (a d : Nat) (ha : a < 18446744073709551616) (hd : d < 18446744073709551616) : a - (a &&& d) = a &&& (18446744073709551615 - d) := by
  have h := and_or_add (a &&& d) (a &&& (18446744073709551615 - d))
  have e1 : (a &&& d) &&& (a &&& (18446744073709551615 - d)) = 0 := by
    apply Nat.eq_of_testBit_eq
    intro i
    simp only [Nat.testBit_and, Nat.zero_testBit]
    by_cases hi : i < 64
    · rw [inv_bit d i hd hi]; cases a.testBit i <;> cases d.testBit i <;> rfl
    · rw [tb_big a ha i (by omega)]; rfl
  have e2 : (a &&& d) ||| (a &&& (18446744073709551615 - d)) = a := by
    apply Nat.eq_of_testBit_eq
    intro i
    simp only [Nat.testBit_or, Nat.testBit_and]
    by_cases hi : i < 64
    · rw [inv_bit d i hd hi]; cases a.testBit i <;> cases d.testBit i <;> rfl
    · rw [tb_big a ha i (by omega)]; rfl
  rw [e1, e2] at h
  omega
theorem blend_sum (w v d : Nat) (hw : w < 18446744073709551616) (hv : v < 18446744073709551616) (hd : d < 18446744073709551616) : w - (w &&& d) + (v &&& d) = blend w v d := by
  rw [sub_and w d hw hd]
  have h := and_or_add (w &&& (18446744073709551615 - d)) (v &&& d)
  have e1 : (w &&& (18446744073709551615 - d)) &&& (v &&& d) = 0 := by
    apply Nat.eq_of_testBit_eq
    intro i
    simp only [Nat.testBit_and, Nat.zero_testBit]
    by_cases hi : i < 64
    · rw [inv_bit d i hd hi]; cases d.testBit i <;> simp
    · rw [tb_big w hw i (by omega)]; rfl
  rw [e1] at h
  have e2 : (w &&& (18446744073709551615 - d)) ||| (v &&& d) = blend w v d := by
    refine ext64 (or_lt64 (and_lt hw) (and_lt hv)) (blend_lt _ _ _) fun i hi => ?_
    rw [bblend_bit w v d i hi]
    simp only [Nat.testBit_or, Nat.testBit_and]
    rw [inv_bit d i hd hi]
    cases d.testBit i <;> simp
  omega
end Go.Proofs.Ythkkfdhgpaonjaa
