import Derived.Test.YthkkfdhgpaonjaaTrA
import Derived.Test.YthkkfdhgpaonjaaTrE
/- The two registers of where a trap came up keep their two lowest bits 0. Plain. -/
namespace Go.Proofs.Ythkkfdhgpaonjaa
open Go.RowKit
set_option linter.unusedSimpArgs false
set_option linter.unusedVariables false

def Al1 (x : Nat) : Prop := x.testBit 0 = false ∧ x.testBit 1 = false
def Al (s : FS) : Prop := Al1 (s.g 3) ∧ Al1 (s.g 14)
theorem m321_0 : (mask19 321).testBit 0 = false := by decide +kernel
theorem m321_1 : (mask19 321).testBit 1 = false := by decide +kernel
theorem m833_0 : (mask19 833).testBit 0 = false := by decide +kernel
theorem m833_1 : (mask19 833).testBit 1 = false := by decide +kernel
theorem newF_3 (n : Int) : (newF n).g 3 = 0 := by
  unfold newF; simp [setG, hartF, zeroF]
theorem newF_14 (n : Int) : (newF n).g 14 = 0 := by
  unfold newF; simp [setG, hartF, zeroF]
theorem Al.new (n : Int) : Al (newF n) := by
  unfold Al Al1
  rw [newF_3, newF_14]; decide
theorem Al.setG {s : FS} (h : Al s) (i v : Nat) (h3 : i ≠ 3) (h14 : i ≠ 14) : Al (Go.Proofs.Ythkkfdhgpaonjaa.setG s i v) := by
  unfold Al
  rw [setG_other _ _ _ _ (Ne.symm h3), setG_other _ _ _ _ (Ne.symm h14)]
  exact h
theorem Al.plain {s : FS} (h : Al s) {n : Int} {i : Nat} (hn : ownIx n = some i) (v : Nat) : Al (Go.Proofs.Ythkkfdhgpaonjaa.setG s i (legalOf n (s.g i) v)) := by
  obtain ⟨hi, hv⟩ := ownIx_lt hn
  by_cases h3 : i = 3
  · subst h3
    obtain rfl : n = 321 := hv.symm
    refine ⟨?_, ?_⟩
    · rw [setG_same]
      exact ⟨(legal_out 321 _ _ 0 (by omega) m321_0).trans h.1.1, (legal_out 321 _ _ 1 (by omega) m321_1).trans h.1.2⟩
    · rw [setG_other _ _ _ _ (by omega)]; exact h.2
  by_cases h14 : i = 14
  · subst h14
    obtain rfl : n = 833 := hv.symm
    refine ⟨?_, ?_⟩
    · rw [setG_other _ _ _ _ (by omega)]; exact h.1
    · rw [setG_same]
      exact ⟨(legal_out 833 _ _ 0 (by omega) m833_0).trans h.2.1, (legal_out 833 _ _ 1 (by omega) m833_1).trans h.2.2⟩
  exact h.setG _ _ h3 h14
theorem Al.set {s : FS} (h : Al s) (n : Int) (v : Nat) : Al (setOf s n v) := by
  unfold setOf
  split
  · exact h.setG _ _ (by omega) (by omega)
  split
  · exact h.setG _ _ (by omega) (by omega)
  split
  · exact h.setG _ _ (by omega) (by omega)
  split
  · exact Al.setG (s := setCy s true) h _ _ (by omega) (by omega)
  split
  · exact Al.setG (s := setIl s true) h _ _ (by omega) (by omega)
  cases hn : ownIx n with
  | none => exact h
  | some i => exact h.plain hn v
theorem Al.turn {s : FS} (h : Al s) (r : Bool) : Al (turnOf s r) := by
  have h1 : Al (turnCy s) := by
    unfold turnCy
    split
    · exact h
    · exact h.setG _ _ (by omega) (by omega)
  have h2 : Al (turnIl (turnCy s) r) := by
    unfold turnIl
    split
    · exact h1.setG _ _ (by omega) (by omega)
    · exact h1
  exact h2
theorem Al.step {s : FS} (h : Al s) (d : DD) : Al (stepOf s d) := by
  unfold stepOf
  split
  · exact h.set _ _
  split
  · unfold doS
    split
    · exact h.set _ _
    · exact h
  · exact h.turn _
/-- What is laid into such a register is what was given, but for the two lowest bits. -/
theorem al_legal (n : Int) (o v : Nat) (hm : mask19 n = 18446744073709551612) (h1 : n ≠ 768) (h2 : n ≠ 384) (ho : Al1 o) (hv : v < 18446744073709551616) : legalOf n o v = v / 4 * 4 := by
  unfold legalOf
  rw [if_neg h1, if_neg h2, hm]
  refine ext64 (blend_lt _ _ _) (by omega) fun i hi => ?_
  rw [bblend_bit _ _ _ i hi, show v / 4 * 4 = 2 ^ 2 * (v / 2 ^ 2) from by omega, Nat.testBit_two_pow_mul, Nat.testBit_div_two_pow]
  have hb : ∀ i, i < 64 → Nat.testBit 18446744073709551612 i = decide (2 ≤ i) := by decide +kernel
  rw [hb i hi]
  by_cases h : 2 ≤ i
  · have e : i - 2 + 2 = i := by omega
    have e' : 2 + (i - 2) = i := by omega
    simp [h, e, e']
  · have hi2 : i = 0 ∨ i = 1 := by omega
    rcases hi2 with rfl | rfl
    · simpa using ho.1
    · simpa using ho.2
theorem m321 : mask19 321 = 18446744073709551612 := by decide +kernel
theorem m833 : mask19 833 = 18446744073709551612 := by decide +kernel
end Go.Proofs.Ythkkfdhgpaonjaa
/- Layer 23: behind a trap and its return. Plain. -/
namespace Go.Proofs.Ythkkfdhgpaonjaa
open Go.RowKit
set_option linter.unusedSimpArgs false
set_option linter.unusedVariables false

theorem to_ge (s : FS) (i : Bool) (c p : Int) (hp : p = 0 ∨ p = 1 ∨ p = 3) : p ≤ entTo s i c p := by
  unfold entTo toOf
  split <;> omega
theorem ent_7 (s : FS) (i : Bool) (c p : Int) (pc tv : Nat) : (entS s i c p pc tv).g 7 = enterOf (s.g 7) p (entTo s i c p) := by unfold entS; rw [setG_same]
theorem back_to (s : FS) (i : Bool) (c p : Int) (pc tv : Nat) (hp : p = 0 ∨ p = 1 ∨ p = 3) : lvTo (entS s i c p pc tv) (entTo s i c p) = p := by
  have hpr : privB p = true := by rcases hp with rfl | rfl | rfl <;> rfl
  rw [lvTo_eq (entTo_13 s i c p), ent_7]
  have h3 : p = 3 → entTo s i c p = 3 := by intro h; unfold entTo toOf; rw [if_neg (by simp [h])]
  rcases entTo_13 s i c p with h | h
  · rw [h]
    have hp3 : p ≠ 3 := by intro e; have := h3 e; omega
    have e1 : enterOf (s.g 7) p 1 = enterS (s.g 7) (decide (p = 1)) := by unfold enterOf; simp [hpr]
    have e2 : ∀ x, leaveTo x 1 = if x.testBit 8 = true then 1 else 0 := by intro x; unfold leaveTo; simp
    rw [e1, e2, (back_s (s.g 7) (decide (p = 1))).1]
    rcases hp with rfl | rfl | rfl
    · rfl
    · rfl
    · exact (hp3 rfl).elim
  · rw [h]
    have e1 : enterOf (s.g 7) p 3 = enterM (s.g 7) p.toNat := by unfold enterOf; simp [hpr]
    have e2 : ∀ x, leaveTo x 3 = mppOf x := by intro x; unfold leaveTo; simp
    rw [e1, e2, (back_m (s.g 7) p.toNat (by omega)).1]
    omega
theorem ent_3 {s : FS} {i : Bool} {c p : Int} {pc tv : Nat} (h : entTo s i c p = 1) : (entS s i c p pc tv).g 3 = legalOf 321 (s.g 3) pc := by
  unfold entS
  rw [h, show epcN 1 = 321 from rfl, show causeN 1 = 322 from rfl, show tvalN 1 = 323 from rfl, setG_other _ _ _ _ (by omega), setOf_plain own323 (by omega) (by omega) (by omega) (by omega) (by omega), setG_other _ _ _ _ (by omega), setOf_plain own322 (by omega) (by omega) (by omega) (by omega) (by omega), setG_other _ _ _ _ (by omega), setOf_plain own321 (by omega) (by omega) (by omega) (by omega) (by omega), setG_same]
theorem ent_14 {s : FS} {i : Bool} {c p : Int} {pc tv : Nat} (h : entTo s i c p = 3) : (entS s i c p pc tv).g 14 = legalOf 833 (s.g 14) pc := by
  unfold entS
  rw [h, show epcN 3 = 833 from rfl, show causeN 3 = 834 from rfl, show tvalN 3 = 835 from rfl, setG_other _ _ _ _ (by omega), setOf_plain own835 (by omega) (by omega) (by omega) (by omega) (by omega), setG_other _ _ _ _ (by omega), setOf_plain own834 (by omega) (by omega) (by omega) (by omega) (by omega), setG_other _ _ _ _ (by omega), setOf_plain own833 (by omega) (by omega) (by omega) (by omega) (by omega), setG_same]
theorem back_pc {s : FS} (al : Al s) (i : Bool) (c p : Int) (pc tv : Nat) (hpc : pc < 18446744073709551616) : lvPc (entS s i c p pc tv) (entTo s i c p) = pc / 4 * 4 := by
  unfold lvPc
  rw [if_pos (entTo_13 s i c p)]
  rcases entTo_13 s i c p with h | h
  · rw [h, show epcN 1 = 321 from rfl, getOf_plain own321 (by omega) (by omega) (by omega) (by omega) (by omega) (by omega) (by omega) (by omega), ent_3 h]
    exact al_legal 321 _ _ m321 (by omega) (by omega) al.1 hpc
  · rw [h, show epcN 3 = 833 from rfl, getOf_plain own833 (by omega) (by omega) (by omega) (by omega) (by omega) (by omega) (by omega) (by omega), ent_14 h]
    exact al_legal 833 _ _ m833 (by omega) (by omega) al.2 hpc
end Go.Proofs.Ythkkfdhgpaonjaa
