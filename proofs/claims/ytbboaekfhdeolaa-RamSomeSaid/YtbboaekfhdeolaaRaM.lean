/- Two memories are the same just where their sizes are, and each line of the one that is not noughts is the other's. Plain. -/
import Derived.Test.YtbboaekfhdeolaaRaH
import Derived.Maps.Ext
namespace Go.Proofs.Ytbboaekfhdeolaa
open Go.RowKit
open Go.Maps (Canon)
open Go.WideShapes
set_option linter.unusedSimpArgs false
set_option linter.unusedVariables false

theorem rising_sub : ∀ {s r : List (Lit × DataW Value)}, r.Pairwise (fun p q => p.1.before q.1 = true) → s.Pairwise (fun p q => p.1.before q.1 = true) → (∀ p ∈ r, p ∈ s) → r.Sublist s
  | [], [], _, _, _ => .slnil
  | [], a :: r, _, _, h => by have := h a (by simp); simp at this
  | b :: s, [], _, _, _ => List.nil_sublist _
  | b :: s, a :: r, h1, h2, h => by
    obtain ⟨a1, a2⟩ := List.pairwise_cons.1 h1
    obtain ⟨b1, b2⟩ := List.pairwise_cons.1 h2
    rcases List.mem_cons.1 (h a (by simp)) with e | ha
    · subst e
      refine .cons_cons _ (rising_sub a2 b2 fun p hp => ?_)
      rcases List.mem_cons.1 (h p (by simp [hp])) with e | hp'
      · have := a1 p hp
        rw [e, before_irrefl] at this
        cases this
      · exact hp'
    · refine .cons _ (rising_sub h1 b2 fun p hp => ?_)
      rcases List.mem_cons.1 (h p hp) with e | hp'
      · rcases List.mem_cons.1 hp with e2 | hp2
        · rw [e2]; exact ha
        · have h3 := a1 p hp2
          have h4 := b1 a ha
          rw [e] at h3
          have := before_trans h3 h4
          rw [before_irrefl] at this
          cases this
      · exact hp'
theorem at_of_mem {es : List (Lit × DataW Value)} (s : es.Pairwise (fun p q => p.1.before q.1 = true)) (k : ∀ p ∈ es, WideAt.IsKeyLit p.1) {p : Lit × DataW Value} (hp : p ∈ es) (z : DataW Value) : (DataW.map es).atKey p.1 z = p.2 :=
  WideAt.atKey_mem z (k p hp) (Maps.apart_of_rising s) hp
theorem has_mem {es : List (Lit × DataW Value)} {k : Lit} (h : Maps.has (.map es) k = true) : ∃ p ∈ es, p.1 = k := by
  obtain ⟨p, hp, hs⟩ := List.any_eq_true.1 h
  exact ⟨p, hp, WideAt.sameKey_eq hs⟩
theorem mem_has {es : List (Lit × DataW Value)} (k : ∀ p ∈ es, WideAt.IsKeyLit p.1) {p : Lit × DataW Value} (hp : p ∈ es) : Maps.has (.map es) p.1 = true := List.any_eq_true.2 ⟨p, hp, WideAt.sameKey_self (k p hp)⟩
/-- The lines of two memories are the same. -/
def SameG (g g' : Nat → Nat → Nat) : Prop := ∀ i, i < 65536 → cellsL (g i) = cellsL (g' i)
theorem kept_sub {es es' : List (Lit × DataW Value)} {g g' : Nat → Nat → Nat} (s : es.Pairwise (fun p q => p.1.before q.1 = true)) (k : ∀ p ∈ es, WideAt.IsKeyLit p.1) (s' : es'.Pairwise (fun p q => p.1.before q.1 = true)) (k' : ∀ p ∈ es', WideAt.IsKeyLit p.1)
    (hD : KeptD (.map es) g) (hD' : KeptD (.map es') g') (h : ∀ i, i < 65536 → Value.agg (cellsL (g i)) ≠ zline → cellsL (g i) = cellsL (g' i)) : ∀ p ∈ es, p ∈ es' := by
  intro p hp
  have hh := mem_has k hp
  obtain ⟨i, hi, e⟩ := hD.2 _ hh
  rw [e] at hh
  have nz := (hD.1 i hi).2.1 hh
  have eg := h i hi nz
  have a1 := at_of_mem s k hp (.held zline)
  rw [e, (hD.1 i hi).1] at a1
  have h2 : Maps.has (.map es') (kl i) = true := (hD'.1 i hi).2.2 (by rw [← eg]; exact nz)
  obtain ⟨p', hp', e'⟩ := has_mem h2
  have a2 := at_of_mem s' k' hp' (.held zline)
  rw [e', (hD'.1 i hi).1] at a2
  have : p = p' := Prod.ext (e.trans e'.symm) (by rw [← a1, ← a2, eg])
  rw [this]; exact hp'
theorem same_of_size {D D' : DataW Value} {g g' : Nat → Nat → Nat} (c : Canon D) (c' : Canon D') (hD : KeptD D g) (hD' : KeptD D' g') (hs : Maps.size D = Maps.size D') (h : ∀ i, i < 65536 → Value.agg (cellsL (g i)) ≠ zline → cellsL (g i) = cellsL (g' i)) : SameG g g' := by
  obtain ⟨es, rfl, s, k⟩ := c
  obtain ⟨es', rfl, s', k'⟩ := c'
  have hsub := rising_sub s s' (kept_sub s k s' k' hD hD' h)
  have e : es = es' := hsub.eq_of_length (by simpa [Maps.size] using hs)
  subst e
  intro i hi
  have h1 := (hD.1 i hi).1
  rw [(hD'.1 i hi).1] at h1
  simp only [DataW.held.injEq, Value.agg.injEq] at h1
  exact h1.symm
theorem size_of_same {D D' : DataW Value} {g g' : Nat → Nat → Nat} (c : Canon D) (c' : Canon D') (hD : KeptD D g) (hD' : KeptD D' g') (h : SameG g g') : Maps.size D = Maps.size D' := by
  obtain ⟨es, rfl, s, k⟩ := c
  obtain ⟨es', rfl, s', k'⟩ := c'
  have l1 := (rising_sub s s' (kept_sub s k s' k' hD hD' fun i hi _ => h i hi)).length_le
  have l2 := (rising_sub s' s (kept_sub s' k' s k hD' hD fun i hi _ => (h i hi).symm)).length_le
  simp only [Maps.size]
  omega
theorem cells_inj {g h : Nat → Nat} (e : cellsL g = cellsL h) : ∀ j, j < 64 → g j = h j := by
  intro j hj
  have h1 := cellsL_get g hj
  rw [e, cellsL_get h hj] at h1
  simp only [Option.some.injEq, Value.int.injEq, true_and] at h1
  omega
end Go.Proofs.Ytbboaekfhdeolaa
