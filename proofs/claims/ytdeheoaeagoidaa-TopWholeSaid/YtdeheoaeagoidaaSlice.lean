/- An argument that is a slice of flat structs: each element's leaves. -/
import Derived.Test.YtdeheoaeagoidaaLeaf
import Derived.Deep.Slices
namespace Go.Proofs.Ytdeheoaeagoidaa
open Go.RowKit Go.ChangeShapes Go.WideShapes
set_option linter.unusedVariables false
section
variable {H : Type} {enc : TypeId × Value → H} {P : Program} {w : World} {base : Nat} {spare : Nat → Bool} {held : Bool}

theorem mapM_some {α β : Type} {f : α → Option β} : ∀ {l : List α} {r : List β}, l.mapM f = some r → r.length = l.length ∧ ∀ (i : Nat) (a : α), l[i]? = some a → f a = r[i]?
  | [], r, h => by simp at h; subst h; simp
  | a :: l, r, h => by
    rw [List.mapM_cons] at h
    cases hfa : f a with
    | none => rw [hfa] at h; simp at h
    | some b =>
      rw [hfa] at h
      cases hm : l.mapM f with
      | none => rw [hm] at h; simp at h
      | some r' =>
        rw [hm] at h
        simp at h
        subst h
        obtain ⟨h1, h2⟩ := mapM_some hm
        refine ⟨by simp [h1], fun i x hx => ?_⟩
        cases i with
        | zero => simp at hx; subst hx; simpa using hfa
        | succ i => simpa using h2 i x (by simpa using hx)
theorem cells?_get {a : Addr} {n : Nat} {cs : List Value} (h : w.cells? base a n = some cs) : cs.length = n ∧ ∀ i, i < n → w.cell? (a.add i) = cs[i]? := by
  unfold World.cells? at h
  split at h
  · obtain ⟨h1, h2⟩ := mapM_some h
    refine ⟨by simpa using h1, fun i hi => h2 i i (by simp [hi])⟩
  · cases h
theorem slice_leafs {t e : TypeId} {a : Option Addr} {len cap : Nat} {d : DataW H} {p : List MemPlace} (ht : P.underlying t = some (.slice e)) (h : DataW.Trod enc P w base spare held t (.slice a len cap) d p) :
    (a = none ∧ len = 0 ∧ cap = 0) ∨ ∃ ad, a = some ad ∧ base ≤ ad.block ∧ len ≤ cap ∧ cap ≤ maxLen ∧ ∀ i, i < len → ∃ cs : Array Value, cs.size = P.cellsOf e ∧ (∀ j, j < P.cellsOf e → w.cell? ((ad.add (i * P.cellsOf e)).add j) = cs[j]?) ∧
      ∀ j tl, leafT P 12 e j = some tl → P.cellsOf tl = 1 → ∃ u n y, cs[j]? = some u ∧ DataW.trod enc P w base spare held n tl [u] = some y := by
  obtain ⟨fuel, hf⟩ := h
  simp only [Value.cells] at hf
  rcases Go.Deep.open_slice ht hf with ⟨h0, _⟩ | ⟨ad, len', cap', m, n, D, Pl, h0, hb, hl, hm, hmm, _, hx⟩
  · simp at h0
    exact Or.inl h0
  · simp at h0
    obtain ⟨rfl, rfl, rfl⟩ := h0
    refine Or.inr ⟨ad, rfl, hb, hl, hm, fun i hi => ?_⟩
    obtain ⟨cs', hc, htr⟩ := hx i (by rw [hmm]; split <;> omega)
    obtain ⟨hlen, hget⟩ := cells?_get hc
    refine ⟨cs'.toArray, by simpa using hlen, fun j hj => by simpa using hget j hj, fun j tl hl1 h1 => ?_⟩
    obtain ⟨u, n', y, hu, ht'⟩ := leaf_of 12 n e cs' _ j tl htr hl1 (fun _ _ => h1) (by simpa using hlen)
    exact ⟨u, n', y, by simpa using hu, ht'⟩
end
end Go.Proofs.Ytdeheoaeagoidaa
