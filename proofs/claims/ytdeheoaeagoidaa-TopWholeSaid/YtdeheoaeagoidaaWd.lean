/- Blocks of cells under stores. Plain lemmas on worlds. -/
import Derived.Test.YtdeheoaeagoidaaHeld
namespace Go.Proofs.Ytdeheoaeagoidaa
open Go.RowKit

theorem set_at {w : World} {b : Nat} {c : Array Value} {t : TypeId} {f : Nat × Nat} (h : w.heap[b]? = some (.cells c t f)) (o : Nat) (v : Value) :
    (w.setCell ⟨b, o, none⟩ v).heap[b]? = some (.cells (c.setIfInBounds o v) t f) := by
  simp [World.setCell, Array.getElem?_modify, h]
theorem set_two {w : World} {b : Nat} {v0 v1 : Value} {t : TypeId} (h : w.heap[b]? = some (.cells #[v0, v1] t)) (x y : Value) :
    ((w.setCell ⟨b, 0, none⟩ x).setCell ⟨b, 1, none⟩ y).heap[b]? = some (.cells #[x, y] t) := set_at (set_at h 0 x) 1 y
theorem keep_two {w : World} {b b' : Nat} {o : Obj} (h : w.heap[b']? = some o) (hne : b ≠ b') (x y : Value) :
    ((w.setCell ⟨b, 0, none⟩ x).setCell ⟨b, 1, none⟩ y).heap[b']? = some o := keep_setCell (keep_setCell h hne x) hne y
theorem Fr.two {B : Nat} {w0 w : World} (h : Fr B w0 w) {b : Nat} (hb : B ≤ b) (x y : Value) : Fr B w0 ((w.setCell ⟨b, 0, none⟩ x).setCell ⟨b, 1, none⟩ y) :=
  (h.setCell (p := ⟨b, 0, none⟩) hb x).setCell (p := ⟨b, 1, none⟩) hb y
theorem known2' {w : World} {b : Nat} {v0 v1 : Value} {t : TypeId} (h : w.heap[b]? = some (.cells #[v0, v1] t)) :
    w.cell? ⟨b, 0, none⟩ = some v0 ∧ w.cell? ⟨b, 1, none⟩ = some v1 ∧ b < w.heap.size ∧ ∀ o, w.frozen? ⟨b, o, none⟩ = false := by
  refine ⟨by rw [cell_at h]; rfl, by rw [cell_at h]; rfl, lt_of_at h, fun o => by simp [World.frozen?, h]⟩
end Go.Proofs.Ytdeheoaeagoidaa
