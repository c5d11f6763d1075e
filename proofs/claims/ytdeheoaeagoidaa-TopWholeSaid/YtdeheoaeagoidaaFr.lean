/- 'Fr B w0 w': below block B the world w is as w0 was, and B is no more than its size. Plain lemmas. -/
import Derived.WalkKit
import Derived.Deep.Draws
namespace Go.Proofs.Ytdeheoaeagoidaa
open Go.RowKit

def Fr (B : Nat) (w0 w : World) : Prop := Below B w0 w ∧ B ≤ w.heap.size

theorem Fr.refl (w : World) : Fr w.heap.size w w := ⟨Below.refl _ _, Nat.le_refl _⟩
theorem Fr.step {B : Nat} {w0 w w' : World} (h : Fr B w0 w) (hb : Below w.heap.size w w') : Fr B w0 w' := ⟨h.1.trans (hb.mono h.2), Nat.le_trans h.2 hb.size⟩
theorem Fr.alloc {B : Nat} {w0 w : World} (h : Fr B w0 w) (o : Obj) : Fr B w0 (w.alloc o) := h.step ((Below.refl _ _).alloc (Nat.le_refl _) o)
theorem Fr.drew {B : Nat} {w0 w : World} (h : Fr B w0 w) : Fr B w0 w.drew := ⟨h.1.drew, h.2⟩
theorem Fr.drewN {B : Nat} {w0 w : World} (h : Fr B w0 w) (n : Nat) : Fr B w0 (w.drewN n) := ⟨⟨h.1.os, h.1.tape, h.1.output, h.1.size, h.1.block⟩, h.2⟩
theorem Fr.setCell {B : Nat} {w0 w : World} (h : Fr B w0 w) {p : Addr} (hp : B ≤ p.block) (u : Value) : Fr B w0 (w.setCell p u) :=
  ⟨h.1.setCell hp u, by simpa [World.setCell] using h.2⟩
theorem Fr.below {w w' : World} (h : Fr w.heap.size w w') : Below w.heap.size w w' := h.1

/-- A whole block that lay below is as it was. -/
theorem heapAt {B b : Nat} {w w' : World} (h : Below B w w') {o : Obj} (hb : w.heap[b]? = some o) (hB : b < B) : w'.heap[b]? = some o := by rw [h.block b hB]; exact hb
theorem keepB {b : Nat} {w w' : World} (h : Below w.heap.size w w') {o : Obj} (hb : w.heap[b]? = some o) : w'.heap[b]? = some o :=
  heapAt h hb (by rcases Nat.lt_or_ge b w.heap.size with h1 | h1; exact h1; rw [Array.getElem?_eq_none h1] at hb; cases hb)
theorem keep_alloc {b : Nat} {w : World} {o : Obj} (hb : w.heap[b]? = some o) (x : Obj) : (w.alloc x).heap[b]? = some o := keepB ((Below.refl _ w).alloc (Nat.le_refl _) x) hb
theorem lt_of_at {b : Nat} {w : World} {o : Obj} (hb : w.heap[b]? = some o) : b < w.heap.size := by
  rcases Nat.lt_or_ge b w.heap.size with h1 | h1
  · exact h1
  · rw [Array.getElem?_eq_none h1] at hb; cases hb
theorem keep_setCell {b : Nat} {w : World} {o : Obj} (hb : w.heap[b]? = some o) {p : Addr} (hp : p.block ≠ b) (u : Value) : (w.setCell p u).heap[b]? = some o := by
  rw [Below.heap_setCell _ _ _ _ (fun h => hp h.symm)]; exact hb
/-- A cell of a block of cells. -/
theorem cell_at {w : World} {b o : Nat} {c : Array Value} {t : TypeId} {f : Nat × Nat} (h : w.heap[b]? = some (.cells c t f)) : w.cell? ⟨b, o, none⟩ = c[o]? := by
  simp [World.cell?, h]
end Go.Proofs.Ytdeheoaeagoidaa
