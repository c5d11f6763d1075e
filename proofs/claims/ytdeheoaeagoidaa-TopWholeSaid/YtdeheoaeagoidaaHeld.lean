/- Cells that are known stay known behind what is new alone: for the regions that draw their order. Plain lemmas. -/
import Derived.Test.YtdeheoaeagoidaaFr
import Derived.Deep.RegionHeld3
namespace Go.Proofs.Ytdeheoaeagoidaa
open Go.RowKit

theorem hcell {w w' : World} (hb : Below w.heap.size w w') {a : Addr} {v : Value} (h : w.cell? a = some v) : w'.cell? a = some v := by
  have hlt : a.block < w.heap.size := by
    rcases Nat.lt_or_ge a.block w.heap.size with h1 | h1
    · exact h1
    · simp [World.cell?, Array.getElem?_eq_none h1] at h
  rw [hb.cell hlt]; exact h
theorem Fr.step' {B : Nat} {w0 w w' : World} (hb : Below w.heap.size w w') (h : Fr B w0 w) : Fr B w0 w' := h.step hb
theorem held1 {w w' : World} {B : Nat} {w0 : World} {a0 : Addr} {v0 : Value} (hb : Below w.heap.size w w') (h : Fr B w0 w ∧ w.cell? a0 = some v0) : Fr B w0 w' ∧ w'.cell? a0 = some v0 := by
  obtain ⟨hf, h0⟩ := h
  exact ⟨hf.step hb, hcell hb h0⟩
theorem held2 {w w' : World} {B : Nat} {w0 : World} {a0 a1 : Addr} {v0 v1 : Value} (hb : Below w.heap.size w w') (h : Fr B w0 w ∧ w.cell? a0 = some v0 ∧ w.cell? a1 = some v1) : Fr B w0 w' ∧ w'.cell? a0 = some v0 ∧ w'.cell? a1 = some v1 := by
  obtain ⟨hf, h0, h1⟩ := h
  exact ⟨hf.step hb, hcell hb h0, hcell hb h1⟩
theorem held3 {w w' : World} {B : Nat} {w0 : World} {a0 a1 a2 : Addr} {v0 v1 v2 : Value} (hb : Below w.heap.size w w') (h : Fr B w0 w ∧ w.cell? a0 = some v0 ∧ w.cell? a1 = some v1 ∧ w.cell? a2 = some v2) : Fr B w0 w' ∧ w'.cell? a0 = some v0 ∧ w'.cell? a1 = some v1 ∧ w'.cell? a2 = some v2 := by
  obtain ⟨hf, h0, h1, h2⟩ := h
  exact ⟨hf.step hb, hcell hb h0, hcell hb h1, hcell hb h2⟩
theorem held4 {w w' : World} {B : Nat} {w0 : World} {a0 a1 a2 a3 : Addr} {v0 v1 v2 v3 : Value} (hb : Below w.heap.size w w') (h : Fr B w0 w ∧ w.cell? a0 = some v0 ∧ w.cell? a1 = some v1 ∧ w.cell? a2 = some v2 ∧ w.cell? a3 = some v3) : Fr B w0 w' ∧ w'.cell? a0 = some v0 ∧ w'.cell? a1 = some v1 ∧ w'.cell? a2 = some v2 ∧ w'.cell? a3 = some v3 := by
  obtain ⟨hf, h0, h1, h2, h3⟩ := h
  exact ⟨hf.step hb, hcell hb h0, hcell hb h1, hcell hb h2, hcell hb h3⟩
theorem held5 {w w' : World} {B : Nat} {w0 : World} {a0 a1 a2 a3 a4 : Addr} {v0 v1 v2 v3 v4 : Value} (hb : Below w.heap.size w w') (h : Fr B w0 w ∧ w.cell? a0 = some v0 ∧ w.cell? a1 = some v1 ∧ w.cell? a2 = some v2 ∧ w.cell? a3 = some v3 ∧ w.cell? a4 = some v4) : Fr B w0 w' ∧ w'.cell? a0 = some v0 ∧ w'.cell? a1 = some v1 ∧ w'.cell? a2 = some v2 ∧ w'.cell? a3 = some v3 ∧ w'.cell? a4 = some v4 := by
  obtain ⟨hf, h0, h1, h2, h3, h4⟩ := h
  exact ⟨hf.step hb, hcell hb h0, hcell hb h1, hcell hb h2, hcell hb h3, hcell hb h4⟩
theorem held6 {w w' : World} {B : Nat} {w0 : World} {a0 a1 a2 a3 a4 a5 : Addr} {v0 v1 v2 v3 v4 v5 : Value} (hb : Below w.heap.size w w') (h : Fr B w0 w ∧ w.cell? a0 = some v0 ∧ w.cell? a1 = some v1 ∧ w.cell? a2 = some v2 ∧ w.cell? a3 = some v3 ∧ w.cell? a4 = some v4 ∧ w.cell? a5 = some v5) : Fr B w0 w' ∧ w'.cell? a0 = some v0 ∧ w'.cell? a1 = some v1 ∧ w'.cell? a2 = some v2 ∧ w'.cell? a3 = some v3 ∧ w'.cell? a4 = some v4 ∧ w'.cell? a5 = some v5 := by
  obtain ⟨hf, h0, h1, h2, h3, h4, h5⟩ := h
  exact ⟨hf.step hb, hcell hb h0, hcell hb h1, hcell hb h2, hcell hb h3, hcell hb h4, hcell hb h5⟩
theorem held7 {w w' : World} {B : Nat} {w0 : World} {a0 a1 a2 a3 a4 a5 a6 : Addr} {v0 v1 v2 v3 v4 v5 v6 : Value} (hb : Below w.heap.size w w') (h : Fr B w0 w ∧ w.cell? a0 = some v0 ∧ w.cell? a1 = some v1 ∧ w.cell? a2 = some v2 ∧ w.cell? a3 = some v3 ∧ w.cell? a4 = some v4 ∧ w.cell? a5 = some v5 ∧ w.cell? a6 = some v6) : Fr B w0 w' ∧ w'.cell? a0 = some v0 ∧ w'.cell? a1 = some v1 ∧ w'.cell? a2 = some v2 ∧ w'.cell? a3 = some v3 ∧ w'.cell? a4 = some v4 ∧ w'.cell? a5 = some v5 ∧ w'.cell? a6 = some v6 := by
  obtain ⟨hf, h0, h1, h2, h3, h4, h5, h6⟩ := h
  exact ⟨hf.step hb, hcell hb h0, hcell hb h1, hcell hb h2, hcell hb h3, hcell hb h4, hcell hb h5, hcell hb h6⟩
theorem held8 {w w' : World} {B : Nat} {w0 : World} {a0 a1 a2 a3 a4 a5 a6 a7 : Addr} {v0 v1 v2 v3 v4 v5 v6 v7 : Value} (hb : Below w.heap.size w w') (h : Fr B w0 w ∧ w.cell? a0 = some v0 ∧ w.cell? a1 = some v1 ∧ w.cell? a2 = some v2 ∧ w.cell? a3 = some v3 ∧ w.cell? a4 = some v4 ∧ w.cell? a5 = some v5 ∧ w.cell? a6 = some v6 ∧ w.cell? a7 = some v7) : Fr B w0 w' ∧ w'.cell? a0 = some v0 ∧ w'.cell? a1 = some v1 ∧ w'.cell? a2 = some v2 ∧ w'.cell? a3 = some v3 ∧ w'.cell? a4 = some v4 ∧ w'.cell? a5 = some v5 ∧ w'.cell? a6 = some v6 ∧ w'.cell? a7 = some v7 := by
  obtain ⟨hf, h0, h1, h2, h3, h4, h5, h6, h7⟩ := h
  exact ⟨hf.step hb, hcell hb h0, hcell hb h1, hcell hb h2, hcell hb h3, hcell hb h4, hcell hb h5, hcell hb h6, hcell hb h7⟩
theorem held9 {w w' : World} {B : Nat} {w0 : World} {a0 a1 a2 a3 a4 a5 a6 a7 a8 : Addr} {v0 v1 v2 v3 v4 v5 v6 v7 v8 : Value} (hb : Below w.heap.size w w') (h : Fr B w0 w ∧ w.cell? a0 = some v0 ∧ w.cell? a1 = some v1 ∧ w.cell? a2 = some v2 ∧ w.cell? a3 = some v3 ∧ w.cell? a4 = some v4 ∧ w.cell? a5 = some v5 ∧ w.cell? a6 = some v6 ∧ w.cell? a7 = some v7 ∧ w.cell? a8 = some v8) : Fr B w0 w' ∧ w'.cell? a0 = some v0 ∧ w'.cell? a1 = some v1 ∧ w'.cell? a2 = some v2 ∧ w'.cell? a3 = some v3 ∧ w'.cell? a4 = some v4 ∧ w'.cell? a5 = some v5 ∧ w'.cell? a6 = some v6 ∧ w'.cell? a7 = some v7 ∧ w'.cell? a8 = some v8 := by
  obtain ⟨hf, h0, h1, h2, h3, h4, h5, h6, h7, h8⟩ := h
  exact ⟨hf.step hb, hcell hb h0, hcell hb h1, hcell hb h2, hcell hb h3, hcell hb h4, hcell hb h5, hcell hb h6, hcell hb h7, hcell hb h8⟩
theorem held10 {w w' : World} {B : Nat} {w0 : World} {a0 a1 a2 a3 a4 a5 a6 a7 a8 a9 : Addr} {v0 v1 v2 v3 v4 v5 v6 v7 v8 v9 : Value} (hb : Below w.heap.size w w') (h : Fr B w0 w ∧ w.cell? a0 = some v0 ∧ w.cell? a1 = some v1 ∧ w.cell? a2 = some v2 ∧ w.cell? a3 = some v3 ∧ w.cell? a4 = some v4 ∧ w.cell? a5 = some v5 ∧ w.cell? a6 = some v6 ∧ w.cell? a7 = some v7 ∧ w.cell? a8 = some v8 ∧ w.cell? a9 = some v9) : Fr B w0 w' ∧ w'.cell? a0 = some v0 ∧ w'.cell? a1 = some v1 ∧ w'.cell? a2 = some v2 ∧ w'.cell? a3 = some v3 ∧ w'.cell? a4 = some v4 ∧ w'.cell? a5 = some v5 ∧ w'.cell? a6 = some v6 ∧ w'.cell? a7 = some v7 ∧ w'.cell? a8 = some v8 ∧ w'.cell? a9 = some v9 := by
  obtain ⟨hf, h0, h1, h2, h3, h4, h5, h6, h7, h8, h9⟩ := h
  exact ⟨hf.step hb, hcell hb h0, hcell hb h1, hcell hb h2, hcell hb h3, hcell hb h4, hcell hb h5, hcell hb h6, hcell hb h7, hcell hb h8, hcell hb h9⟩
theorem held11 {w w' : World} {B : Nat} {w0 : World} {a0 a1 a2 a3 a4 a5 a6 a7 a8 a9 a10 : Addr} {v0 v1 v2 v3 v4 v5 v6 v7 v8 v9 v10 : Value} (hb : Below w.heap.size w w') (h : Fr B w0 w ∧ w.cell? a0 = some v0 ∧ w.cell? a1 = some v1 ∧ w.cell? a2 = some v2 ∧ w.cell? a3 = some v3 ∧ w.cell? a4 = some v4 ∧ w.cell? a5 = some v5 ∧ w.cell? a6 = some v6 ∧ w.cell? a7 = some v7 ∧ w.cell? a8 = some v8 ∧ w.cell? a9 = some v9 ∧ w.cell? a10 = some v10) : Fr B w0 w' ∧ w'.cell? a0 = some v0 ∧ w'.cell? a1 = some v1 ∧ w'.cell? a2 = some v2 ∧ w'.cell? a3 = some v3 ∧ w'.cell? a4 = some v4 ∧ w'.cell? a5 = some v5 ∧ w'.cell? a6 = some v6 ∧ w'.cell? a7 = some v7 ∧ w'.cell? a8 = some v8 ∧ w'.cell? a9 = some v9 ∧ w'.cell? a10 = some v10 := by
  obtain ⟨hf, h0, h1, h2, h3, h4, h5, h6, h7, h8, h9, h10⟩ := h
  exact ⟨hf.step hb, hcell hb h0, hcell hb h1, hcell hb h2, hcell hb h3, hcell hb h4, hcell hb h5, hcell hb h6, hcell hb h7, hcell hb h8, hcell hb h9, hcell hb h10⟩
theorem held12 {w w' : World} {B : Nat} {w0 : World} {a0 a1 a2 a3 a4 a5 a6 a7 a8 a9 a10 a11 : Addr} {v0 v1 v2 v3 v4 v5 v6 v7 v8 v9 v10 v11 : Value} (hb : Below w.heap.size w w') (h : Fr B w0 w ∧ w.cell? a0 = some v0 ∧ w.cell? a1 = some v1 ∧ w.cell? a2 = some v2 ∧ w.cell? a3 = some v3 ∧ w.cell? a4 = some v4 ∧ w.cell? a5 = some v5 ∧ w.cell? a6 = some v6 ∧ w.cell? a7 = some v7 ∧ w.cell? a8 = some v8 ∧ w.cell? a9 = some v9 ∧ w.cell? a10 = some v10 ∧ w.cell? a11 = some v11) : Fr B w0 w' ∧ w'.cell? a0 = some v0 ∧ w'.cell? a1 = some v1 ∧ w'.cell? a2 = some v2 ∧ w'.cell? a3 = some v3 ∧ w'.cell? a4 = some v4 ∧ w'.cell? a5 = some v5 ∧ w'.cell? a6 = some v6 ∧ w'.cell? a7 = some v7 ∧ w'.cell? a8 = some v8 ∧ w'.cell? a9 = some v9 ∧ w'.cell? a10 = some v10 ∧ w'.cell? a11 = some v11 := by
  obtain ⟨hf, h0, h1, h2, h3, h4, h5, h6, h7, h8, h9, h10, h11⟩ := h
  exact ⟨hf.step hb, hcell hb h0, hcell hb h1, hcell hb h2, hcell hb h3, hcell hb h4, hcell hb h5, hcell hb h6, hcell hb h7, hcell hb h8, hcell hb h9, hcell hb h10, hcell hb h11⟩
end Go.Proofs.Ytdeheoaeagoidaa
