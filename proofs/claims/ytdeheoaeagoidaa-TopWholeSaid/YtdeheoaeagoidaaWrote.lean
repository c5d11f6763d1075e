/- Only one block has been written; what is new lies beyond. Plain lemmas on worlds. -/
import Derived.Test.YtdeheoaeagoidaaWd
namespace Go.Proofs.Ytdeheoaeagoidaa
open Go.RowKit

/-- Only block b has been written; what is new lies beyond. -/
def Wrote (b : Nat) (w w' : World) : Prop := (∀ B w0, B ≤ b → Fr B w0 w → Fr B w0 w') ∧ (∀ b' o, b' ≠ b → w.heap[b']? = some o → w'.heap[b']? = some o)
theorem Wrote.refl (b : Nat) (w : World) : Wrote b w w := ⟨fun _ _ _ h => h, fun _ _ _ h => h⟩
theorem Wrote.below {b : Nat} {w w1 w2 : World} (h : Wrote b w w1) (hb : Below w1.heap.size w1 w2) : Wrote b w w2 := ⟨fun B w0 hB hf => (h.1 B w0 hB hf).step hb, fun b' o hne ho => keepB hb (h.2 b' o hne ho)⟩
theorem Wrote.alloc {b : Nat} {w w1 : World} (h : Wrote b w w1) (o : Obj) : Wrote b w (w1.alloc o) := h.below ((Below.refl _ w1).alloc (Nat.le_refl _) o)
theorem Wrote.setCell {b : Nat} {w w1 : World} (h : Wrote b w w1) (o : Nat) (v : Value) : Wrote b w (w1.setCell ⟨b, o, none⟩ v) :=
  ⟨fun B w0 hB hf => (h.1 B w0 hB hf).setCell hB v, fun b' o' hne ho => keep_setCell (h.2 b' o' hne ho) (fun e => hne e.symm) v⟩
theorem Wrote.drew {b : Nat} {w w1 : World} (h : Wrote b w w1) : Wrote b w w1.drew := ⟨fun B w0 hB hf => (h.1 B w0 hB hf).drew, fun b' o hne ho => h.2 b' o hne ho⟩
theorem Wrote.drewN {b : Nat} {w w1 : World} (h : Wrote b w w1) (n : Nat) : Wrote b w (w1.drewN n) := ⟨fun B w0 hB hf => (h.1 B w0 hB hf).drewN n, fun b' o hne ho => h.2 b' o hne ho⟩
theorem Wrote.trans {b : Nat} {w w1 w2 : World} (h : Wrote b w w1) (h2 : Wrote b w1 w2) : Wrote b w w2 := ⟨fun B w0 hB hf => h2.1 B w0 hB (h.1 B w0 hB hf), fun b' o hne ho => h2.2 b' o hne (h.2 b' o hne ho)⟩
end Go.Proofs.Ytdeheoaeagoidaa
