/- A job's Step: what it keeps; without a step left; at a lock. -/
import Derived.Test.YtdeheoaeagoidaaTxA
namespace Go.Proofs.Ytdeheoaeagoidaa
open Go.RowKit
set_option linter.unusedSimpArgs false
set_option linter.unusedVariables false
attribute [local simp high] sizeAsk sizeAns zeroAns

/-- Memory: what stands at a, and what was seen, is P. -/
def Mem (w : World) (B s r m cS cN a q : Nat) (P : Nat → Prop) : Prop := ∃ g sn, ShAt w s r m q 2 g ∧ (∀ i, OkL (g i)) ∧ P (numL (fl g) (a - 2147483648) 8) ∧ w.heap[cS]? = some (.cells #[.pointer (some ⟨s, 0, none⟩)] 26) ∧ w.heap[cN]? = some (.cells #[.int .u64 ((sn : Nat) : Int)] 22) ∧ P sn ∧ B ≤ m ∧ B ≤ cN
/-- The ask that h asks. -/
def AskIs (w : World) (cH cA h a : Nat) (P : Nat → Prop) : Prop := (h = 1 ∧ w.heap[cH]? = some (.cells #[.int .i64 1] 3) ∧ w.heap[cA]? = some (.cells (askC 2 a 0) 46)) ∨ (h = 0 ∧ w.heap[cH]? = some (.cells #[.int .i64 0] 3) ∧ ∃ v : Nat, v < 18446744073709551616 ∧ P v ∧ w.heap[cA]? = some (.cells (askC 3 a v) 46))
theorem RamAt.to {w w' : World} {b m k L : Nat} {g : Nat → Nat → Nat} (h : RamAt w b m k L g) (hb : ∀ o, w.heap[b]? = some o → w'.heap[b]? = some o) (hm : ∀ o, w.heap[m]? = some o → w'.heap[m]? = some o) : RamAt w' b m k L g := by
  obtain ⟨h1, D, ⟨es, clock, h2, h3⟩, hD⟩ := h
  exact ⟨hb _ h1, D, ⟨es, clock, hm _ h2, h3⟩, hD⟩
theorem Mem.to {w w' : World} {B s r m cS cN a q : Nat} {P : Nat → Prop} (H : Mem w B s r m cS cN a q P) (hk : ∀ b, (b = s ∨ b = r ∨ b = m ∨ b = cS ∨ b = cN) → ∀ o, w.heap[b]? = some o → w'.heap[b]? = some o) : Mem w' B s r m cS cN a q P := by
  obtain ⟨g, sn, h1, h2, h3, h4, h5, h6⟩ := H
  exact ⟨g, sn, ⟨hk s (.inl rfl) _ h1.1, h1.2.to (hk r (.inr (.inl rfl))) (hk m (.inr (.inr (.inl rfl))))⟩, h2, h3, hk cS (.inr (.inr (.inr (.inl rfl)))) _ h4, hk cN (.inr (.inr (.inr (.inr rfl)))) _ h5, h6⟩
theorem Mem.keep {w w' : World} {B s r m cS cN a q : Nat} {P : Nat → Prop} (H : Mem w B s r m cS cN a q P) (hb : Below w.heap.size w w') : Mem w' B s r m cS cN a q P := H.to (fun b _ o ho => keepB hb ho)
theorem Mem.mono {w : World} {B s r m cS cN a q q' : Nat} {P : Nat → Prop} (H : Mem w B s r m cS cN a q P) (hq : q ≤ q') : Mem w B s r m cS cN a q' P := by
  obtain ⟨g, sn, h1, h2⟩ := H
  exact ⟨g, sn, h1.mono hq, h2⟩
/-- Whatever holds jobs, or a lock, is none of memory's blocks. -/
theorem Mem.apart {w : World} {B s r m cS cN a q : Nat} {P : Nat → Prop} (H : Mem w B s r m cS cN a q P) {b : Nat} (hb : b = s ∨ b = r ∨ b = m ∨ b = cS ∨ b = cN) : (∀ c, w.heap[b]? ≠ some (Obj.cells c 37 (0, 0))) ∧ (∀ c, w.heap[b]? ≠ some (Obj.cells c 102 (0, 0))) ∧ (∀ c, w.heap[b]? ≠ some (Obj.cells c 71 (0, 0))) ∧ (∀ c, w.heap[b]? ≠ some (Obj.cells c 3 (0, 0))) := by
  obtain ⟨g, sn, ⟨h1, h1b, D, ⟨es, ck, h1c, _⟩, _⟩, h2, h3, h4, h5, h6⟩ := H
  rcases hb with rfl | rfl | rfl | rfl | rfl
  · refine ⟨fun c e => ?_, fun c e => ?_, fun c e => ?_, fun c e => ?_⟩ <;> (rw [h1] at e; cases e)
  · refine ⟨fun c e => ?_, fun c e => ?_, fun c e => ?_, fun c e => ?_⟩ <;> (rw [h1b] at e; cases e)
  · refine ⟨fun c e => ?_, fun c e => ?_, fun c e => ?_, fun c e => ?_⟩ <;> (rw [h1c] at e; cases e)
  · refine ⟨fun c e => ?_, fun c e => ?_, fun c e => ?_, fun c e => ?_⟩ <;> (rw [h4] at e; cases e)
  · refine ⟨fun c e => ?_, fun c e => ?_, fun c e => ?_, fun c e => ?_⟩ <;> (rw [h5] at e; cases e)
/-- What a step may write. -/
def XX (m cN bJ mL : Nat) (b : Nat) (o : Obj) : Prop := b = m ∨ b = cN ∨ b = bJ ∨ b = mL ∨ ∃ c, o = Obj.cells c 102 (0, 0)
theorem act_any (B s r m cS cN a q cH cA h : Nat) (P : Nat → Prop) (w : World) (H : Mem w B s r m cS cN a q P) (hA : AskIs w cH cA h a P) (hq : q < 900000) (ha : 2147483648 ≤ a) (ha2 : a + 8 ≤ 2147483648 + 128) :
    Calls Try.prog 10 #[.pointer (some ⟨cS, 0, none⟩), .pointer (some ⟨cH, 0, none⟩), .pointer (some ⟨cA, 0, none⟩), .pointer (some ⟨cN, 0, none⟩)] w fun e w' => e = .returned (.tuple #[]) ∧ Mem w' B s r m cS cN a (q + 4) P ∧ WX B (fun b _ => b = m ∨ b = cN) w w' := by
  have Hap := fun b hb => H.apart (b := b) hb
  obtain ⟨g, sn, h1, h2, h3, h4, h5, h6, h7, h8⟩ := H
  have hm : ∃ es ck, w.heap[m]? = some (.map es ck) := by
    obtain ⟨_, _, D, ⟨es, ck, hh, _⟩, _⟩ := h1
    exact ⟨es, ck, hh⟩
  obtain ⟨es, ck, hmm⟩ := hm
  rcases hA with ⟨rfl, k1, k2⟩ | ⟨rfl, k1, v, hv, hP, k2⟩
  · refine (act_load s r m q a _ cS cH cA cN sn B 0 g w h2 h1 ha ha2 rfl h4 k1 k2 h5).mono ?_
    rintro e w' ⟨rfl, hN, hW⟩
    have n1 : s ≠ cN := by rintro rfl; rw [h1.1] at h5; cases h5
    have n2 : r ≠ cN := by rintro rfl; rw [h1.2.1] at h5; cases h5
    have n3 : m ≠ cN := by rintro rfl; rw [hmm] at h5; cases h5
    have n4 : cS ≠ cN := by rintro rfl; rw [h4] at h5; cases h5
    exact ⟨rfl, ⟨g, _, (h1.wrote hW n1 n2 n3).mono (by omega), h2, h3, hW.2 _ _ n4 h4, hN, h3, h7, h8⟩, (WX.refl _ _ _).wrote hW h8 (fun _ => .inr rfl)⟩
  · refine (act_store s r m q a v cS cH cA cN g w h2 h1 hv hq ha ha2 h4 k1 k2).mono ?_
    rintro e w' ⟨rfl, hW, g', hS, hok, hn⟩
    have n1 : cS ≠ m := by rintro rfl; rw [h4] at hmm; cases hmm
    have n2 : cN ≠ m := by rintro rfl; rw [h5] at hmm; cases hmm
    exact ⟨rfl, ⟨g', sn, hS, hok, by rw [hn]; exact hP, hW.2 _ _ n1 h4, hW.2 _ _ n2 h5, h6, h7, h8⟩, (WX.refl _ _ _).wrote hW h7 (fun _ => .inl rfl)⟩
end Go.Proofs.Ytdeheoaeagoidaa
