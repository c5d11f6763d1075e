/- What may be written; the law's closure; a job's Done. -/
import Derived.Test.YtdeheoaeagoidaaTwY
namespace Go.Proofs.Ytdeheoaeagoidaa
open Go.RowKit
set_option linter.unusedSimpArgs false
set_option linter.unusedVariables false
attribute [local simp high] sizeAsk sizeAns zeroAns

/-- Below B nothing is written, and from B on only what X names. -/
def WX (B : Nat) (X : Nat → Obj → Prop) (w w' : World) : Prop := (∀ w0, Fr B w0 w → Fr B w0 w') ∧ ∀ (b : Nat) (o : Obj), ¬ X b o → w.heap[b]? = some o → w'.heap[b]? = some o
theorem WX.refl (B : Nat) (X : Nat → Obj → Prop) (w : World) : WX B X w w := ⟨fun _ h => h, fun _ _ _ h => h⟩
theorem WX.trans {B : Nat} {X : Nat → Obj → Prop} {w w1 w2 : World} (h : WX B X w w1) (h2 : WX B X w1 w2) : WX B X w w2 := ⟨fun w0 h0 => h2.1 w0 (h.1 w0 h0), fun b o hx hh => h2.2 b o hx (h.2 b o hx hh)⟩
theorem WX.below {B : Nat} {X : Nat → Obj → Prop} {w w1 w2 : World} (h : WX B X w w1) (hb : Below w1.heap.size w1 w2) : WX B X w w2 := h.trans ⟨fun w0 h0 => h0.step hb, fun b o _ hh => keepB hb hh⟩
theorem WX.wrote {B p : Nat} {X : Nat → Obj → Prop} {w w1 w2 : World} (h : WX B X w w1) (hW : Wrote p w1 w2) (hB : B ≤ p) (hX : ∀ o, X p o) : WX B X w w2 := h.trans ⟨fun w0 h0 => hW.1 B w0 hB h0, fun b o hx hh => hW.2 b o (fun e => hx (by rw [e]; exact hX o)) hh⟩
theorem WX.kl {B m : Nat} {X : Nat → Obj → Prop} {w w1 w2 : World} (h : WX B X w w1) (hK : KL m B w1 w2) (hX : ∀ o, X m o) (hL : ∀ b c, X b (Obj.cells c 102 (0, 0))) : WX B X w w2 := h.trans ⟨hK.1, fun b o hx hh => hK.2 b o (fun e => hx (by rw [e]; exact hX o)) (fun c e => hx (by rw [e]; exact hL b c)) hh⟩
theorem WX.mono {B : Nat} {X Y : Nat → Obj → Prop} {w w1 : World} (h : WX B X w w1) (hXY : ∀ b o, X b o → Y b o) : WX B Y w w1 := ⟨h.1, fun b o hy => h.2 b o (fun hx => hy (hXY b o hx))⟩
theorem one_at {w : World} {b : Nat} {v : Value} {t : TypeId} (h : w.heap[b]? = some (.cells #[v] t)) : w.cell? ⟨b, 0, none⟩ = some v ∧ b < w.heap.size ∧ ∀ o, w.frozen? ⟨b, o, none⟩ = false := ⟨by rw [cell_at h]; rfl, lt_of_at h, fun o => by simp [World.frozen?, h]⟩
set_option maxRecDepth 100000 in
set_option maxHeartbeats 8000000 in
theorem act_load (s r m q a D cS cH cA cN sn B : Nat) (d : Int) (g : Nat → Nat → Nat) (w : World) (okg : ∀ i, OkL (g i)) (hS : ShAt w s r m q 2 g) (ha : 2147483648 ≤ a) (ha2 : a + 8 ≤ 2147483648 + 128) (hD : numL (fl g) (a - 2147483648) 8 = D) (hcS : w.heap[cS]? = some (.cells #[.pointer (some ⟨s, 0, none⟩)] 26)) (hcH : w.heap[cH]? = some (.cells #[.int .i64 1] 3)) (hcA : w.heap[cA]? = some (.cells (askC 2 a d) 46)) (hcN : w.heap[cN]? = some (.cells #[.int .u64 (sn : Int)] 22)) :
    Calls Try.prog 10 #[.pointer (some ⟨cS, 0, none⟩), .pointer (some ⟨cH, 0, none⟩), .pointer (some ⟨cA, 0, none⟩), .pointer (some ⟨cN, 0, none⟩)] w fun e w' => e = .returned (.tuple #[]) ∧ w'.heap[cN]? = some (.cells #[.int .u64 (D : Int)] 22) ∧ Wrote cN w w' := by
  obtain ⟨s0, sl, sf⟩ := one_at hcS
  obtain ⟨h0, hl, hf⟩ := one_at hcH
  obtain ⟨n0, nl, nf⟩ := one_at hcN
  have ld := ldRow (P := Try.prog) hcA (size_askC 2 a d)
  have hs := size_askC 2 a d
  have HD := Lib.hid (do_load s r m q 2 a 1 D d g w okg hS (by omega) ha ha2 (by omega) hD)
  clear hD ha ha2 okg
  go_enter Try.func10, Try.ntmps10
  go_wp2_with fail
  refine HD.out.mono ?_
  rintro e w1 ⟨rfl, hb1⟩
  have kN := keepB hb1 hcN
  have al := (Fr.refl w1).alloc (.cells (ansC D) 52)
  have kN2 := keepB al.1 kN
  have kH2 := keepB al.1 (keepB hb1 hcH)
  have kA2 := heap_alloc_new w1 (.cells (ansC D) 52)
  have a0 : (w1.alloc (.cells (ansC D) 52)).cell? ⟨w1.heap.size, 0, none⟩ = some (.int .u64 (D : Int)) := by rw [cell_at kA2]; rfl
  obtain ⟨p0, pl, pf⟩ := one_at kH2
  obtain ⟨q0, ql, qf⟩ := one_at kN2
  have stn := stnAns w1
  have hs3 := size_ansC D
  have WE := (((Wrote.refl cN w).below hb1).below al.1).setCell 0 (.int .u64 (D : Int))
  have kE : ((w1.alloc (.cells (ansC D) 52)).setCell ⟨cN, 0, none⟩ (.int .u64 (D : Int))).heap[cN]? = some (.cells #[.int .u64 (D : Int)] 22) := set_at kN2 0 _
  have HE := Lib.hid (And.intro kE WE)
  clear s0 sl sf h0 hl hf n0 nl nf ld hs hb1 kN al kN2 kH2 kA2 WE kE
  go_wp2_with fail
  go_end0
  exact ⟨rfl, HE.out⟩
set_option maxRecDepth 100000 in
set_option maxHeartbeats 8000000 in
theorem act_store (s r m q a v cS cH cA cN : Nat) (g : Nat → Nat → Nat) (w : World) (okg : ∀ i, OkL (g i)) (hS : ShAt w s r m q 2 g) (hv : v < 18446744073709551616) (hk : q < 900000) (ha : 2147483648 ≤ a) (ha2 : a + 8 ≤ 2147483648 + 128) (hcS : w.heap[cS]? = some (.cells #[.pointer (some ⟨s, 0, none⟩)] 26)) (hcH : w.heap[cH]? = some (.cells #[.int .i64 0] 3)) (hcA : w.heap[cA]? = some (.cells (askC 3 a v) 46)) :
    Calls Try.prog 10 #[.pointer (some ⟨cS, 0, none⟩), .pointer (some ⟨cH, 0, none⟩), .pointer (some ⟨cA, 0, none⟩), .pointer (some ⟨cN, 0, none⟩)] w fun e w' => e = .returned (.tuple #[]) ∧ Wrote m w w' ∧ ∃ g', ShAt w' s r m (q + 4) 2 g' ∧ (∀ i, OkL (g' i)) ∧ numL (fl g') (a - 2147483648) 8 = v := by
  obtain ⟨s0, sl, sf⟩ := one_at hcS
  obtain ⟨h0, hl, hf⟩ := one_at hcH
  have ld := ldRow (P := Try.prog) hcA (size_askC 3 a v)
  have hs := size_askC 3 a v
  have HD := Lib.hid (do_store s r m q 2 a 0 v g w okg hv hS (by omega) hk ha ha2 (by omega))
  have hHm : cH ≠ m := by
    obtain ⟨_, _, D, ⟨es, clock, h3, _⟩, _⟩ := hS
    rintro rfl
    rw [hcH] at h3; cases h3
  clear ha ha2 okg hv
  go_enter Try.func10, Try.ntmps10
  go_wp2_with fail
  refine HD.out.mono ?_
  rintro e w1 ⟨rfl, W1, g', S1, ok1, hn1⟩
  have al := (Fr.refl w1).alloc (.cells (ansC 0) 52)
  have kH2 := keepB al.1 (W1.2 _ _ hHm hcH)
  obtain ⟨p0, pl, pf⟩ := one_at kH2
  have stn := stnAns w1
  have hs3 := size_ansC 0
  have HE := Lib.hid (And.intro (W1.below al.1) (And.intro (S1.keep al.1) (And.intro ok1 hn1)))
  clear s0 sl sf h0 hl hf ld hs al kH2 W1 S1 ok1 hn1
  go_wp2_with fail
  go_end0
  exact ⟨rfl, HE.out.1, g', HE.out.2⟩
end Go.Proofs.Ytdeheoaeagoidaa
