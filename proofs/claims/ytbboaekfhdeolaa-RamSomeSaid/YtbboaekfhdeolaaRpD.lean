/- The document's Fill. -/
import Derived.Test.YtbboaekfhdeolaaRpC
namespace Go.Proofs.Ytbboaekfhdeolaa
open Go.RowKit
set_option linter.unusedSimpArgs false
set_option linter.unusedVariables false
attribute [local simp high] sizeLL zeroLL

def fillL (x : Nat → Nat) (f : Nat) (bs : Nat → Nat) (n : Nat) : Nat → Nat := fun p => if f ≤ p ∧ p < f + n then bs (p - f) else x p
theorem fillL_zero (x : Nat → Nat) (f : Nat) (bs : Nat → Nat) : fillL x f bs 0 = x := by
  funext p; unfold fillL; rw [if_neg (by omega)]
theorem fillL_step (x : Nat → Nat) (f : Nat) (bs : Nat → Nat) (k : Nat) : updL (fillL x f bs k) (f + k) (bs k) = fillL x f bs (k + 1) := by
  funext p
  unfold updL fillL
  by_cases e : p = f + k
  · subst e
    rw [if_pos rfl, if_pos (by omega), Nat.add_sub_cancel_left]
  · rw [if_neg e]
    by_cases h : f ≤ p ∧ p < f + k
    · rw [if_pos h, if_pos (by omega)]
    · rw [if_neg h, if_neg (by omega)]
def fillG (g : Nat → Nat → Nat) (f : Nat) (bs : Nat → Nat) (n : Nat) : Nat → Nat → Nat := fun i j => if j < 64 then fillL (fl g) f bs n (64 * i + j) else g i j
theorem fl_fillG (g : Nat → Nat → Nat) (f : Nat) (bs : Nat → Nat) (n : Nat) : fl (fillG g f bs n) = fillL (fl g) f bs n := by
  funext p
  show fillG g f bs n (p / 64) (p % 64) = _
  unfold fillG
  rw [if_pos (by omega), show 64 * (p / 64) + p % 64 = p from by omega]
/-- Laying bytes: what is kept, and whether it is done. -/
def fillR (g : Nat → Nat → Nat) (L addr : Nat) (bs : Nat → Nat) (n : Nat) : (Nat → Nat → Nat) × Bool :=
  if n = 0 then (g, true) else if hasR L addr (n : Int) = true then (fillG g (addr - 2147483648) bs n, true) else (g, false)
theorem Bytes.wrote {w w' : World} {a : Option Addr} {len c : Nat} {b : Nat → Nat} (h : Bytes w a len b) (hW : Wrote c w w') (hc : c < w.heap.size) (hne : 0 < len → ∀ ad, a = some ad → ad.block ≠ c) : Bytes w' a len b := by
  intro i hi
  obtain ⟨ad, e, hl, hx⟩ := h i hi
  have hs : w.heap.size ≤ w'.heap.size := (hW.1 c w (Nat.le_refl _) ⟨Below.refl _ _, Nat.le_of_lt hc⟩).1.size
  obtain ⟨o, ho⟩ : ∃ o, w.heap[ad.block]? = some o := ⟨_, Array.getElem?_eq_getElem hl⟩
  refine ⟨ad, e, Nat.lt_of_lt_of_le hl hs, ?_⟩
  have hb : (ad.add i).block = ad.block := by unfold Addr.add; split <;> rfl
  rw [← hx]
  exact World.cell?_of_block (by rw [hb, hW.2 _ _ (hne (by omega) ad e) ho, ho])
set_option maxRecDepth 100000 in
set_option maxHeartbeats 4000000 in
theorem rfill_yes (c cap L f n addr bcap : Nat) (a : Option Addr) (x bs : Nat → Nat) (w : World) (hA : Hid (2147483648 + f = addr)) (hf : f + n ≤ 64 * L) (h1 : 1 ≤ n) (hL : L ≤ 4096) (hX : XB w c (64 * L) x) (hb : Bytes w a n bs) (hb8 : ∀ i, i < n → bs i < 256) (hne : ∀ ad, a = some ad → ad.block ≠ c) :
    Calls Try.prog 53 #[.agg #[.slice (some ⟨c, 0, none⟩) (64 * L) cap], .int .u64 (addr : Int), .slice a n bcap] w fun e w' => e = .returned (.bool true) ∧ Wrote c w w' ∧ XB w' c (64 * L) (fillL x f bs n) := by
  have hh : hasR L addr (n : Int) = true := by rw [← hA.out]; exact has_true h1 hf
  have had : addr < 18446744073709551616 := by have := hA.out; omega
  obtain ⟨T, hT⟩ : ∃ T, 64 * L = T := ⟨_, rfl⟩
  have HT := Lib.hid hT
  have hfT : f + n ≤ T := by omega
  have hT1 : (T : Int) ≤ 262144 := by omega
  rw [hT] at hX ⊢
  have HAD := Lib.hid had
  have hwa : IntKind.u64.wrap ((addr : Int) - 2147483648) = (f : Int) := by rw [IntKind.wrap_u64]; have := hA.out; omega
  have hwi : IntKind.i64.wrap (f : Int) = (f : Int) := by rw [IntKind.wrap_i64]; omega
  have hn0 : ¬ ((n : Int) = 0) := by omega
  have hcb : w.heap.size ≠ c := by have := hX.1; omega
  have hcl := hX.1
  clear had hT hf
  go_enter Try.func53, Try.ntmps53
  go_wp2_with fail
  refine (rhas_v HT.out hh _ HAD.out (by omega) hL).mono ?_
  rintro e w1 ⟨rfl, hb1⟩
  have hB := keepB hb1 (heap_alloc_new w (.cells #[.slice (some ⟨c, 0, none⟩) T cap] 66))
  have hX1 := (hX.alloc _).keep hb1
  have F1 := Lib.hid (((Fr.refl w).alloc _).step hb1)
  have hby := (hb.keep ((Below.refl _ w).alloc (Nat.le_refl _) (.cells #[.slice (some ⟨c, 0, none⟩) T cap] 66))).keep hb1
  have hcl1 := hX1.1
  clear hb1 hX hb
  go_wp2_with fail
  go_loopw [7] (fun i wr => ∃ k : Nat, k ≤ n ∧ i = .int .i64 (k : Int) ∧ Wrote c w1 wr ∧ XB wr c T (fillL x f bs k))
    (fun i _ => n - (intOf i).toNat)
  case atStart => exact ⟨0, by omega, rfl, Wrote.refl _ _, by rw [fillL_zero]; exact hX1⟩
  case round =>
    obtain ⟨k, hk, rfl, hW, hXk⟩ := hrel
    have cB : wr.cell? ⟨w.heap.size, 0, none⟩ = some (.slice (some ⟨c, 0, none⟩) T cap) := by rw [cell_at (hW.2 _ _ hcb hB)]; rfl
    by_cases hlt : k < n
    · have hj0 : (0 : Int) ≤ k := by omega
      obtain ⟨cx, fx⟩ := hXk.2 (f + k) (by omega)
      obtain ⟨ad, rfl, hadl, cby⟩ := (hby.wrote hW hcl1 (fun _ => hne)) k hlt
      have htn : ((f : Int) + (k : Int)).toNat = f + k := by omega
      have hij0 : (0 : Int) ≤ (f : Int) + k := by omega
      have hij1 : (f : Int) + k < T := by omega
      have hlt' : (k : Int) < n := by omega
      have hwf : IntKind.i64.wrap ((f : Int) + (k : Int)) = (f : Int) + (k : Int) := by rw [IntKind.wrap_i64]; omega
      have e1 := hXk.set (i := f + k) (by omega) (bs k)
      rw [fillL_step] at e1
      obtain ⟨z, hz⟩ : ∃ z, bs k = z := ⟨_, rfl⟩
      rw [hz] at e1 cby
      have E := Lib.hid (And.intro (hW.set (f + k) (.int .u8 (z : Int))).drew (e1.keep (Fr.refl _).drew.1))
      clear e1 hW hXk hz hB hX1 hby hne hb8
      go_wp2
      go_region
      go_wp2
      exact ⟨⟨k + 1, by omega, by go_num, E.out⟩, by simp [intOf]; omega⟩
    · have e : k = n := by omega
      subst e
      have hnl : ¬ ((k : Int) < k) := by omega
      have E := Lib.hid (And.intro hW hXk)
      clear hW hXk hB hX1
      go_wp2
      go_ret
      exact ⟨rfl, (below_wrote F1.out.1).trans E.out.1, E.out.2⟩
set_option maxRecDepth 100000 in
set_option maxHeartbeats 4000000 in
theorem rfill_no (c cap L n addr bcap : Nat) (a : Option Addr) (w : World) (ha : addr < 18446744073709551616) (hn : n ≤ 500) (h1 : 1 ≤ n) (hL : L ≤ 4096) (hh : hasR L addr (n : Int) = false) :
    Calls Try.prog 53 #[.agg #[.slice (some ⟨c, 0, none⟩) (64 * L) cap], .int .u64 (addr : Int), .slice a n bcap] w fun e w' => e = .returned (.bool false) ∧ Below w.heap.size w w' := by
  obtain ⟨T, hT⟩ : ∃ T, 64 * L = T := ⟨_, rfl⟩
  have HT := Lib.hid hT
  rw [hT]
  have HA := Lib.hid ha
  have hn0 : ¬ ((n : Int) = 0) := by omega
  clear hT ha
  go_enter Try.func53, Try.ntmps53
  go_wp2_with fail
  refine (rhas_v HT.out hh _ HA.out (by omega) hL).mono ?_
  rintro e w1 ⟨rfl, hb1⟩
  have F1 := Lib.hid (((Fr.refl w).alloc _).step hb1)
  go_wp2_with fail
  go_ret
  exact ⟨rfl, F1.out.1⟩
set_option maxRecDepth 100000 in
set_option maxHeartbeats 4000000 in
theorem rfill_none (c T cap addr bcap : Nat) (a : Option Addr) (w : World) :
    Calls Try.prog 53 #[.agg #[.slice (some ⟨c, 0, none⟩) T cap], .int .u64 (addr : Int), .slice a 0 bcap] w fun e w' => e = .returned (.bool true) ∧ Below w.heap.size w w' := by
  go_enter Try.func53, Try.ntmps53
  go_wp2
  go_ret
  exact ⟨rfl, ((Fr.refl w).alloc _).1⟩
theorem rfill_any (c cap L n addr bcap : Nat) (a : Option Addr) (g : Nat → Nat → Nat) (bs : Nat → Nat) (w : World) (ha : addr < 18446744073709551616) (hn : n ≤ 500) (hL : L ≤ 4096) (hX : XB w c (64 * L) (fl g)) (hb : Bytes w a n bs) (hb8 : ∀ i, i < n → bs i < 256) (hne : 0 < n → ∀ ad, a = some ad → ad.block ≠ c) :
    Calls Try.prog 53 #[.agg #[.slice (some ⟨c, 0, none⟩) (64 * L) cap], .int .u64 (addr : Int), .slice a n bcap] w fun e w' => e = .returned (.bool (fillR g L addr bs n).2) ∧ Wrote c w w' ∧ XB w' c (64 * L) (fl (fillR g L addr bs n).1) := by
  unfold fillR
  split
  · rename_i h0
    subst h0
    exact (rfill_none c (64 * L) cap addr bcap a w).mono fun e w' h => ⟨h.1, below_wrote h.2, hX.keep h.2⟩
  · rename_i h0
    split
    · rename_i hq
      obtain ⟨a1, a2, a3⟩ := has_t hq
      show Calls _ _ _ _ fun e w' => e = .returned (.bool true) ∧ Wrote c w w' ∧ XB w' c (64 * L) (fl (fillG g (addr - 2147483648) bs n))
      rw [fl_fillG]
      exact rfill_yes c cap L (addr - 2147483648) n addr bcap a (fl g) bs w (Lib.hid (by omega)) (by omega) (by omega) hL hX hb hb8 (hne (by omega))
    · rename_i hq
      exact (rfill_no c cap L n addr bcap a w ha hn (by omega) hL (by simpa using hq)).mono fun e w' h => ⟨h.1, below_wrote h.2, hX.keep h.2⟩
end Go.Proofs.Ytbboaekfhdeolaa
