/- The law's round: what holds at its head and between its parts. Plain lemmas. -/
import Derived.Test.YtdeheoaeagoidaaTxE
namespace Go.Proofs.Ytdeheoaeagoidaa
open Go.RowKit
set_option linter.unusedSimpArgs false
set_option linter.unusedVariables false

def BusyOk (w : World) (bJ : Nat) (jc : Array Value) (h : Nat) (q : Bool) : Prop := q = true → ∃ g cap took did gave Bq, JobAt w bJ (h * 4) jc g cap took did gave ∧ w.ownsRow Bq 3 1 (.slice (some ⟨g, 0, none⟩) 2 cap) 2 ints01 ∧ took ≤ 2 ∧ gave ≤ 2
/-- What holds of the world at a round's head; of hart x's job nothing is said. -/
def RI (w : World) (B s r m cS cN bL mL bJ bB a k : Nat) (P : Nat → Prop) (q : Nat → Bool) (x : Nat) : Prop := ∃ f jc, LocksAt w B bL mL k f ∧ Mem w B s r m cS cN a (4 * k) P ∧ w.heap[bJ]? = some (.cells jc 37) ∧ jc.size = 8 ∧ w.heap[bB]? = some (.cells #[.bool (q 0), .bool (q 1)] 38) ∧ (∀ i, i < 2 → i ≠ x → BusyOk w bJ jc i (q i)) ∧ m ≠ mL ∧ B ≤ bJ ∧ B ≤ bB
theorem BusyOk.keep {w w' : World} {bJ h : Nat} {jc : Array Value} {q : Bool} (H : BusyOk w bJ jc h q) (hb : Below w.heap.size w w') : BusyOk w' bJ jc h q := fun hq => by
  obtain ⟨g, cap, took, did, gave, Bq, h1, h2, h3⟩ := H hq
  exact ⟨g, cap, took, did, gave, Bq, h1.keep hb, own_keep h2 hb, h3⟩
theorem RI.keep {w w' : World} {B s r m cS cN bL mL bJ bB a k : Nat} {P : Nat → Prop} {q : Nat → Bool} {x : Nat} (H : RI w B s r m cS cN bL mL bJ bB a k P q x) (hb : Below w.heap.size w w') : RI w' B s r m cS cN bL mL bJ bB a k P q x := by
  obtain ⟨f, jc, h1, h2, h3, h4, h5, h6, h7⟩ := H
  exact ⟨f, jc, h1.keep hb, h2.keep hb, keepB hb h3, h4, keepB hb h5, fun i hi hx => (h6 i hi hx).keep hb, h7⟩
/-- Four cells of a job. -/
def setJ (w : World) (b o : Nat) (v0 v1 v2 v3 : Value) : World := (((w.setCell ⟨b, o, none⟩ v0).setCell ⟨b, o + 1, none⟩ v1).setCell ⟨b, o + 2, none⟩ v2).setCell ⟨b, o + 3, none⟩ v3
def setA (c : Array Value) (o : Nat) (v0 v1 v2 v3 : Value) : Array Value := (((c.setIfInBounds o v0).setIfInBounds (o + 1) v1).setIfInBounds (o + 2) v2).setIfInBounds (o + 3) v3
theorem setJ_wrote (w : World) (b o : Nat) (v0 v1 v2 v3 : Value) : Wrote b w (setJ w b o v0 v1 v2 v3) := ((((Wrote.refl b w).setCell o v0).setCell (o + 1) v1).setCell (o + 2) v2).setCell (o + 3) v3
theorem setJ_at {w : World} {b : Nat} {c : Array Value} {t : TypeId} {f : Nat × Nat} (h : w.heap[b]? = some (.cells c t f)) (o : Nat) (v0 v1 v2 v3 : Value) : (setJ w b o v0 v1 v2 v3).heap[b]? = some (.cells (setA c o v0 v1 v2 v3) t f) := set_at (set_at (set_at (set_at h o v0) (o + 1) v1) (o + 2) v2) (o + 3) v3
theorem setA_far {c : Array Value} {o j : Nat} (v0 v1 v2 v3 : Value) (hj : j < o ∨ o + 4 ≤ j) : (setA c o v0 v1 v2 v3)[j]? = c[j]? := by
  unfold setA
  rw [Array.getElem?_setIfInBounds_ne (by omega), Array.getElem?_setIfInBounds_ne (by omega), Array.getElem?_setIfInBounds_ne (by omega), Array.getElem?_setIfInBounds_ne (by omega)]
theorem setA_size (c : Array Value) (o : Nat) (v0 v1 v2 v3 : Value) : (setA c o v0 v1 v2 v3).size = c.size := by simp [setA]
theorem setA_job {w : World} {b o g cap : Nat} {c : Array Value} (hb : w.heap[b]? = some (.cells (setA c o (.slice (some ⟨g, 0, none⟩) 2 cap) (.int .i64 0) (.bool false) (.int .i64 0)) 37)) (ho : o + 3 < c.size) : JobAt w b o (setA c o (.slice (some ⟨g, 0, none⟩) 2 cap) (.int .i64 0) (.bool false) (.int .i64 0)) g cap 0 false 0 := by
  refine ⟨hb, ?_, ?_, ?_, ?_⟩ <;> (unfold setA; simp [Array.getElem?_setIfInBounds]; try omega)
theorem Mem.far {w w' : World} {B s r m cS cN a q p : Nat} {P : Nat → Prop} {c : Array Value} {T : TypeId} {fz : Nat × Nat} (H : Mem w B s r m cS cN a q P) (hW : Wrote p w w') (hp : w.heap[p]? = some (.cells c T fz)) (hT : T ≠ 68 ∧ T ≠ 90 ∧ T ≠ 26 ∧ T ≠ 22) : Mem w' B s r m cS cN a q P := by
  have H0 := H
  obtain ⟨g, sn, ⟨h1, h1b, D, ⟨es', ck', h1c, _⟩, _⟩, h2, h3, h4, h5, h6⟩ := H0
  refine H.to fun b hb o ho => hW.2 b o ?_ ho
  intro e
  subst e
  rcases hb with rfl | rfl | rfl | rfl | rfl
  · rw [hp] at h1; cases h1; exact hT.1 rfl
  · rw [hp] at h1b; cases h1b; exact hT.2.1 rfl
  · rw [hp] at h1c; cases h1c
  · rw [hp] at h4; cases h4; exact hT.2.2.1 rfl
  · rw [hp] at h5; cases h5; exact hT.2.2.2 rfl
theorem LocksAt.far {w w' : World} {B b m n p : Nat} {f : Nat → Option Nat} {c : Array Value} {T : TypeId} {fz : Nat × Nat} (H : LocksAt w B b m n f) (hW : Wrote p w w') (hp : w.heap[p]? = some (.cells c T fz)) (hT : T ≠ 71 ∧ T ≠ 3 ∧ T ≠ 102) : LocksAt w' B b m n f := by
  obtain ⟨es, ck, hes⟩ := H.2.2.1.map
  refine H.wrote hW ?_ ?_ (fun c' => ⟨fun e => ?_, fun e => ?_⟩)
  · rintro rfl; have := H.2.1; rw [hp] at this; cases this; exact hT.1 rfl
  · rintro rfl; rw [hes] at hp; cases hp
  · rw [hp] at e; cases e; exact hT.2.1 rfl
  · rw [hp] at e; cases e; exact hT.2.2 rfl
theorem BusyOk.far {w w' : World} {bJ h p : Nat} {jc : Array Value} {q : Bool} {c : Array Value} {T : TypeId} {fz : Nat × Nat} (H : BusyOk w bJ jc h q) (hW : Wrote p w w') (hp : w.heap[p]? = some (.cells c T fz)) (hT : T ≠ 37 ∧ T ≠ 3) : BusyOk w' bJ jc h q := fun hq => by
  obtain ⟨g, cap, took, did, gave, Bq, h1, h2, h3⟩ := H hq
  refine ⟨g, cap, took, did, gave, Bq, h1.to (hW.2 _ _ ?_), own_wrote h2 hW ?_, h3⟩
  · rintro rfl; have := h1.blk; rw [hp] at this; cases this; exact hT.1 rfl
  · obtain ⟨cur, hc, _⟩ := own_block h2 (by omega)
    rintro rfl; rw [hp] at hc; cases hc; exact hT.2 rfl
theorem busy_set {h : Nat} (hh : h < 2) (q : Nat → Bool) (v : Bool) : (#[Value.bool (q 0), .bool (q 1)] : Array Value).setIfInBounds h (.bool v) = #[.bool (if 0 = h then v else q 0), .bool (if 1 = h then v else q 1)] := by
  rcases lk_lt2 hh with rfl | rfl <;> rfl
def updB (q : Nat → Bool) (h : Nat) (v : Bool) : Nat → Bool := fun i => if i = h then v else q i
theorem RI.busyOn {w : World} {B s r m cS cN bL mL bJ bB a k h : Nat} {P : Nat → Prop} {q : Nat → Bool} (H : RI w B s r m cS cN bL mL bJ bB a k P q 2) (hh : h < 2) : RI (w.setCell ⟨bB, h, none⟩ (.bool true)) B s r m cS cN bL mL bJ bB a k P (updB q h true) h := by
  obtain ⟨f, jc, h1, h2, h3, h4, h5, h6, h7, h8, h9⟩ := H
  have W := (Wrote.refl bB w).setCell h (.bool true)
  refine ⟨f, jc, h1.far W h5 ⟨by decide, by decide, by decide⟩, h2.far W h5 ⟨by decide, by decide, by decide, by decide⟩, W.2 _ _ ?_ h3, h4, ?_, fun i hi hx => ?_, h7, h8, h9⟩
  · rintro rfl; rw [h5] at h3; cases h3
  · have := set_at h5 h (.bool true)
    rw [busy_set hh] at this
    exact this
  · have : updB q h true i = q i := by unfold updB; rw [if_neg hx]
    rw [this]
    exact (h6 i hi (by omega)).far W h5 ⟨by decide, by decide⟩
theorem RI.busyOff {w : World} {B s r m cS cN bL mL bJ bB a k h : Nat} {P : Nat → Prop} {q : Nat → Bool} (H : RI w B s r m cS cN bL mL bJ bB a k P q 2) (hh : h < 2) : RI (w.setCell ⟨bB, h, none⟩ (.bool false)) B s r m cS cN bL mL bJ bB a k P (updB q h false) 2 := by
  obtain ⟨f, jc, h1, h2, h3, h4, h5, h6, h7, h8, h9⟩ := H
  have W := (Wrote.refl bB w).setCell h (.bool false)
  refine ⟨f, jc, h1.far W h5 ⟨by decide, by decide, by decide⟩, h2.far W h5 ⟨by decide, by decide, by decide, by decide⟩, W.2 _ _ ?_ h3, h4, ?_, fun i hi hx => ?_, h7, h8, h9⟩
  · rintro rfl; rw [h5] at h3; cases h3
  · have := set_at h5 h (.bool false)
    rw [busy_set hh] at this
    exact this
  · by_cases e : i = h
    · intro hq
      unfold updB at hq
      rw [if_pos e] at hq
      cases hq
    · have : updB q h false i = q i := by unfold updB; rw [if_neg e]
      rw [this]
      exact (h6 i hi (by omega)).far W h5 ⟨by decide, by decide⟩
/-- A job is planned. -/
theorem RI.plan {w : World} {B s r m cS cN bL mL bJ bB a k h g cap Bq : Nat} {P : Nat → Prop} {q : Nat → Bool} (H : RI w B s r m cS cN bL mL bJ bB a k P q h) (hh : h < 2) (hR : w.ownsRow Bq 3 1 (.slice (some ⟨g, 0, none⟩) 2 cap) 2 ints01) :
    RI (setJ w bJ (h * 4) (.slice (some ⟨g, 0, none⟩) 2 cap) (.int .i64 0) (.bool false) (.int .i64 0)) B s r m cS cN bL mL bJ bB a k P q 2 := by
  obtain ⟨f, jc, h1, h2, h3, h4, h5, h6, h7, h8, h9⟩ := H
  have W := setJ_wrote w bJ (h * 4) (.slice (some ⟨g, 0, none⟩) 2 cap) (.int .i64 0) (.bool false) (.int .i64 0)
  have K := setJ_at h3 (h * 4) (.slice (some ⟨g, 0, none⟩) 2 cap) (.int .i64 0) (.bool false) (.int .i64 0)
  have gne : ∀ {B2 g2 cap2 : Nat}, w.ownsRow B2 3 1 (.slice (some ⟨g2, 0, none⟩) 2 cap2) 2 ints01 → g2 ≠ bJ := by
    intro B2 g2 cap2 ho
    obtain ⟨cur, hc, _⟩ := own_block ho (by omega)
    rintro rfl; rw [h3] at hc; cases hc
  refine ⟨f, _, h1.job W h3, h2.job W h3, K, by rw [setA_size]; exact h4, W.2 _ _ (by rintro rfl; rw [h5] at h3; cases h3) h5, fun i hi _ => ?_, h7, h8, h9⟩
  by_cases e : i = h
  · subst e
    intro _
    exact ⟨g, cap, 0, false, 0, Bq, setA_job K (by omega), own_wrote hR W (gne hR), by omega, by omega⟩
  · intro hq
    obtain ⟨g', cap', took, did, gave, Bq', j1, j2, j3⟩ := h6 i hi e hq
    refine ⟨g', cap', took, did, gave, Bq', ⟨K, ?_, ?_, ?_, ?_⟩, own_wrote j2 W (gne j2), j3⟩
    · rw [setA_far _ _ _ _ (by omega)]; exact j1.need
    · rw [setA_far _ _ _ _ (by omega)]; exact j1.tk
    · rw [setA_far _ _ _ _ (by omega)]; exact j1.dd
    · rw [setA_far _ _ _ _ (by omega)]; exact j1.gv
theorem WX.far {w w' : World} {B s r m cS cN bL mL bJ a k q : Nat} {P : Nat → Prop} {f : Nat → Option Nat} {jc : Array Value} (h1 : LocksAt w B bL mL k f) (h2 : Mem w B s r m cS cN a q P) (h3 : w.heap[bJ]? = some (.cells jc 37)) (p7 : WX B (XX m cN bJ mL) w w') {b : Nat} {c : Array Value} {T : TypeId} (hb : w.heap[b]? = some (.cells c T)) (hT : T ≠ 37 ∧ T ≠ 102 ∧ T ≠ 22) : w'.heap[b]? = some (.cells c T) := by
  obtain ⟨es, ck, hes⟩ := h1.2.2.1.map
  refine p7.2 b _ ?_ hb
  have hN : ∃ sn, w.heap[cN]? = some (.cells #[.int .u64 ((sn : Nat) : Int)] 22) := by
    obtain ⟨g, sn, a1, a2, a3, a4, a5, a6⟩ := h2; exact ⟨sn, a5⟩
  have hm : ∃ es ck, w.heap[m]? = some (.map es ck) := by
    obtain ⟨g, sn, ⟨_, _, D, ⟨es', ck', hc, _⟩, _⟩, _⟩ := h2; exact ⟨es', ck', hc⟩
  obtain ⟨sn, hN⟩ := hN
  obtain ⟨es', ck', hm⟩ := hm
  rintro (e | e | e | e | ⟨c', e⟩)
  · rw [e, hm] at hb; cases hb
  · rw [e, hN] at hb; cases hb; exact hT.2.2 rfl
  · rw [e, h3] at hb; cases hb; exact hT.1 rfl
  · rw [e, hes] at hb; cases hb
  · cases e; exact hT.2.1 rfl
/-- What a step leaves. -/
theorem RI.stepped {w w' : World} {B s r m cS cN bL mL bJ bB a k h g cap took gave took' gave' Bq : Nat} {did did' : Bool} {P : Nat → Prop} {q : Nat → Bool} {f f' : Nat → Option Nat} {jc c' : Array Value}
    (h1 : LocksAt w B bL mL k f) (h2 : Mem w B s r m cS cN a (4 * k) P) (h3 : w.heap[bJ]? = some (.cells jc 37)) (h4 : jc.size = 8) (h5 : w.heap[bB]? = some (.cells #[.bool (q 0), .bool (q 1)] 38)) (h6 : ∀ i, i < 2 → BusyOk w bJ jc i (q i)) (h7 : m ≠ mL) (h8 : B ≤ bJ) (h9 : B ≤ bB) (hh : h < 2)
    (hR : w.ownsRow Bq 3 1 (.slice (some ⟨g, 0, none⟩) 2 cap) 2 ints01)
    (p1 : LocksAt w' B bL mL (k + 1) f') (p2 : Mem w' B s r m cS cN a (4 * k + 4) P) (p3 : JobAt w' bJ (h * 4) c' g cap took' did' gave') (p4 : took' ≤ 2) (p5 : gave' ≤ 2) (p6 : ∀ j, (j < h * 4 ∨ h * 4 + 4 ≤ j) → c'[j]? = jc[j]?) (p7 : WX B (XX m cN bJ mL) w w') :
    RI w' B s r m cS cN bL mL bJ bB a (k + 1) P q 2 := by
  obtain ⟨es, ck, hes⟩ := h1.2.2.1.map
  have far : ∀ {b : Nat} {c : Array Value} {T : TypeId}, w.heap[b]? = some (.cells c T) → T ≠ 37 → T ≠ 102 → T ≠ 22 → w'.heap[b]? = some (.cells c T) := by
    intro b c T hb t1 t2 t3
    refine p7.2 b _ ?_ hb
    have hN : ∃ sn, w.heap[cN]? = some (.cells #[.int .u64 ((sn : Nat) : Int)] 22) := by
      obtain ⟨g, sn, a1, a2, a3, a4, a5, a6⟩ := h2; exact ⟨sn, a5⟩
    have hm : ∃ es ck, w.heap[m]? = some (.map es ck) := by
      obtain ⟨g, sn, ⟨_, _, D, ⟨es', ck', hc, _⟩, _⟩, _⟩ := h2; exact ⟨es', ck', hc⟩
    obtain ⟨sn, hN⟩ := hN
    obtain ⟨es', ck', hm⟩ := hm
    rintro (e | e | e | e | ⟨c', e⟩)
    · rw [e, hm] at hb; cases hb
    · rw [e, hN] at hb; cases hb; exact t3 rfl
    · rw [e, h3] at hb; cases hb; exact t1 rfl
    · rw [e, hes] at hb; cases hb
    · cases e; exact t2 rfl
  have rows : ∀ {B2 g2 cap2 : Nat}, w.ownsRow B2 3 1 (.slice (some ⟨g2, 0, none⟩) 2 cap2) 2 ints01 → w'.ownsRow B2 3 1 (.slice (some ⟨g2, 0, none⟩) 2 cap2) 2 ints01 := by
    intro B2 g2 cap2 ho
    obtain ⟨cur, hc, _⟩ := own_block ho (by omega)
    exact own_same ho (fun o ho2 => by rw [hc] at ho2; cases ho2; exact far hc (by decide) (by decide) (by decide))
  have hsz : c'.size = 8 := by
    have hlt : 7 < c'.size ∧ c'[8]? = none := by
      rcases lk_lt2 hh with rfl | rfl
      · have e7 := p6 7 (by omega)
        have e8 := p6 8 (by omega)
        rw [Array.getElem?_eq_getElem (by omega : 7 < jc.size)] at e7
        rw [Array.getElem?_eq_none (by omega : jc.size ≤ 8)] at e8
        exact ⟨(Array.getElem?_eq_some_iff.1 e7).1, e8⟩
      · have e7 := p3.gv
        have e8 := p6 8 (by omega)
        rw [Array.getElem?_eq_none (by omega : jc.size ≤ 8)] at e8
        exact ⟨(Array.getElem?_eq_some_iff.1 e7).1, e8⟩
    have := Array.getElem?_eq_none_iff.1 hlt.2
    omega
  refine ⟨f', c', p1, p2.mono (by omega), p3.blk, hsz, far h5 (by decide) (by decide) (by decide), fun i hi _ hq => ?_, h7, h8, h9⟩
  by_cases e : i = h
  · subst e
    exact ⟨g, cap, took', did', gave', Bq, p3, rows hR, p4, p5⟩
  · obtain ⟨g', cap', tk, dd, gv, Bq', j1, j2, j3⟩ := h6 i hi hq
    exact ⟨g', cap', tk, dd, gv, Bq', ⟨p3.blk, by rw [p6 _ (by omega)]; exact j1.need, by rw [p6 _ (by omega)]; exact j1.tk, by rw [p6 _ (by omega)]; exact j1.dd, by rw [p6 _ (by omega)]; exact j1.gv⟩, rows j2, j3⟩
end Go.Proofs.Ytdeheoaeagoidaa
