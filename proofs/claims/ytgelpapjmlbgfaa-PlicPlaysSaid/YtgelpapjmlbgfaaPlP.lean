/- The plic: what is read, written and wired. Plain. -/
import Derived.Test.YtgelpapjmlbgfaaPlA
namespace Go.Proofs.Ytgelpapjmlbgfaa
open Go.RowKit
set_option linter.unusedSimpArgs false
set_option linter.unusedVariables false

/- The best of some. -/
def cand (m : Nat → Bool) (pr : Nat → Nat) (a i : Nat) : Bool := m i && decide (a < pr i)
def bestU (m : Nat → Bool) (pr : Nat → Nat) (a : Nat) : Nat → Nat
  | 0 => 0
  | k + 1 => if cand m pr a (k + 1) = true ∧ (bestU m pr a k = 0 ∨ pr (bestU m pr a k) < pr (k + 1)) then k + 1 else bestU m pr a k
def bestD (m : Nat → Bool) (pr : Nat → Nat) (a : Nat) : Nat → Nat
  | 0 => 0
  | j + 1 => if cand m pr a (31 - j) = true ∧ (bestD m pr a j = 0 ∨ pr (bestD m pr a j) ≤ pr (31 - j)) then 31 - j else bestD m pr a j
def GoodB (m : Nat → Bool) (pr : Nat → Nat) (a lo hi o : Nat) : Prop :=
  (o = 0 ∧ ∀ i, lo ≤ i → i ≤ hi → cand m pr a i = false) ∨ (lo ≤ o ∧ o ≤ hi ∧ cand m pr a o = true ∧ ∀ i, lo ≤ i → i ≤ hi → cand m pr a i = true → pr i ≤ pr o ∧ (pr i = pr o → o ≤ i))
theorem goodU (m : Nat → Bool) (pr : Nat → Nat) (a : Nat) : ∀ k, GoodB m pr a 1 k (bestU m pr a k)
  | 0 => Or.inl ⟨rfl, fun i h1 h2 => by omega⟩
  | k + 1 => by
      have ih := goodU m pr a k
      show GoodB m pr a 1 (k + 1) (if _ then _ else _)
      generalize bestU m pr a k = o at ih
      by_cases h : cand m pr a (k + 1) = true ∧ (o = 0 ∨ pr o < pr (k + 1))
      · rw [if_pos h]
        refine Or.inr ⟨by omega, by omega, h.1, fun i h1 h2 hc => ?_⟩
        by_cases e : i = k + 1
        · subst e; exact ⟨Nat.le_refl _, fun _ => Nat.le_refl _⟩
        · rcases ih with ⟨rfl, hn⟩ | ⟨g1, g2, g3, g4⟩
          · rw [hn i h1 (by omega)] at hc; cases hc
          · have := g4 i h1 (by omega) hc
            rcases h.2 with h0 | h0 <;> omega
      · rw [if_neg h]
        rcases ih with ⟨rfl, hn⟩ | ⟨g1, g2, g3, g4⟩
        · refine Or.inl ⟨rfl, fun i h1 h2 => ?_⟩
          by_cases e : i = k + 1
          · subst e
            cases hc : cand m pr a (k + 1)
            · rfl
            · exact absurd ⟨hc, Or.inl rfl⟩ h
          · exact hn i h1 (by omega)
        · refine Or.inr ⟨g1, by omega, g3, fun i h1 h2 hc => ?_⟩
          by_cases e : i = k + 1
          · subst e
            have : ¬ pr o < pr (k + 1) := fun hh => h ⟨hc, Or.inr hh⟩
            omega
          · exact g4 i h1 (by omega) hc
theorem goodD (m : Nat → Bool) (pr : Nat → Nat) (a : Nat) : ∀ j, j ≤ 31 → GoodB m pr a (32 - j) 31 (bestD m pr a j)
  | 0, _ => Or.inl ⟨rfl, fun i h1 h2 => by omega⟩
  | j + 1, hj => by
      have ih := goodD m pr a j (by omega)
      show GoodB m pr a (32 - (j + 1)) 31 (if _ then _ else _)
      generalize bestD m pr a j = o at ih
      by_cases h : cand m pr a (31 - j) = true ∧ (o = 0 ∨ pr o ≤ pr (31 - j))
      · rw [if_pos h]
        refine Or.inr ⟨by omega, by omega, h.1, fun i h1 h2 hc => ?_⟩
        by_cases e : i = 31 - j
        · subst e; exact ⟨Nat.le_refl _, fun _ => Nat.le_refl _⟩
        · rcases ih with ⟨rfl, hn⟩ | ⟨g1, g2, g3, g4⟩
          · rw [hn i (by omega) (by omega)] at hc; cases hc
          · have := g4 i (by omega) (by omega) hc
            rcases h.2 with h0 | h0 <;> omega
      · rw [if_neg h]
        rcases ih with ⟨rfl, hn⟩ | ⟨g1, g2, g3, g4⟩
        · refine Or.inl ⟨rfl, fun i h1 h2 => ?_⟩
          by_cases e : i = 31 - j
          · subst e
            cases hc : cand m pr a (31 - j)
            · rfl
            · exact absurd ⟨hc, Or.inl rfl⟩ h
          · exact hn i (by omega) (by omega)
        · refine Or.inr ⟨by omega, g2, g3, fun i h1 h2 hc => ?_⟩
          by_cases e : i = 31 - j
          · subst e
            have : ¬ pr o ≤ pr (31 - j) := fun hh => h ⟨hc, Or.inr hh⟩
            omega
          · exact g4 i (by omega) (by omega) hc
theorem best_same (m : Nat → Bool) (pr : Nat → Nat) (a : Nat) : bestD m pr a 31 = bestU m pr a 31 := by
  have h1 : GoodB m pr a 1 31 (bestD m pr a 31) := goodD m pr a 31 (by omega)
  have h2 := goodU m pr a 31
  generalize bestD m pr a 31 = o at h1
  generalize bestU m pr a 31 = o' at h2
  rcases h1 with ⟨rfl, hn⟩ | ⟨g1, g2, g3, g4⟩
  · rcases h2 with ⟨rfl, hn'⟩ | ⟨g1', g2', g3', g4'⟩
    · rfl
    · rw [hn _ g1' g2'] at g3'; cases g3'
  · rcases h2 with ⟨rfl, hn'⟩ | ⟨g1', g2', g3', g4'⟩
    · rw [hn' _ g1 g2] at g3; cases g3
    · have a1 := g4 _ g1' g2' g3'
      have a2 := g4' _ g1 g2 g3
      omega
theorem bestU_le (m : Nat → Bool) (pr : Nat → Nat) (a : Nat) : ∀ k, bestU m pr a k ≤ k
  | 0 => Nat.le_refl _
  | k + 1 => by
      have := bestU_le m pr a k
      unfold bestU
      split <;> omega
theorem bestD_le (m : Nat → Bool) (pr : Nat → Nat) (a : Nat) : ∀ j, bestD m pr a j ≤ 31
  | 0 => by show 0 ≤ 31; omega
  | j + 1 => by
      have := bestD_le m pr a j
      unfold bestD
      split <;> omega
theorem bestU_in {m : Nat → Bool} {pr : Nat → Nat} {a : Nat} (h : 0 < bestU m pr a 31) : bestU m pr a 31 ≤ 31 ∧ m (bestU m pr a 31) = true := by
  rcases goodU m pr a 31 with ⟨h0, _⟩ | ⟨g1, g2, g3, _⟩
  · omega
  · refine ⟨g2, ?_⟩
    unfold cand at g3
    simp at g3
    exact g3.1

/- Registers: 1 priority, 2 waiting, 3 enabled, 4 threshold, 5 claim. -/
def spotP (n : Int) (off : Nat) (size : Int) : Nat × Nat :=
  if size ≠ 4 ∨ off % 4 ≠ 0 ∨ n = 0 then (0, 0)
  else if 4 ≤ off ∧ off < 128 then (1, off / 4)
  else if off = 4096 then (2, 0)
  else if 8192 ≤ off ∧ (off : Int) < 8192 + 128 * (2 * n) ∧ off % 128 = 0 then (3, (off - 8192) / 128)
  else if 2097152 ≤ off ∧ (off : Int) < 2097152 + 4096 * (2 * n) ∧ off % 4096 = 0 then (4, (off - 2097152) / 4096)
  else if 2097152 ≤ off ∧ (off : Int) < 2097152 + 4096 * (2 * n) ∧ off % 4096 = 4 then (5, (off - 2097152) / 4096)
  else (0, 0)
/-- What a spot may be. -/
def SpotOk (n : Int) (k : Nat × Nat) : Prop := k.1 = 0 ∨ (k.1 = 1 ∧ 1 ≤ k.2 ∧ k.2 < 32) ∨ k.1 = 2 ∨ (k.1 = 3 ∧ (k.2 : Int) < 2 * n) ∨ (k.1 = 4 ∧ (k.2 : Int) < 2 * n) ∨ (k.1 = 5 ∧ (k.2 : Int) < 2 * n)
theorem spotP_ok (n : Int) (off : Nat) (size : Int) : SpotOk n (spotP n off size) := by
  unfold spotP SpotOk
  split
  · exact Or.inl rfl
  · split
    · right; left; refine ⟨rfl, ?_, ?_⟩ <;> simp <;> omega
    · split
      · right; right; left; rfl
      · split
        · right; right; right; left; refine ⟨rfl, ?_⟩; simp; omega
        · split
          · right; right; right; right; left; refine ⟨rfl, ?_⟩; simp; omega
          · split
            · right; right; right; right; right; refine ⟨rfl, ?_⟩; simp; omega
            · exact Or.inl rfl

structure OkP (s : PS) : Prop where
  n0 : 0 ≤ s.n
  n8 : s.n ≤ 8
  pr : ∀ i, s.pr i < 8
  lv : ∀ i, s.lv i < 8
  wi0 : s.wi 0 = false
  wa0 : s.wa 0 = false
  se0 : s.se 0 = false
  on0 : ∀ c, s.on c 0 = false
  J : ∀ i, s.wi i = true → s.se i = false → s.wa i = true
  D : ∀ i, s.se i = true → s.wa i = false
theorem OkP.zero : OkP zeroP := ⟨by decide, by decide, fun _ => Nat.zero_lt_succ _, fun _ => Nat.zero_lt_succ _, rfl, rfl, rfl, fun _ => rfl, fun i h => Bool.noConfusion h, fun i h => Bool.noConfusion h⟩
theorem OkP.new (n : Int) : OkP (newP n) := by
  unfold newP
  split
  · exact OkP.zero
  · refine ⟨by show 0 ≤ n; omega, by show n ≤ 8; omega, fun _ => Nat.zero_lt_succ _, fun _ => Nat.zero_lt_succ _, rfl, rfl, rfl, fun _ => rfl, fun i h => Bool.noConfusion h, fun i h => Bool.noConfusion h⟩

def bestP (s : PS) (c a : Nat) : Nat := bestU (fun i => s.wa i && s.on c i) s.pr a 31
def claimP (s : PS) (b : Nat) : PS := setSe (setWa s (upN s.wa b false)) (upN s.se b true)
def doneP (s : PS) (b : Nat) : PS := if s.wi b = true then setWa (setSe s (upN s.se b false)) (upN s.wa b true) else setSe s (upN s.se b false)
def onF (v : Nat) : Nat → Bool := fun i => decide (1 ≤ i) && decide (i < 32) && v.testBit i
def readP (s : PS) (k : Nat × Nat) : PS × Nat × Bool :=
  if k.1 = 1 then (s, s.pr k.2, true)
  else if k.1 = 2 then (s, W32 s.wa, true)
  else if k.1 = 3 then (s, W32 (s.on k.2), true)
  else if k.1 = 4 then (s, s.lv k.2, true)
  else if k.1 = 5 then (if 0 < bestP s k.2 0 then claimP s (bestP s k.2 0) else s, bestP s k.2 0, true)
  else (s, 0, false)
def endP (s : PS) (c b : Nat) : PS := if b < 32 ∧ s.on c b = true ∧ s.se b = true then doneP s b else s
def writeP (s : PS) (v : Nat) (k : Nat × Nat) : PS × Bool :=
  if k.1 = 1 then (setPr s k.2 (v % 8), true)
  else if k.1 = 2 then (s, true)
  else if k.1 = 3 then (setOn s k.2 (onF v), true)
  else if k.1 = 4 then (setLv s k.2 (v % 8), true)
  else if k.1 = 5 then (endP s k.2 (v % 4294967296), true)
  else (s, false)
def wireS (s : PS) (i : Nat) (on : Bool) : PS :=
  if on = true ∧ s.se i = false then setWa (setWi s (upN s.wi i on)) (upN s.wa i true) else setWi s (upN s.wi i on)
def wireP (s : PS) (i : Int) (on : Bool) : PS × Bool := if s.n = 0 ∨ i < 1 ∨ 31 < i then (s, false) else (wireS s i.toNat on, true)
def lineP (s : PS) (c : Int) : Bool := decide (0 ≤ c) && decide (c < 2 * s.n) && decide (0 < bestP s c.toNat (s.lv c.toNat))

theorem bestP_in {s : PS} {c a : Nat} (h : 0 < bestP s c a) : bestP s c a ≤ 31 ∧ s.wa (bestP s c a) = true := by
  have := bestU_in h
  refine ⟨this.1, ?_⟩
  have h2 := this.2
  simp at h2
  exact h2.1
theorem bestP_le (s : PS) (c a : Nat) : bestP s c a ≤ 31 := bestU_le _ _ _ 31
theorem OkP.claim {s : PS} (ok : OkP s) {b : Nat} (hb : 0 < b) : OkP (claimP s b) := by
  refine ⟨ok.n0, ok.n8, ok.pr, ok.lv, ok.wi0, ?_, ?_, ok.on0, fun i h1 h2 => ?_, fun i h1 => ?_⟩
  · show upN s.wa b false 0 = false; rw [upN_other _ (by omega)]; exact ok.wa0
  · show upN s.se b true 0 = false; rw [upN_other _ (by omega)]; exact ok.se0
  · show upN s.wa b false i = true
    have h2' : upN s.se b true i = false := h2
    by_cases e : i = b
    · subst e; rw [upN_same] at h2'; cases h2'
    · rw [upN_other _ e] at h2' ⊢; exact ok.J i h1 h2'
  · show upN s.wa b false i = false
    have h1' : upN s.se b true i = true := h1
    by_cases e : i = b
    · subst e; rw [upN_same]
    · rw [upN_other _ e] at h1' ⊢; exact ok.D i h1'
theorem OkP.done {s : PS} (ok : OkP s) {b : Nat} (hse : s.se b = true) : OkP (doneP s b) := by
  have hb : b ≠ 0 := by rintro rfl; rw [ok.se0] at hse; cases hse
  unfold doneP
  split
  · rename_i hw
    refine ⟨ok.n0, ok.n8, ok.pr, ok.lv, ok.wi0, ?_, ?_, ok.on0, fun i h1 h2 => ?_, fun i h1 => ?_⟩
    · show upN s.wa b true 0 = false; rw [upN_other _ (by omega)]; exact ok.wa0
    · show upN s.se b false 0 = false; rw [upN_other _ (by omega)]; exact ok.se0
    · show upN s.wa b true i = true
      have h2' : upN s.se b false i = false := h2
      by_cases e : i = b
      · subst e; rw [upN_same]
      · rw [upN_other _ e] at h2' ⊢; exact ok.J i h1 h2'
    · show upN s.wa b true i = false
      have h1' : upN s.se b false i = true := h1
      by_cases e : i = b
      · subst e; rw [upN_same] at h1'; cases h1'
      · rw [upN_other _ e] at h1' ⊢; exact ok.D i h1'
  · rename_i hw
    refine ⟨ok.n0, ok.n8, ok.pr, ok.lv, ok.wi0, ok.wa0, ?_, ok.on0, fun i h1 h2 => ?_, fun i h1 => ?_⟩
    · show upN s.se b false 0 = false; rw [upN_other _ (by omega)]; exact ok.se0
    · have h2' : upN s.se b false i = false := h2
      by_cases e : i = b
      · subst e; exact absurd h1 hw
      · rw [upN_other _ e] at h2'; exact ok.J i h1 h2'
    · have h1' : upN s.se b false i = true := h1
      by_cases e : i = b
      · subst e; rw [upN_same] at h1'; cases h1'
      · rw [upN_other _ e] at h1'; exact ok.D i h1'
theorem OkP.read {s : PS} (ok : OkP s) (k : Nat × Nat) : OkP (readP s k).1 := by
  unfold readP
  repeat' split
  all_goals first | exact ok | exact ok.claim (by assumption)
theorem OkP.write {s : PS} (ok : OkP s) (v : Nat) (k : Nat × Nat) : OkP (writeP s v k).1 := by
  unfold writeP endP
  repeat' split
  · exact ⟨ok.n0, ok.n8, fun i => by show upN s.pr k.2 (v % 8) i < 8; unfold upN; split; omega; exact ok.pr i, ok.lv, ok.wi0, ok.wa0, ok.se0, ok.on0, ok.J, ok.D⟩
  · exact ok
  · exact ⟨ok.n0, ok.n8, ok.pr, ok.lv, ok.wi0, ok.wa0, ok.se0, fun c => by show upN s.on k.2 (onF v) c 0 = false; unfold upN; split; rfl; exact ok.on0 c, ok.J, ok.D⟩
  · exact ⟨ok.n0, ok.n8, ok.pr, fun i => by show upN s.lv k.2 (v % 8) i < 8; unfold upN; split; omega; exact ok.lv i, ok.wi0, ok.wa0, ok.se0, ok.on0, ok.J, ok.D⟩
  · rename_i h; exact ok.done h.2.2
  · exact ok
  · exact ok
theorem OkP.wireS {s : PS} (ok : OkP s) {i : Nat} (hi : i ≠ 0) (on : Bool) : OkP (wireS s i on) := by
  unfold Proofs.Ytgelpapjmlbgfaa.wireS
  split
  · rename_i h
    obtain ⟨rfl, hse⟩ := h
    refine ⟨ok.n0, ok.n8, ok.pr, ok.lv, ?_, ?_, ok.se0, ok.on0, fun j h1 h2 => ?_, fun j h1 => ?_⟩
    · show upN s.wi i true 0 = false; rw [upN_other _ (by omega)]; exact ok.wi0
    · show upN s.wa i true 0 = false; rw [upN_other _ (by omega)]; exact ok.wa0
    · show upN s.wa i true j = true
      have h1' : upN s.wi i true j = true := h1
      by_cases e : j = i
      · subst e; rw [upN_same]
      · rw [upN_other _ e] at h1' ⊢; exact ok.J j h1' h2
    · show upN s.wa i true j = false
      by_cases e : j = i
      · subst e
        have : s.se j = true := h1
        rw [hse] at this; cases this
      · rw [upN_other _ e]; exact ok.D j h1
  · rename_i h
    refine ⟨ok.n0, ok.n8, ok.pr, ok.lv, ?_, ok.wa0, ok.se0, ok.on0, fun j h1 h2 => ?_, ok.D⟩
    · show upN s.wi i on 0 = false; rw [upN_other _ (by omega)]; exact ok.wi0
    · have h1' : upN s.wi i on j = true := h1
      have h2' : s.se j = false := h2
      by_cases e : j = i
      · subst e
        rw [upN_same] at h1'
        exact absurd ⟨h1', h2'⟩ h
      · rw [upN_other _ e] at h1'; exact ok.J j h1' h2
theorem OkP.wire {s : PS} (ok : OkP s) (i : Int) (on : Bool) : OkP (wireP s i on).1 := by
  unfold wireP
  split
  · exact ok
  · exact ok.wireS (by omega) on
end Go.Proofs.Ytgelpapjmlbgfaa
