/- A job's Step: without a step left; at a lock. -/
import Derived.Test.YtdeheoaeagoidaaTxB
namespace Go.Proofs.Ytdeheoaeagoidaa
open Go.RowKit
set_option linter.unusedSimpArgs false
set_option linter.unusedVariables false
attribute [local simp high] sizeAsk sizeAns zeroAns

def actV (cS cH cA cN : Nat) : Value := .func (.func 10) #[] #[.pointer (some ⟨cS, 0, none⟩), .pointer (some ⟨cH, 0, none⟩), .pointer (some ⟨cA, 0, none⟩), .pointer (some ⟨cN, 0, none⟩)]
set_option maxRecDepth 100000 in
set_option maxHeartbeats 8000000 in
theorem step_over (bJ o g cap took : Nat) (c : Array Value) (bL h : Nat) (av : Value) (w : World) (hJ : JobAt w bJ o c g cap took true 2) :
    Calls Try.prog 9 #[.pointer (some ⟨bJ, o, none⟩), .pointer (some ⟨bL, 0, none⟩), .int .i64 (h : Int), av] w fun e w' => (∃ v, e = .returned (.int .i64 v)) ∧ ∃ n, w' = w.drewN n := by
  go_enter Try.func9, Try.ntmps9
  go_wp2_with fail
  refine (done_yes bJ o g cap took 2 true c _ rfl hJ).mono ?_
  rintro e w1 ⟨rfl, n, rfl⟩
  go_wp2_with fail
  go_ret
  exact ⟨⟨_, rfl⟩, _, rfl⟩
/-- What stands through a step's call of Take or Drop. -/
theorem ss_call {mL B bJ g o : Nat} {c cur : Array Value} {w0 w w' : World} {v0 v1 v2 : Value} {k o2 : Nat} (hm : bJ ≠ mL ∧ g ≠ mL) (hK : KL mL B w w') (h : KL mL B w0 w ∧ w.heap[bJ]? = some (.cells c 37) ∧ w.heap[g]? = some (.cells cur 3 (0, 0)) ∧ w.cell? ⟨bJ, o, none⟩ = some v0 ∧ w.cell? ⟨bJ, o2, none⟩ = some v1 ∧ w.cell? ⟨g, k, none⟩ = some v2) :
    KL mL B w0 w' ∧ w'.heap[bJ]? = some (.cells c 37) ∧ w'.heap[g]? = some (.cells cur 3 (0, 0)) ∧ w'.cell? ⟨bJ, o, none⟩ = some v0 ∧ w'.cell? ⟨bJ, o2, none⟩ = some v1 ∧ w'.cell? ⟨g, k, none⟩ = some v2 := by
  obtain ⟨h1, h2, h3, h4, h5, h6⟩ := h
  have e2 := hK.2 _ _ hm.1 (fun c e => by cases e) h2
  have e3 := hK.2 _ _ hm.2 (fun c e => by cases e) h3
  refine ⟨h1.trans hK, e2, e3, ?_, ?_, ?_⟩
  · rw [cell_at e2, ← cell_at h2]; exact h4
  · rw [cell_at e2, ← cell_at h2]; exact h5
  · rw [cell_at e3, ← cell_at h3]; exact h6
theorem set_get {c : Array Value} {i j : Nat} {v u : Value} (h : c[j]? = some u) (hne : i ≠ j) : (c.setIfInBounds i v)[j]? = some u := by
  rw [Array.getElem?_setIfInBounds_ne hne]; exact h
theorem set_got {c : Array Value} {i : Nat} {v u : Value} (h : c[i]? = some u) : (c.setIfInBounds i v)[i]? = some v := by
  have hi : i < c.size := by
    rcases Nat.lt_or_ge i c.size with h1 | h1
    · exact h1
    · rw [Array.getElem?_eq_none h1] at h; cases h
  simp [Array.getElem?_setIfInBounds, hi]
theorem JobAt.setTk {w : World} {b o : Nat} {c : Array Value} {g cap took : Nat} {did : Bool} {gave : Nat} (h : JobAt w b o c g cap took did gave) (t : Nat) : JobAt (w.setCell ⟨b, o + 1, none⟩ (.int .i64 (t : Int))) b o (c.setIfInBounds (o + 1) (.int .i64 (t : Int))) g cap t did gave :=
  ⟨set_at h.blk _ _, set_get h.need (by omega), set_got h.tk, set_get h.dd (by omega), set_get h.gv (by omega)⟩
theorem JobAt.setDd {w : World} {b o : Nat} {c : Array Value} {g cap took : Nat} {did : Bool} {gave : Nat} (h : JobAt w b o c g cap took did gave) (q : Bool) : JobAt (w.setCell ⟨b, o + 2, none⟩ (.bool q)) b o (c.setIfInBounds (o + 2) (.bool q)) g cap took q gave :=
  ⟨set_at h.blk _ _, set_get h.need (by omega), set_get h.tk (by omega), set_got h.dd, set_get h.gv (by omega)⟩
theorem JobAt.setGv {w : World} {b o : Nat} {c : Array Value} {g cap took : Nat} {did : Bool} {gave : Nat} (h : JobAt w b o c g cap took did gave) (t : Nat) : JobAt (w.setCell ⟨b, o + 3, none⟩ (.int .i64 (t : Int))) b o (c.setIfInBounds (o + 3) (.int .i64 (t : Int))) g cap took did t :=
  ⟨set_at h.blk _ _, set_get h.need (by omega), set_get h.tk (by omega), set_get h.dd (by omega), set_got h.gv⟩
theorem LocksAt.job {w w' : World} {B b m n p : Nat} {f : Nat → Option Nat} {c : Array Value} (H : LocksAt w B b m n f) (hW : Wrote p w w') (hp : w.heap[p]? = some (.cells c 37)) : LocksAt w' B b m n f := by
  obtain ⟨es, ck, hes⟩ := H.2.2.1.map
  refine H.wrote hW ?_ ?_ (fun c' => ⟨fun e => ?_, fun e => ?_⟩)
  · rintro rfl; rw [H.2.1] at hp; cases hp
  · rintro rfl; rw [hes] at hp; cases hp
  · rw [hp] at e; cases e
  · rw [hp] at e; cases e
theorem row01 {w : World} {B g cap : Nat} (h : w.ownsRow B 3 1 (.slice (some ⟨g, 0, none⟩) 2 cap) 2 ints01) {k : Nat} (hk : k < 2) : w.cell? ⟨g, k, none⟩ = some (.int .i64 (k : Int)) := by
  rcases lk_lt2 hk with rfl | rfl
  · exact own_cell h rfl
  · exact own_cell h rfl
set_option maxRecDepth 100000 in
set_option maxHeartbeats 8000000 in
theorem step_lock (B Bq bJ o g cap took gave : Nat) (did : Bool) (c : Array Value) (bL mL n h : Nat) (f : Nat → Option Nat) (av : Value) (w : World) (hJ : JobAt w bJ o c g cap took did gave) (hR : w.ownsRow Bq 3 1 (.slice (some ⟨g, 0, none⟩) 2 cap) 2 ints01) (HL : LocksAt w B bL mL n f) (ht : took < 2) (hd : did = true → gave < 2) (hh : h < 2) (hn : n < 1000000) (hB : B ≤ bJ) :
    Calls Try.prog 9 #[.pointer (some ⟨bJ, o, none⟩), .pointer (some ⟨bL, 0, none⟩), .int .i64 (h : Int), av] w fun e w' => (∃ v, e = .returned (.int .i64 v)) ∧ ∃ f' c' took', LocksAt w' B bL mL (n + 1) f' ∧ JobAt w' bJ o c' g cap took' did gave ∧ took' ≤ 2 ∧ (∀ j, (j < o ∨ o + 4 ≤ j) → c'[j]? = c[j]?) ∧ WX B (fun b ob => b = bJ ∨ b = mL ∨ ∃ c, ob = Obj.cells c 102 (0, 0)) w w' := by
  obtain ⟨es, ck, hes⟩ := HL.2.2.1.map
  have hJm : bJ ≠ mL := by rintro rfl; rw [hJ.blk] at hes; cases hes
  obtain ⟨cur, hcur, _⟩ := own_block hR (by omega)
  have hgm : g ≠ mL := by rintro rfl; rw [hcur] at hes; cases hes
  have HD : Hid (∀ w, JobAt w bJ o c g cap took did gave → Calls Try.prog 12 #[.pointer (some ⟨bJ, o, none⟩)] w fun e w' => e = .returned (.bool false) ∧ ∃ n, w' = w.drewN n) := Lib.hid (by
    intro w hJ
    cases did with
    | false => exact done_no bJ o g cap took gave c w hJ
    | true => exact done_yes bJ o g cap took gave false c w (by have := hd rfl; simp; omega) hJ)
  have HM := Lib.hid (And.intro hJm hgm)
  have HES := Lib.hid hes
  have HH := Lib.hid hh
  have HNN := Lib.hid hn
  have t0 : (0 : Int) ≤ took := by omega
  have t1 : (took : Int) < 2 := by omega
  have HT := Lib.hid ht
  clear hd hes hJm hgm hh hn
  go_enter Try.func9, Try.ntmps9
  go_wp2_with fail
  refine (HD.out _ hJ).mono ?_
  rintro e w1 ⟨rfl, n1, rfl⟩
  have b1 := ((Fr.refl w).drewN n1).1
  have J1 := hJ.keep b1
  have R1 := own_keep hR b1
  have L1 := HL.keep b1
  have C1 := keepB b1 hcur
  have K1 := (KL.refl mL B w).below b1
  obtain ⟨w1, hw1⟩ : ∃ w1, w.drewN n1 = w1 := ⟨_, rfl⟩
  rw [hw1] at J1 R1 L1 C1 K1 ⊢
  clear hw1 b1
  obtain ⟨c0, c1, c2, c3, cl, cf⟩ := J1.cells
  go_wp2_with fail
  go_quiet (fail)
  have b2 := ((Fr.refl w1).drewN nq).1
  have J2 := J1.keep b2
  have R2 := own_keep R1 b2
  have L2 := L1.keep b2
  have C2 := keepB b2 C1
  have K2 := K1.below b2
  obtain ⟨w2, hw2⟩ : ∃ w2, w1.drewN nq = w2 := ⟨_, rfl⟩
  rw [hw2] at J2 R2 L2 C2 K2 ⊢
  clear hw2 b2 J1 R1 L1 C1 K1 c0 c1 c2 c3 cl cf
  obtain ⟨c0, c1, c2, c3, cl, cf⟩ := J2.cells
  have g0 := row01 R2 HT.out
  have gl := (own_lt R2).2
  go_wp2_with fail
  have HTA := Lib.hid (fun w HL => take_any B bL mL n h took f w HL HH.out HT.out HNN.out)
  have HL2 := Lib.hid L2
  go_region_held3 (fun w' => KL mL B w2 w' ∧ w'.heap[bJ]? = some (.cells c 37) ∧ w'.heap[g]? = some (.cells cur 3 (0, 0)) ∧ w'.cell? ⟨bJ, o, none⟩ = some (.slice (some ⟨g, 0, none⟩) 2 cap) ∧ w'.cell? ⟨bJ, o + 1, none⟩ = some (.int .i64 (took : Int)) ∧ w'.cell? ⟨g, took, none⟩ = some (.int .i64 (took : Int)))
    (first | exact ⟨(KL.refl mL B w2).below ((Fr.refl w2).drew).1, J2.blk, C2, c0, c1, g0⟩ | exact ss_call HM.out ‹_› ‹_› | go_keep)
    (first | (go_at_call 21; refine (HTA.out _ (HL2.out.keep ((Fr.refl w2).drew).1)).mono ?_; rintro e wT ⟨⟨qq, rfl⟩, ⟨f', LT⟩, KT⟩))
  rename_i hS2
  have JT := J2.to (fun _ => hS2.2.1)
  have KW := (WX.refl B (fun b ob => b = bJ ∨ b = mL ∨ ∃ c, ob = Obj.cells c 102 (0, 0)) w).kl (K2.trans hS2.1) (fun o => .inr (.inl rfl)) (fun b c => .inr (.inr ⟨c, rfl⟩))
  obtain ⟨d0, d1, d2, d3, dl, df⟩ := JT.cells
  clear hS2 J2 R2 L2 C2 K2 c0 c1 c2 c3 cl cf g0 gl HL2 HTA
  obtain ⟨tu, htu⟩ : ∃ tu : Nat, took + 1 = tu := ⟨_, rfl⟩
  have W1 := (Wrote.refl bJ wT).setCell (o + 1) (.int .i64 (tu : Int))
  have HE1 : Hid (LocksAt wT B bL mL (n + 1) f' ∧ JobAt wT bJ o c g cap took did gave ∧ WX B (fun b ob => b = bJ ∨ b = mL ∨ ∃ c, ob = Obj.cells c 102 (0, 0)) w wT) := Lib.hid ⟨LT, JT, KW⟩
  have HE2 := Lib.hid (And.intro (LT.job W1 JT.blk) (And.intro (JT.setTk tu) (KW.wrote W1 hB (fun _ => .inl rfl))))
  clear W1 LT JT KW
  have HU : Hid (tu ≤ 2) := Lib.hid (by omega)
  have e1 : (took : Int) + 1 = (tu : Int) := by omega
  have e2 : IntKind.i64.wrap ((took : Int) + 1) = (tu : Int) := by rw [IntKind.wrap_i64]; omega
  clear htu
  cases qq with
  | false =>
    go_wp2_with fail
    go_ret
    exact ⟨⟨_, rfl⟩, f', c, took, HE1.out.1, HE1.out.2.1, by omega, fun _ _ => rfl, HE1.out.2.2⟩
  | true =>
    go_wp2_with fail
    go_ret
    exact ⟨⟨_, rfl⟩, f', _, tu, HE2.out.1, HE2.out.2.1, HU.out, fun j hj => Array.getElem?_setIfInBounds_ne (by omega), HE2.out.2.2⟩
end Go.Proofs.Ytdeheoaeagoidaa
