/- A job's Step: what it gives back; Step in all. -/
import Derived.Test.YtdeheoaeagoidaaTxD
namespace Go.Proofs.Ytdeheoaeagoidaa
open Go.RowKit
set_option linter.unusedSimpArgs false
set_option linter.unusedVariables false
attribute [local simp high] sizeAsk sizeAns zeroAns

set_option maxRecDepth 100000 in
set_option maxHeartbeats 8000000 in
theorem step_drop (B Bq bJ o g cap gave : Nat) (c : Array Value) (bL mL n h : Nat) (f : Nat → Option Nat) (av : Value) (w : World) (hJ : JobAt w bJ o c g cap 2 true gave) (hR : w.ownsRow Bq 3 1 (.slice (some ⟨g, 0, none⟩) 2 cap) 2 ints01) (HL : LocksAt w B bL mL n f) (hgv : gave < 2) (hh : h < 2) (hB : B ≤ bJ) :
    Calls Try.prog 9 #[.pointer (some ⟨bJ, o, none⟩), .pointer (some ⟨bL, 0, none⟩), .int .i64 (h : Int), av] w fun e w' => (∃ v, e = .returned (.int .i64 v)) ∧ ∃ f' c' gave', LocksAt w' B bL mL n f' ∧ JobAt w' bJ o c' g cap 2 true gave' ∧ gave' ≤ 2 ∧ (∀ j, (j < o ∨ o + 4 ≤ j) → c'[j]? = c[j]?) ∧ WX B (fun b ob => b = bJ ∨ b = mL ∨ ∃ c, ob = Obj.cells c 102 (0, 0)) w w' := by
  obtain ⟨es, ck, hes⟩ := HL.2.2.1.map
  have hJm : bJ ≠ mL := by rintro rfl; rw [hJ.blk] at hes; cases hes
  obtain ⟨cur, hcur, _⟩ := own_block hR (by omega)
  have hgm : g ≠ mL := by rintro rfl; rw [hcur] at hes; cases hes
  have hgJ : g ≠ bJ := by rintro rfl; have := hJ.blk; rw [hcur] at this; cases this
  have HD := Lib.hid (done_yes bJ o g cap 2 gave false c w (by simp; omega) hJ)
  obtain ⟨G, hG⟩ : ∃ G, gave + 1 = G := ⟨_, rfl⟩
  obtain ⟨t, ht⟩ : ∃ t, 2 - G = t := ⟨_, rfl⟩
  have HM := Lib.hid (And.intro hJm hgm)
  have HH := Lib.hid (And.intro hh (show t < 2 by omega))
  have HG := Lib.hid (show G ≤ 2 by omega)
  have e1 : (gave : Int) + 1 = (G : Int) := by omega
  have e2 : IntKind.i64.wrap ((gave : Int) + 1) = (G : Int) := by rw [IntKind.wrap_i64]; omega
  have e3 : 2 - (G : Int) = (t : Int) := by omega
  have e4 : IntKind.i64.wrap (2 - (G : Int)) = (t : Int) := by rw [IntKind.wrap_i64]; omega
  have e5 : IntKind.i64.wrap (t : Int) = (t : Int) := by rw [IntKind.wrap_i64]; omega
  have t0 : (0 : Int) ≤ t := by omega
  have t1 : (t : Int) < 2 := by omega
  have HB := Lib.hid (And.intro hB hgJ)
  clear hes hJm hgm hh hgv hG ht hB hgJ
  go_enter Try.func9, Try.ntmps9
  go_wp2_with fail
  refine HD.out.mono ?_
  rintro e w1 ⟨rfl, n1, rfl⟩
  have b1 := ((Fr.refl w).drewN n1).1
  have J1 := hJ.keep b1
  have R1 := own_keep hR b1
  have L1 := HL.keep b1
  have C1 := keepB b1 hcur
  have K1 := (WX.refl B (fun b ob => b = bJ ∨ b = mL ∨ ∃ c, ob = Obj.cells c 102 (0, 0)) w).below b1
  obtain ⟨w1, hw1⟩ : ∃ w1, w.drewN n1 = w1 := ⟨_, rfl⟩
  rw [hw1] at J1 R1 L1 C1 K1 ⊢
  clear hw1 b1
  obtain ⟨c0, c1, c2, c3, cl, cf⟩ := J1.cells
  go_wp2_with fail
  go_quiet (fail)
  have b2 := ((Fr.refl w1).drewN nq).1
  have J2 := J1.keep b2
  have R2 := own_keep R1 b2
  have L2 := L1.keep b2
  have C2 := keepB b2 C1
  have K2 := K1.below b2
  obtain ⟨w2, hw2⟩ : ∃ w2, w1.drewN nq = w2 := ⟨_, rfl⟩
  rw [hw2] at J2 R2 L2 C2 K2 ⊢
  clear hw2 b2 J1 R1 L1 C1 K1 c0 c1 c2 c3 cl cf
  obtain ⟨c0, c1, c2, c3, cl, cf⟩ := J2.cells
  have W3 := (Wrote.refl bJ w2).setCell (o + 3) (.int .i64 (G : Int))
  have L3 := L2.job W3 J2.blk
  have J3 := J2.setGv G
  have R3 := own_wrote R2 W3 HB.out.2
  have C3 := W3.2 _ _ HB.out.2 C2
  have K3 := K2.wrote W3 HB.out.1 (fun _ => .inl rfl)
  have HS3 := Lib.hid (And.intro L3 (And.intro J3 (And.intro R3 (And.intro C3 K3))))
  clear L3 J3 R3 C3 K3 W3
  go_wp2_with fail
  obtain ⟨w3, hw3⟩ : ∃ w3, w2.setCell ⟨bJ, o + 3, none⟩ (.int .i64 (G : Int)) = w3 := ⟨_, rfl⟩
  rw [hw3] at HS3 ⊢
  clear hw3 J2 R2 L2 C2 K2 c0 c1 c2 c3 cl cf
  obtain ⟨L3, J3, R3, C3, K3⟩ := HS3.out
  obtain ⟨c0, c1, c2, c3, cl, cf⟩ := J3.cells
  have g0 := row01 R3 HH.out.2
  have gl := (own_lt R3).2
  have HTA := Lib.hid (fun w HL => drop_any B bL mL n h t f w HL HH.out.1 HH.out.2)
  have HL3 := Lib.hid L3
  clear L3
  go_region_held3 (fun w' => KL mL B w3 w' ∧ w'.heap[bJ]? = some (.cells (c.setIfInBounds (o + 3) (.int .i64 (G : Int))) 37) ∧ w'.heap[g]? = some (.cells cur 3 (0, 0)) ∧ w'.cell? ⟨bJ, o, none⟩ = some (.slice (some ⟨g, 0, none⟩) 2 cap) ∧ w'.cell? ⟨bJ, o + 3, none⟩ = some (.int .i64 (G : Int)) ∧ w'.cell? ⟨g, t, none⟩ = some (.int .i64 (t : Int)))
    (first | exact ⟨(KL.refl mL B w3).below ((Fr.refl w3).drew).1, J3.blk, C3, c0, c3, g0⟩ | exact ss_call HM.out ‹_› ‹_› | go_keep)
    (first | (go_at_call 22; refine (HTA.out _ (HL3.out.keep ((Fr.refl w3).drew).1)).mono ?_; rintro e wT ⟨⟨qq, rfl⟩, ⟨f', LT⟩, KT⟩))
  rename_i hS2
  have JT := J3.to (fun _ => hS2.2.1)
  have KW := K3.kl hS2.1 (fun o => .inr (.inl rfl)) (fun b c => .inr (.inr ⟨c, rfl⟩))
  have HE := Lib.hid (And.intro LT (And.intro JT KW))
  clear hS2 LT KW HS3 J3 R3 C3 K3 c0 c1 c2 c3 cl cf g0 gl HL3 HTA KT
  obtain ⟨qd, hqd⟩ : ∃ qd, ((G : Int) == 2) = qd := ⟨_, rfl⟩
  have HDn := Lib.hid (done_yes bJ o g cap 2 G qd _ wT hqd JT)
  clear hqd JT
  go_wp2_with fail
  refine HDn.out.mono ?_
  rintro e w5 ⟨rfl, n5, rfl⟩
  have b5 := ((Fr.refl wT).drewN n5).1
  have HF := Lib.hid (And.intro (HE.out.1.keep b5) (And.intro (HE.out.2.1.keep b5) (HE.out.2.2.below b5)))
  clear b5 HE HDn
  cases qd with
  | false =>
    go_wp2_with fail
    go_ret
    exact ⟨⟨_, rfl⟩, f', _, G, HF.out.1, HF.out.2.1, HG.out, fun j hj => Array.getElem?_setIfInBounds_ne (by omega), HF.out.2.2⟩
  | true =>
    go_wp2_with fail
    go_ret
    exact ⟨⟨_, rfl⟩, f', _, G, HF.out.1, HF.out.2.1, HG.out, fun j hj => Array.getElem?_setIfInBounds_ne (by omega), HF.out.2.2⟩
theorem Mem.kx {w w' : World} {B s r m cS cN a q bJ mL : Nat} {P : Nat → Prop} {c : Array Value} (H : Mem w B s r m cS cN a q P) (hW : WX B (fun b ob => b = bJ ∨ b = mL ∨ ∃ c, ob = Obj.cells c 102 (0, 0)) w w') (hJ : w.heap[bJ]? = some (.cells c 37)) {es : Array MapEntry} {ck : Nat} (hm : w.heap[mL]? = some (.map es ck)) (hmm : m ≠ mL) : Mem w' B s r m cS cN a q P := by
  have H0 := H
  obtain ⟨g, sn, ⟨h1, h1b, D, ⟨es', ck', h1c, _⟩, _⟩, h2, h3, h4, h5, h6⟩ := H0
  refine H.to fun b hb o ho => hW.2 b o ?_ ho
  obtain ⟨a1, a2, a3, a4⟩ := H.apart hb
  rintro (e | e | ⟨c', e⟩)
  · exact a1 c (by rw [e]; exact hJ)
  · rcases hb with hb | hb | hb | hb | hb
    · rw [← hb, e, hm] at h1; cases h1
    · rw [← hb, e, hm] at h1b; cases h1b
    · exact hmm (by rw [← hb, e])
    · rw [← hb, e, hm] at h4; cases h4
    · rw [← hb, e, hm] at h5; cases h5
  · exact a2 c' (by rw [ho, e])
/-- A step, whatever it is. -/
theorem step_any (B Bq bJ o g cap took gave : Nat) (did : Bool) (c : Array Value) (bL mL n h s r m cS cN cH cA a q : Nat) (P : Nat → Prop) (f : Nat → Option Nat) (w : World) (hJ : JobAt w bJ o c g cap took did gave) (hR : w.ownsRow Bq 3 1 (.slice (some ⟨g, 0, none⟩) 2 cap) 2 ints01) (HL : LocksAt w B bL mL n f) (HM : Mem w B s r m cS cN a q P) (HA : AskIs w cH cA h a P) (hmm : m ≠ mL) (hB : B ≤ bJ) (ht : took ≤ 2) (hg : gave ≤ 2) (hh : h < 2) (hn : n < 1000000) (hq : q < 900000) (ha : 2147483648 ≤ a) (ha2 : a + 8 ≤ 2147483648 + 128) :
    Calls Try.prog 9 #[.pointer (some ⟨bJ, o, none⟩), .pointer (some ⟨bL, 0, none⟩), .int .i64 (h : Int), actV cS cH cA cN] w fun e w' => (∃ v, e = .returned (.int .i64 v)) ∧ ∃ f' c' took' did' gave', LocksAt w' B bL mL (n + 1) f' ∧ Mem w' B s r m cS cN a (q + 4) P ∧ JobAt w' bJ o c' g cap took' did' gave' ∧ took' ≤ 2 ∧ gave' ≤ 2 ∧ (∀ j, (j < o ∨ o + 4 ≤ j) → c'[j]? = c[j]?) ∧ WX B (XX m cN bJ mL) w w' := by
  obtain ⟨es, ck, hes⟩ := HL.2.2.1.map
  have hX : ∀ b ob, (b = bJ ∨ b = mL ∨ ∃ c, ob = Obj.cells c 102 (0, 0)) → XX m cN bJ mL b ob := fun b ob h => by
    rcases h with h | h | h
    · exact .inr (.inr (.inl h))
    · exact .inr (.inr (.inr (.inl h)))
    · exact .inr (.inr (.inr (.inr h)))
  by_cases hov : did = true ∧ gave = 2
  · obtain ⟨rfl, rfl⟩ := hov
    refine (step_over bJ o g cap took c bL h (actV cS cH cA cN) w hJ).mono ?_
    rintro e w' ⟨h1, n1, rfl⟩
    have b1 := ((Fr.refl w).drewN n1).1
    exact ⟨h1, f, c, took, true, 2, (HL.keep b1).mono (by omega), (HM.keep b1).mono (by omega), hJ.keep b1, ht, hg, fun _ _ => rfl, (WX.refl _ _ _).below b1⟩
  · by_cases htk : took < 2
    · refine (step_lock B Bq bJ o g cap took gave did c bL mL n h f (actV cS cH cA cN) w hJ hR HL htk (fun hd => by have : gave ≠ 2 := fun e => hov ⟨hd, e⟩; omega) hh hn hB).mono ?_
      rintro e w' ⟨h1, f', c', took', hL', hJ', ht', hc', hw'⟩
      exact ⟨h1, f', c', took', did, gave, hL', (HM.kx hw' hJ.blk hes hmm).mono (by omega), hJ', ht', hg, hc', hw'.mono hX⟩
    · obtain rfl : took = 2 := by omega
      cases did with
      | false =>
        refine (step_act B bJ o g cap gave c bL mL n h s r m cS cN cH cA a q P f w hJ HL HM HA hmm hB hq ha ha2).mono ?_
        rintro e w' ⟨h1, c', hL', hM', hJ', hc', hw'⟩
        exact ⟨h1, f, c', 2, true, gave, hL'.mono (by omega), hM', hJ', by omega, hg, hc', hw'.mono (fun b o h => by
          rcases h with h | h | h
          · exact .inl h
          · exact .inr (.inl h)
          · exact .inr (.inr (.inl h)))⟩
      | true =>
        refine (step_drop B Bq bJ o g cap gave c bL mL n h f (actV cS cH cA cN) w hJ hR HL (by have : gave ≠ 2 := fun e => hov ⟨rfl, e⟩; omega) hh hB).mono ?_
        rintro e w' ⟨h1, f', c', gave', hL', hJ', hg', hc', hw'⟩
        exact ⟨h1, f', c', 2, true, gave', hL'.mono (by omega), (HM.kx hw' hJ.blk hes hmm).mono (by omega), hJ', by omega, hg', hc', hw'.mono hX⟩
end Go.Proofs.Ytdeheoaeagoidaa
