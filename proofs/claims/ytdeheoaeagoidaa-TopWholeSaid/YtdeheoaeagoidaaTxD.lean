/- A job's Step: what it does. -/
import Derived.Test.YtdeheoaeagoidaaTxC
namespace Go.Proofs.Ytdeheoaeagoidaa
open Go.RowKit
set_option linter.unusedSimpArgs false
set_option linter.unusedVariables false
attribute [local simp high] sizeAsk sizeAns zeroAns

theorem LocksAt.mono {w : World} {B b m n n' : Nat} {f : Nat → Option Nat} (H : LocksAt w B b m n f) (hn : n ≤ n') : LocksAt w B b m n' f := ⟨H.1, H.2.1, H.2.2.1.mono hn, H.2.2.2⟩
theorem LocksAt.to {w w' : World} {B b m n : Nat} {f : Nat → Option Nat} (H : LocksAt w B b m n f) (hk : ∀ (x : Nat) (o : Obj), (x = b ∨ x = m ∨ (∃ c, o = Obj.cells c 3 (0, 0)) ∨ ∃ c, o = Obj.cells c 102 (0, 0)) → w.heap[x]? = some o → w'.heap[x]? = some o) : LocksAt w' B b m n f := by
  obtain ⟨h0, h1, h2, h3, h4⟩ := H
  obtain ⟨es, c, hes⟩ := h2.map
  refine ⟨h0, hk _ _ (.inl rfl) h1, h2.same ((hk _ _ (.inr (.inl rfl)) hes).trans hes.symm), fun i hi x hx => ⟨(h3 i hi x hx).1, ?_⟩, h4⟩
  have hl := (h3 i hi x hx).2
  obtain ⟨cx, hcx⟩ := hl.cells
  refine hl.keep (fun z c hz => hk _ _ (.inr (.inr (.inl ⟨c, rfl⟩))) hz) (fun o ho => ?_)
  rw [hcx] at ho
  cases ho
  exact hk _ _ (.inr (.inr (.inr ⟨cx, rfl⟩))) hcx
/-- Memory's writes leave locks and jobs. -/
theorem LocksAt.mem {w w' : World} {B b mL n s r m cS cN a q : Nat} {P : Nat → Prop} {f : Nat → Option Nat} (H : LocksAt w B b mL n f) (HM : Mem w B s r m cS cN a q P) (hmm : m ≠ mL) (hW : WX B (fun b _ => b = m ∨ b = cN) w w') : LocksAt w' B b mL n f := by
  obtain ⟨es, c, hes⟩ := H.2.2.1.map
  have hN : mL ≠ cN := by
    obtain ⟨g, sn, h1, h2, h3, h4, h5, h6⟩ := HM
    rintro rfl; rw [hes] at h5; cases h5
  refine H.to fun x o hx ho => hW.2 x o ?_ ho
  have key : ∀ y, (y = m ∨ y = cN) → x ≠ y := by
    intro y hy e
    subst e
    obtain ⟨a1, a2, a3, a4⟩ := HM.apart (b := x) (by rcases hy with h | h; exact .inr (.inr (.inl h)); exact .inr (.inr (.inr (.inr h))))
    rcases hx with hx | hx | ⟨c, rfl⟩ | ⟨c, rfl⟩
    · exact a3 _ (by rw [hx]; exact H.2.1)
    · rcases hy with hy | hy
      · exact hmm (by rw [← hy, hx])
      · exact hN (by rw [← hy, hx])
    · exact a4 c ho
    · exact a2 c ho
  rintro (h | h)
  · exact key m (.inl rfl) h
  · exact key cN (.inr rfl) h
theorem JobAt.mem {w w' : World} {b o : Nat} {c : Array Value} {g cap took : Nat} {did : Bool} {gave : Nat} {B s r m cS cN a q : Nat} {P : Nat → Prop} (h : JobAt w b o c g cap took did gave) (HM : Mem w B s r m cS cN a q P) (hW : WX B (fun b _ => b = m ∨ b = cN) w w') : JobAt w' b o c g cap took did gave := by
  refine h.to fun hb => hW.2 b _ ?_ hb
  rintro (e | e)
  · exact (HM.apart (b := b) (.inr (.inr (.inl e)))).1 _ hb
  · exact (HM.apart (b := b) (.inr (.inr (.inr (.inr e))))).1 _ hb
/-- A job's writes leave memory. -/
theorem Mem.job {w w' : World} {B s r m cS cN a q p : Nat} {P : Nat → Prop} {c : Array Value} (H : Mem w B s r m cS cN a q P) (hW : Wrote p w w') (hp : w.heap[p]? = some (.cells c 37)) : Mem w' B s r m cS cN a q P :=
  H.to fun b hb o ho => hW.2 b o (fun e => (H.apart hb).1 c (by rw [e]; exact hp)) ho
theorem AskIs.to {w w' : World} {cH cA h a : Nat} {P : Nat → Prop} (H : AskIs w cH cA h a P) (hk : ∀ (x : Nat) (o : Obj), ((∃ c, o = Obj.cells c 3 (0, 0)) ∨ (∃ c, o = Obj.cells c 46 (0, 0))) → w.heap[x]? = some o → w'.heap[x]? = some o) : AskIs w' cH cA h a P := by
  rcases H with ⟨h1, h2, h3⟩ | ⟨h1, h2, v, hv, hP, h3⟩
  · exact .inl ⟨h1, hk _ _ (.inl ⟨_, rfl⟩) h2, hk _ _ (.inr ⟨_, rfl⟩) h3⟩
  · exact .inr ⟨h1, hk _ _ (.inl ⟨_, rfl⟩) h2, v, hv, hP, hk _ _ (.inr ⟨_, rfl⟩) h3⟩
theorem run_func_nil (P : Program) (w : World) (d : Nat) (t : TypeId) {ps rs : Array TypeId} {vd : Bool} (h : P.underlying t = some (.func ps rs vd)) (f : Fn) (a c : Array Value) : (Op.equalIn (d + 1) t (.func f a c) .nilFunc).run P w = .ok false w := by
  simp [Op.equalIn, run_underlying h]
theorem act_notnil (w : World) (caps : Array Value) : (binOp BinOp.neq 1 (Value.func (.func 10) #[] caps) Value.nilFunc).run Try.prog w = .ok (.bool true) w := by
  have h : (Op.equal 1 (Value.func (.func 10) #[] caps) Value.nilFunc).run Try.prog w = .ok false w := run_func_nil Try.prog w 9999 1 Try.underlying1 _ _ _
  simp [binOp, go_sem, h]
set_option maxRecDepth 100000 in
set_option maxHeartbeats 8000000 in
theorem step_act (B bJ o g cap gave : Nat) (c : Array Value) (bL mL n h s r m cS cN cH cA a q : Nat) (P : Nat → Prop) (f : Nat → Option Nat) (w : World) (hJ : JobAt w bJ o c g cap 2 false gave) (HL : LocksAt w B bL mL n f) (HM : Mem w B s r m cS cN a q P) (HA : AskIs w cH cA h a P) (hmm : m ≠ mL) (hB : B ≤ bJ) (hq : q < 900000) (ha : 2147483648 ≤ a) (ha2 : a + 8 ≤ 2147483648 + 128) :
    Calls Try.prog 9 #[.pointer (some ⟨bJ, o, none⟩), .pointer (some ⟨bL, 0, none⟩), .int .i64 (h : Int), actV cS cH cA cN] w fun e w' => (∃ v, e = .returned (.int .i64 v)) ∧ ∃ c', LocksAt w' B bL mL n f ∧ Mem w' B s r m cS cN a (q + 4) P ∧ JobAt w' bJ o c' g cap 2 true gave ∧ (∀ j, (j < o ∨ o + 4 ≤ j) → c'[j]? = c[j]?) ∧ WX B (fun b ob => b = m ∨ b = cN ∨ b = bJ) w w' := by
  have HB := Lib.hid (And.intro hmm hB)
  have HQ := Lib.hid (And.intro hq (And.intro ha ha2))
  have an := act_notnil
  clear hmm hB hq ha ha2
  unfold actV
  go_enter Try.func9, Try.ntmps9
  go_wp2_with fail
  refine (done_no bJ o g cap 2 gave c _ hJ).mono ?_
  rintro e w1 ⟨rfl, n1, rfl⟩
  have b1 := ((Fr.refl w).drewN n1).1
  have J1 := hJ.keep b1
  have L1 := HL.keep b1
  have M1 := HM.keep b1
  have A1 := HA.to (w' := w.drewN n1) (fun x o _ ho => keepB b1 ho)
  have K1 := (WX.refl B (fun b (ob : Obj) => b = m ∨ b = cN ∨ b = bJ) w).below b1
  obtain ⟨w1, hw1⟩ : ∃ w1, w.drewN n1 = w1 := ⟨_, rfl⟩
  rw [hw1] at J1 L1 M1 A1 K1 ⊢
  clear hw1 b1
  obtain ⟨c0, c1, c2, c3, cl, cf⟩ := J1.cells
  go_wp2_with fail
  go_quiet (fail)
  have b2 := ((Fr.refl w1).drewN nq).1
  have J2 := J1.keep b2
  have L2 := L1.keep b2
  have M2 := M1.keep b2
  have A2 := A1.to (w' := w1.drewN nq) (fun x o _ ho => keepB b2 ho)
  have K2 := K1.below b2
  obtain ⟨w2, hw2⟩ : ∃ w2, w1.drewN nq = w2 := ⟨_, rfl⟩
  rw [hw2] at J2 L2 M2 A2 K2 ⊢
  clear hw2 b2 J1 L1 M1 A1 K1 c0 c1 c2 c3 cl cf
  obtain ⟨c0, c1, c2, c3, cl, cf⟩ := J2.cells
  have W3 := (Wrote.refl bJ w2).setCell (o + 2) (.bool true)
  have L3 := L2.job W3 J2.blk
  have M3 := M2.job W3 J2.blk
  have A3 := A2.to (w' := w2.setCell ⟨bJ, o + 2, none⟩ (.bool true)) (fun x ob hx ho => W3.2 _ _ (fun e => by
    subst e
    rcases hx with ⟨c', rfl⟩ | ⟨c', rfl⟩ <;> (rw [J2.blk] at ho; cases ho)) ho)
  have J3 := J2.setDd true
  have K3 := K2.wrote W3 HB.out.2 (fun _ => .inr (.inr rfl))
  have HAct := Lib.hid (act_any B s r m cS cN a q cH cA h P _ M3 A3 HQ.out.1 HQ.out.2.1 HQ.out.2.2)
  have HS3 := Lib.hid (And.intro L3 (And.intro M3 (And.intro J3 K3)))
  clear W3 L3 M3 A3 J3 K3 J2 L2 M2 A2 K2
  go_wp2_with fail
  refine HAct.out.mono ?_
  rintro e w4 ⟨rfl, M4, X4⟩
  obtain ⟨L3, M3, J3, K3⟩ := HS3.out
  have J4 := J3.mem M3 X4
  have L4 := Lib.hid (L3.mem M3 HB.out.1 X4)
  have K4 := Lib.hid (K3.trans (X4.mono (fun b o h => by rcases h with h | h; exact .inl h; exact .inr (.inl h))))
  have HM4 := Lib.hid M4
  have HJ4 := Lib.hid J4
  clear L3 M3 J3 K3 M4 X4 HS3 HAct c0 c1 c2 c3 cl cf
  obtain ⟨c0, c1, c2, c3, cl, cf⟩ := J4.cells
  clear J4
  go_wp2_with fail
  go_ret
  exact ⟨⟨_, rfl⟩, _, L4.out, HM4.out, HJ4.out, fun j hj => Array.getElem?_setIfInBounds_ne (by omega), K4.out⟩
end Go.Proofs.Ytdeheoaeagoidaa
