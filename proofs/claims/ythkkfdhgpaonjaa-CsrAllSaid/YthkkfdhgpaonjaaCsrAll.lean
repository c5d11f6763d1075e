/- CsrAll: all CSRs are told with their names, rising, till nobody wants more. -/
import Derived.Test.YthkkfdhgpaonjaaCsrF
import Derived.Test.YthkkfdhgpaonjaaHeld
namespace Go.Proofs.Ythkkfdhgpaonjaa
open Go.RowKit
set_option linter.unusedSimpArgs false
set_option linter.unusedVariables false

/-- The boxes of the counting closure: fine, n, l, most; and the document's rows. -/
structure Boxes (w : World) (bF bN bL bM rb : Nat) (k : Int) (M : Int) : Prop where
  f : w.heap[bF]? = some (.cells #[.bool true] 4)
  n : w.heap[bN]? = some (.cells #[.int .i64 k] 3)
  l : w.heap[bL]? = some (.cells #[.slice (some ⟨rb, 0, none⟩) 34 34] 67)
  m : w.heap[bM]? = some (.cells #[.int .i64 M] 3)
  r : w.heap[rb]? = some (.cells cells19 52)
  fn : bF ≠ bN
  fl : bF ≠ bL
  fm : bF ≠ bM
  fr : bF ≠ rb
  nl : bN ≠ bL
  nm : bN ≠ bM
  nr : bN ≠ rb
theorem known1 {w : World} {b : Nat} {v0 : Value} {t : TypeId} (h : w.heap[b]? = some (.cells #[v0] t)) :
    w.cell? ⟨b, 0, none⟩ = some v0 ∧ b < w.heap.size ∧ ∀ o, w.frozen? ⟨b, o, none⟩ = false := by
  refine ⟨by rw [cell_at h]; rfl, lt_of_at h, fun o => by simp [World.frozen?, h]⟩
theorem Boxes.keep {w w' : World} {bF bN bL bM rb : Nat} {k M : Int} (h : Boxes w bF bN bL bM rb k M) (hb : Below w.heap.size w w') : Boxes w' bF bN bL bM rb k M :=
  ⟨keepB hb h.f, keepB hb h.n, keepB hb h.l, keepB hb h.m, keepB hb h.r, h.fn, h.fl, h.fm, h.fr, h.nl, h.nm, h.nr⟩
theorem Boxes.tick {w : World} {bF bN bL bM rb : Nat} {k M : Int} (h : Boxes w bF bN bL bM rb k M) (k' : Int) :
    Boxes ((w.setCell ⟨bF, 0, none⟩ (.bool true)).setCell ⟨bN, 0, none⟩ (.int .i64 k')) bF bN bL bM rb k' M :=
  ⟨keep_setCell (set_at h.f 0 _) h.fn.symm _, set_at (keep_setCell h.n h.fn _) 0 _, keep_setCell (keep_setCell h.l h.fl _) h.nl _, keep_setCell (keep_setCell h.m h.fm _) h.nm _, keep_setCell (keep_setCell h.r h.fr _) h.nr _,
   h.fn, h.fl, h.fm, h.fr, h.nl, h.nm, h.nr⟩

set_option maxRecDepth 100000 in
set_option maxHeartbeats 2000000 in
theorem yield19 (bF bN bL bM rb : Nat) (k : Nat) (hk : k < 34) (M : Int) (w : World) (hB : Boxes w bF bN bL bM rb k M) :
    Calls Try.prog 38 #[.int .i64 (tab19.getD k default).1, .string (tab19.getD k default).2.1, .pointer (some ⟨bF, 0, none⟩), .pointer (some ⟨bN, 0, none⟩), .pointer (some ⟨bL, 0, none⟩), .pointer (some ⟨bM, 0, none⟩)] w fun e w' =>
      e = .returned (.bool (((k + 1 : Nat) : Int) != M)) ∧ w' = (w.setCell ⟨bF, 0, none⟩ (.bool true)).setCell ⟨bN, 0, none⟩ (.int .i64 ((k + 1 : Nat) : Int)) := by
  obtain ⟨f0, fl, ff⟩ := known1 hB.f
  obtain ⟨n0, nl, nf⟩ := known1 hB.n
  obtain ⟨l0, ll, lf⟩ := known1 hB.l
  obtain ⟨m0, ml, mf⟩ := known1 hB.m
  obtain ⟨c0, c1, c2⟩ := cells19_at hB.r k hk
  obtain ⟨r, hr⟩ : ∃ r, r = tab19.getD k default := ⟨_, rfl⟩
  rw [← hr] at c0 c1 c2 ⊢
  clear hr
  have hfn := hB.fn
  have hfm := hB.fm
  have hnm := hB.nm
  have hfn' := hB.fn.symm
  have hfm' := hB.fm.symm
  have hnm' := hB.nm.symm
  clear hB
  go_enter Try.func38, Try.ntmps38
  go_wp2
  go_ret
  refine ⟨?_, ?_⟩ <;> first | rfl | (congr 1; done) | skip

/-- How many are told. -/
def toldOf (M : Int) : Int := if 0 < M ∧ M < 34 then M else 34
set_option maxRecDepth 100000 in
set_option maxHeartbeats 2000000 in
theorem all1_any (B : Nat) (w0 : World) (bF bN bL bM rb : Nat) (M : Int) (w : World) (hB : Boxes w bF bN bL bM rb 0 M) (hf : Fr B w0 w) (hF : B ≤ bF) (hN : B ≤ bN) :
    Calls Try.prog 81 #[.func (.func 38) #[] #[.pointer (some ⟨bF, 0, none⟩), .pointer (some ⟨bN, 0, none⟩), .pointer (some ⟨bL, 0, none⟩), .pointer (some ⟨bM, 0, none⟩)]] w fun e w' =>
      (∃ v, e = .returned v) ∧ Boxes w' bF bN bL bM rb (toldOf M) M ∧ Fr B w0 w' := by
  go_enter Try.func81, Try.ntmps81
  go_wp2_with (go_at_call 82; refine (crows_any _).mono ?_; rintro e w' ⟨rfl, rfl⟩)
  obtain ⟨w1, hw1⟩ : ∃ w1, w1 = w.alloc (.cells cells19 129) := ⟨_, rfl⟩
  have hB1 : Boxes w1 bF bN bL bM rb 0 M := by rw [hw1]; exact hB.keep ((Below.refl _ w).alloc (Nat.le_refl _) _)
  have hf1 : Fr B w0 w1 := by rw [hw1]; exact hf.alloc _
  have hh1 : w1.heap[w.heap.size]? = some (.cells cells19 129) := by rw [hw1]; exact heap_alloc_new _ _
  obtain ⟨cb, hcb⟩ : ∃ cb, cb = w.heap.size := ⟨_, rfl⟩
  have hcF : bF ≠ cb := by have := lt_of_at hB.f; omega
  have hcN : bN ≠ cb := by have := lt_of_at hB.n; omega
  rw [← hcb] at hh1 ⊢
  rw [← hw1]
  clear hw1 hcb hB hf
  go_loopw [6] (fun i wr => ∃ k : Nat, k ≤ 34 ∧ i = .int .i64 k ∧ Hid (M ≤ 0 ∨ (k : Int) < M) ∧ Boxes wr bF bN bL bM rb k M ∧ Fr B w0 wr ∧ wr.heap[cb]? = some (.cells cells19 129)) (fun i _ => 34 - (intOf i).toNat)
  case atStart => exact ⟨0, by omega, rfl, Lib.hid (by omega), hB1, hf1, hh1⟩
  case round =>
    obtain ⟨k, hk, rfl, HM, hbx, hfr, hhr⟩ := hrel
    by_cases hlt : k < 34
    · obtain ⟨c0, c1, c2⟩ := cells19_at hhr k hlt
      have hY := fun (wx : World) (hx : Boxes wx bF bN bL bM rb k M) => yield19 bF bN bL bM rb k hlt M wx hx
      obtain ⟨r, hr⟩ : ∃ r, r = tab19.getD k default := ⟨_, rfl⟩
      rw [← hr] at c0 c1 c2 hY
      have HY := Lib.hid hY
      clear hr hY
      go_wp2_with fail
      refine (HY.out _ (hbx.keep ((Below.refl _ wr).alloc (Nat.le_refl _) _))).mono ?_
      rintro e w2 ⟨rfl, hw2⟩
      have hbx2 : Boxes w2 bF bN bL bM rb ((k + 1 : Nat) : Int) M := by rw [hw2]; exact (hbx.keep ((Below.refl _ wr).alloc (Nat.le_refl _) _)).tick _
      have hfr2 : Fr B w0 w2 := by rw [hw2]; exact ((hfr.alloc _).setCell hF _).setCell hN _
      have hhr2 : w2.heap[cb]? = some (.cells cells19 129) := by rw [hw2]; exact keep_setCell (keep_setCell (keep_alloc hhr _) hcF _) hcN _
      clear hw2
      by_cases hM : ((k + 1 : Nat) : Int) = M
      · have e1 : (((k + 1 : Nat) : Int) != M) = false := by simp [hM]
        rw [e1]
        go_wp2
        refine bodyPost_ret (results_none rfl _ _ _) rfl ⟨⟨_, rfl⟩, ?_, hfr2⟩
        have : toldOf M = ((k + 1 : Nat) : Int) := by unfold toldOf; split <;> omega
        rw [this]; exact hbx2
      · have e1 : (((k + 1 : Nat) : Int) != M) = true := by simpa using hM
        rw [e1]
        go_wp2
        go_roundw
        case rel => exact ⟨k + 1, by omega, by go_num, Lib.hid (by have := HM.out; omega), hbx2, hfr2, hhr2⟩
        case measure => simp [intOf]; omega
    · obtain rfl : k = 34 := by omega
      go_wp2
      go_end0
      refine ⟨⟨_, rfl⟩, ?_, hfr⟩
      have : toldOf M = ((34 : Nat) : Int) := by unfold toldOf; have := HM.out; split <;> omega
      rw [this]; exact hbx

theorem callAll (w : World) : Calls Try.prog 36 #[] w fun e w' => e = .returned (.func (.func 81) #[] #[]) ∧ w' = w := by
  go_enter Try.func36, Try.ntmps36
  go_wp2
  go_ret
  exact ⟨rfl, rfl⟩

theorem run_equalIn_func_nil (P : Program) (w : World) (d : Nat) (t : TypeId) {ps rs : Array TypeId} {vd : Bool} (h : P.underlying t = some (.func ps rs vd)) (f : Fn) (a c : Array Value) : (Op.equalIn (d + 1) t (.func f a c) .nilFunc).run P w = .ok false w := by
  simp [Op.equalIn, run_underlying h]
theorem run_notnil (w : World) : (binOp BinOp.eql 65 (Value.func (.func 81) #[] #[]) Value.nilFunc).run Try.prog w = .ok (.bool false) w := by
  have h : (Op.equal 65 (Value.func (.func 81) #[] #[]) Value.nilFunc).run Try.prog w = .ok false w := run_equalIn_func_nil Try.prog w 9999 65 Try.underlying65 _ _ _
  simp [binOp, go_sem, h]
theorem all1_v {T : Int} (B : Nat) (w0 : World) (bF bN bL bM rb : Nat) (M : Int) (w : World) (hT : toldOf M = T) (hB : Boxes w bF bN bL bM rb 0 M) (hf : Fr B w0 w) (hF : B ≤ bF) (hN : B ≤ bN) :
    Calls Try.prog 81 #[.func (.func 38) #[] #[.pointer (some ⟨bF, 0, none⟩), .pointer (some ⟨bN, 0, none⟩), .pointer (some ⟨bL, 0, none⟩), .pointer (some ⟨bM, 0, none⟩)]] w fun e w' =>
      (∃ v, e = .returned v) ∧ Boxes w' bF bN bL bM rb T M ∧ Fr B w0 w' := by
  rw [← hT]; exact all1_any B w0 bF bN bL bM rb M w hB hf hF hN

theorem boxes_new (w : World) (M : Int) : Boxes (((((w.alloc (Obj.cells #[Value.int IntKind.i64 M] 3)).alloc (Obj.cells cells19 52)).alloc
              (Obj.cells #[Value.slice (some { block := w.heap.size + 1, off := 0 }) 34 34] 67)).alloc
          (Obj.cells #[Value.int IntKind.i64 0] 3)).alloc
      (Obj.cells #[Value.bool true] 4)) (w.heap.size + 1 + 1 + 1 + 1) (w.heap.size + 1 + 1 + 1) (w.heap.size + 1 + 1) w.heap.size (w.heap.size + 1) 0 M := by
  have h0 := heap_alloc_new w (Obj.cells #[Value.int IntKind.i64 M] 3)
  have z0 : (w.alloc (Obj.cells #[Value.int IntKind.i64 M] 3)).heap.size = w.heap.size + 1 := by simp
  generalize w.alloc (Obj.cells #[Value.int IntKind.i64 M] 3) = wa at h0 z0 ⊢
  have h1 := heap_alloc_new wa (Obj.cells cells19 52)
  have z1 : (wa.alloc (Obj.cells cells19 52)).heap.size = wa.heap.size + 1 := by simp
  replace h0 := keep_alloc h0 (Obj.cells cells19 52)
  generalize wa.alloc (Obj.cells cells19 52) = wb at h0 h1 z1 ⊢
  obtain ⟨o, ho⟩ : ∃ o, o = Obj.cells #[Value.slice (some { block := w.heap.size + 1, off := 0 }) 34 34] 67 := ⟨_, rfl⟩
  rw [← ho]
  have h2 := heap_alloc_new wb o
  have z2 : (wb.alloc o).heap.size = wb.heap.size + 1 := by simp
  replace h0 := keep_alloc h0 o
  replace h1 := keep_alloc h1 o
  generalize wb.alloc o = wc at h0 h1 h2 z2 ⊢
  have h3 := heap_alloc_new wc (Obj.cells #[Value.int IntKind.i64 0] 3)
  have z3 : (wc.alloc (Obj.cells #[Value.int IntKind.i64 0] 3)).heap.size = wc.heap.size + 1 := by simp
  replace h0 := keep_alloc h0 (Obj.cells #[Value.int IntKind.i64 0] 3)
  replace h1 := keep_alloc h1 (Obj.cells #[Value.int IntKind.i64 0] 3)
  replace h2 := keep_alloc h2 (Obj.cells #[Value.int IntKind.i64 0] 3)
  generalize wc.alloc (Obj.cells #[Value.int IntKind.i64 0] 3) = wd at h0 h1 h2 h3 z3 ⊢
  have h4 := heap_alloc_new wd (Obj.cells #[Value.bool true] 4)
  replace h0 := keep_alloc h0 (Obj.cells #[Value.bool true] 4)
  replace h1 := keep_alloc h1 (Obj.cells #[Value.bool true] 4)
  replace h2 := keep_alloc h2 (Obj.cells #[Value.bool true] 4)
  replace h3 := keep_alloc h3 (Obj.cells #[Value.bool true] 4)
  generalize wd.alloc (Obj.cells #[Value.bool true] 4) = we at h0 h1 h2 h3 h4 ⊢
  rw [z3, z2, z1, z0] at h4
  rw [z2, z1, z0] at h3
  rw [z1, z0, ho] at h2
  rw [z0] at h1
  exact ⟨h4, h3, h2, h0, h1, by omega, by omega, by omega, by omega, by omega, by omega, by omega⟩

set_option maxRecDepth 100000 in
set_option maxHeartbeats 2000000 in
theorem csrAll_any (M : Int) (w : World) : Calls Try.prog 6 #[.int .i64 M] w fun e w' => e = .returned (.bool true) ∧ Below w.heap.size w w' := by
  obtain ⟨T, hT⟩ : ∃ T, toldOf M = T := ⟨_, rfl⟩
  have hTT : T = if 0 < M ∧ M < 34 then M else 34 := hT.symm
  have HT := Lib.hid hT
  clear hT
  have hnn := run_notnil
  go_enter Try.func6, Try.ntmps6
  go_wp2_with (first
    | (go_at_call 36; refine (callAll _).mono ?_; rintro e w' ⟨rfl, rfl⟩)
    | (go_at_call 37; refine (rrows_any _).mono ?_; rintro e w' ⟨rfl, rfl⟩))
  refine (all1_v w.heap.size w (w.heap.size + 1 + 1 + 1 + 1) (w.heap.size + 1 + 1 + 1) (w.heap.size + 1 + 1) w.heap.size (w.heap.size + 1) M _ HT.out (boxes_new w M) (((((Fr.refl w).alloc _).alloc _).alloc _).alloc _ |>.alloc _) (by omega) (by omega)).mono ?_
  rintro e w1 ⟨⟨v, rfl⟩, hB, hf⟩
  obtain ⟨f0, fl, ff⟩ := known1 hB.f
  obtain ⟨n0, nl, nf⟩ := known1 hB.n
  obtain ⟨l0, ll, lf⟩ := known1 hB.l
  obtain ⟨m0, ml, mf⟩ := known1 hB.m
  clear hB hnn
  by_cases h1 : 0 < M
  · by_cases h2 : M < 34
    · have hT : T = M := by rw [hTT, if_pos ⟨h1, h2⟩]
      clear hTT
      subst hT
      go_wp2_with fail
      refine (live19_any _).mono ?_
      rintro e w2 ⟨rfl, hb2⟩
      go_wp2
      go_ret
      exact ⟨rfl, (hf.step hb2).1⟩
    · have hT : T = 34 := by rw [hTT, if_neg (by omega)]
      clear hTT
      subst hT
      go_wp2_with fail
      refine (live19_any _).mono ?_
      rintro e w2 ⟨rfl, hb2⟩
      go_wp2
      go_ret
      exact ⟨rfl, (hf.step hb2).1⟩
  · have hT : T = 34 := by rw [hTT, if_neg (by omega)]
    clear hTT
    subst hT
    go_wp2_with fail
    refine (live19_any _).mono ?_
    rintro e w2 ⟨rfl, hb2⟩
    go_wp2
    go_ret
    exact ⟨rfl, (hf.step hb2).1⟩
end Go.Proofs.Ythkkfdhgpaonjaa
