/- TopWhole: the walk. -/
import Derived.Test.YtdeheoaeagoidaaTxF
import Derived.LoopTactic
import Derived.Deep.DeepCutAuto
namespace Go.Proofs.Ytdeheoaeagoidaa
open Go.RowKit
set_option linter.unusedSimpArgs false
set_option linter.unusedVariables false
/-- An ask of nothing. -/
def askZ : Array Value := #[.int .i64 0, .int .u64 0, .int .u64 0, .int .i64 0, .int .i64 0, .int .i64 0, .int .u64 0, .int .u64 0, .bool false, .int .i64 0, .bool false, .bool false, .bool false, .int .u64 0, .int .i64 0, .int .i64 0, .int .u64 0, .int .i64 0, .int .u64 0]
theorem size_askZ : askZ.size = sz19 := rfl
theorem zeroAsk (w : World) : (zeroValue 46).run Try.prog w = .ok (.agg askZ) w := by rw [Try.zeroValue46]; rfl
theorem stnAsk (w : World) (c : Array Value) (hc : c.size = 19) (k a d : Int) : (storeCells ⟨w.heap.size, 0, none⟩ (askC k a d).toList).run Try.prog (w.alloc (.cells c 46)) = .ok () (w.alloc (.cells (askC k a d) 46)) :=
  run_storeCells_new w _ _ _ infoAsk hc (one_askC k a d)
attribute [local simp high] sizeAsk sizeAns zeroAns zeroAsk

def Bools (w : World) (a : Option Addr) (len : Nat) (b : Nat → Bool) : Prop := ∀ i, i < len → ∃ ad, a = some ad ∧ ad.block < w.heap.size ∧ w.cell? (ad.add i) = some (.bool (b i))
theorem Bools.keep {w w' : World} {a : Option Addr} {len : Nat} {b : Nat → Bool} (h : Bools w a len b) (hb : Below w.heap.size w w') : Bools w' a len b := by
  intro i hi
  obtain ⟨ad, e, hl, hc⟩ := h i hi
  exact ⟨ad, e, Nat.lt_of_lt_of_le hl hb.size, hcell hb hc⟩
theorem Bools.fr {w w' : World} {a : Option Addr} {len : Nat} {b : Nat → Bool} (h : Bools w a len b) (hb : Fr w.heap.size w w') : Bools w' a len b := h.keep hb.1
set_option maxRecDepth 100000 in
set_option maxHeartbeats 8000000 in
theorem topwhole_long (a b p : Nat) (ao : Option Addr) (len cap : Nat) (w : World) (hlen : 300 < len) (hm : len ≤ 9223372036854775807) :
    Calls Try.prog 3 #[.int .u64 (a : Int), .int .u64 (b : Int), .int .u8 (p : Int), .slice ao len cap] w fun e w' => e = .returned (.bool true) ∧ Below w.heap.size w w' := by
  have h3 : decide ((300 : Int) < (len : Int)) = true := by simp; omega
  have h3' : decide (300 < len) = true := by simp; omega
  have c0 := (Fr.refl w).alloc (.cells #[.int .i64 2, .int .i64 2, .int .i64 2, .int .i64 1] 25)
  clear hlen hm
  go_enter Try.func3, Try.ntmps3
  go_wp2_with fail
  refine (shnew_any 2 _ (by omega) (by omega)).mono ?_
  rintro e w1 ⟨s, r, m, rfl, hS, hR, hb1, hs1, hr1, hm1⟩
  have F1 := (c0.step hb1).alloc (.cells #[.pointer (some ⟨s, 0, none⟩)] 26)
  clear hS hR
  go_wp2_with fail
  refine (lnew_any _).mono ?_
  rintro e w2 ⟨rfl, hL, hb2⟩
  have F2 := F1.step hb2
  go_wp2_with fail
  refine (lone_any _).mono ?_
  rintro e w3 ⟨rfl, hb3⟩
  have F3 := Lib.hid (F2.step hb3)
  go_wp2_with fail
  go_ret
  exact ⟨rfl, F3.out.1⟩
theorem LocksAt.down {w : World} {B B' b m n : Nat} {f : Nat → Option Nat} (H : LocksAt w B b m n f) (hB : B' ≤ B) : LocksAt w B' b m n f := ⟨Nat.le_trans hB H.1, H.2.1, H.2.2.1, fun i hi x hx => ⟨Nat.le_trans hB (H.2.2.2.1 i hi x hx).1, (H.2.2.2.1 i hi x hx).2⟩, H.2.2.2.2⟩
def jobs0 : Array Value := #[.slice none 0 0, .int .i64 0, .bool false, .int .i64 0, .slice none 0 0, .int .i64 0, .bool false, .int .i64 0]
def PV (a b v : Nat) : Prop := v = 0 ∨ v = a ∨ v = b
theorem numL_zero (f : Nat) : ∀ n, numL (fl fun _ _ => 0) f n = 0
  | n => by
    have : ∀ n f, numL (fl fun _ _ => 0) f n = 0 := by
      intro n
      induction n with
      | zero => intro f; rfl
      | succ n ih => intro f; show 0 + 256 * numL _ (f + 1) n = 0; rw [ih]
    exact this n f
theorem ri_start {w2 : World} {B s r m cS mL bL A a b : Nat} (hL : LocksAt w2 B bL mL 0 (fun _ => none)) (hS : ShAt w2 s r m 0 2 (fun _ _ => 0)) (kS : w2.heap[cS]? = some (.cells #[.pointer (some ⟨s, 0, none⟩)] 26)) (hm : B ≤ m) (hmm : m ≠ mL) (hB : B ≤ w2.heap.size) :
    RI (((w2.alloc (.cells #[.slice none 0 0, .int .i64 0, .bool false, .int .i64 0, .slice none 0 0, .int .i64 0, .bool false, .int .i64 0] 37)).alloc (.cells #[.bool false, .bool false] 38)).alloc (.cells #[.int .u64 0] 22)) B s r m cS (w2.heap.size + 1 + 1) bL mL w2.heap.size (w2.heap.size + 1) A 0 (PV a b) (fun _ => false) 2 ∧ Below w2.heap.size w2 (((w2.alloc (.cells #[.slice none 0 0, .int .i64 0, .bool false, .int .i64 0, .slice none 0 0, .int .i64 0, .bool false, .int .i64 0] 37)).alloc (.cells #[.bool false, .bool false] 38)).alloc (.cells #[.int .u64 0] 22)) := by
  have bl := (((Fr.refl w2).alloc (.cells #[.slice none 0 0, .int .i64 0, .bool false, .int .i64 0, .slice none 0 0, .int .i64 0, .bool false, .int .i64 0] 37)).alloc (.cells #[.bool false, .bool false] 38)).alloc (.cells #[.int .u64 0] 22)
  have k1 := heap_alloc_new w2 (.cells #[.slice none 0 0, .int .i64 0, .bool false, .int .i64 0, .slice none 0 0, .int .i64 0, .bool false, .int .i64 0] 37)
  have k2 := heap_alloc_new (w2.alloc (.cells #[.slice none 0 0, .int .i64 0, .bool false, .int .i64 0, .slice none 0 0, .int .i64 0, .bool false, .int .i64 0] 37)) (.cells #[.bool false, .bool false] 38)
  have k3 := heap_alloc_new ((w2.alloc (.cells #[.slice none 0 0, .int .i64 0, .bool false, .int .i64 0, .slice none 0 0, .int .i64 0, .bool false, .int .i64 0] 37)).alloc (.cells #[.bool false, .bool false] 38)) (.cells #[.int .u64 0] 22)
  have e1 : (w2.alloc (.cells #[.slice none 0 0, .int .i64 0, .bool false, .int .i64 0, .slice none 0 0, .int .i64 0, .bool false, .int .i64 0] 37)).heap.size = w2.heap.size + 1 := by simp
  have e2 : ((w2.alloc (.cells #[.slice none 0 0, .int .i64 0, .bool false, .int .i64 0, .slice none 0 0, .int .i64 0, .bool false, .int .i64 0] 37)).alloc (.cells #[.bool false, .bool false] 38)).heap.size = w2.heap.size + 1 + 1 := by simp
  rw [e1] at k2
  rw [e2] at k3
  have k1' := keep_alloc (keep_alloc k1 (.cells #[.bool false, .bool false] 38)) (.cells #[.int .u64 0] 22)
  have k2' := keep_alloc k2 (.cells #[.int .u64 0] 22)
  refine ⟨⟨_, jobs0, hL.keep bl.1, ⟨_, 0, hS.keep bl.1, fun i j => (by show 0 < 256; omega), .inl (numL_zero _ _), keepB bl.1 kS, k3, .inl rfl, hm, by omega⟩, k1', rfl, k2', fun i hi hx hq => (by cases hq), hmm, hB, by omega⟩, bl.1⟩
theorem AskIs.known {w : World} {cH cA h a : Nat} {P : Nat → Prop} (H : AskIs w cH cA h a P) : h < 2 ∧ w.heap[cH]? = some (.cells #[.int .i64 (h : Int)] 3) ∧ ∃ k d : Int, (k = 2 ∨ k = 3) ∧ w.heap[cA]? = some (.cells (askC k a d) 46) := by
  rcases H with ⟨rfl, h2, h3⟩ | ⟨rfl, h2, v, hv, hP, h3⟩
  · exact ⟨by omega, h2, 2, 0, .inl rfl, h3⟩
  · exact ⟨by omega, h2, 3, v, .inr rfl, h3⟩
theorem AskIs.keep {w w' : World} {cH cA h a : Nat} {P : Nat → Prop} (H : AskIs w cH cA h a P) (hb : Below w.heap.size w w') : AskIs w' cH cA h a P := H.to (fun x o _ ho => keepB hb ho)
theorem AskIs.far {w w' : World} {cH cA h a p : Nat} {P : Nat → Prop} {c : Array Value} {T : TypeId} {fz : Nat × Nat} (H : AskIs w cH cA h a P) (hW : Wrote p w w') (hp : w.heap[p]? = some (.cells c T fz)) (hT : T ≠ 3 ∧ T ≠ 46) : AskIs w' cH cA h a P :=
  H.to fun x o hx ho => hW.2 x o (fun e => by
    subst e
    rcases hx with ⟨c', rfl⟩ | ⟨c', rfl⟩
    · rw [hp] at ho; cases ho; exact hT.1 rfl
    · rw [hp] at ho; cases ho; exact hT.2 rfl) ho
theorem RI.facts {w : World} {B s r m cS cN bL mL bJ bB a k : Nat} {P : Nat → Prop} {q : Nat → Bool} {x : Nat} (H : RI w B s r m cS cN bL mL bJ bB a k P q x) : (∃ jc, w.heap[bJ]? = some (.cells jc 37) ∧ jc.size = 8) ∧ w.heap[bB]? = some (.cells #[.bool (q 0), .bool (q 1)] 38) ∧ w.heap[cS]? = some (.cells #[.pointer (some ⟨s, 0, none⟩)] 26) ∧ (∃ sn : Nat, w.heap[cN]? = some (.cells #[.int .u64 (sn : Int)] 22) ∧ P sn) ∧ (∃ g, ShAt w s r m (4 * k) 2 g) ∧ B ≤ bJ ∧ B ≤ bB := by
  obtain ⟨f, jc, h1, ⟨g, sn, a1, a2, a3, a4, a5, a6, a7, a8⟩, h3, h4, h5, h6, h7, h8, h9⟩ := H
  exact ⟨⟨jc, h3, h4⟩, h5, a4, ⟨sn, a5, a6⟩, ⟨g, a1⟩, h8, h9⟩
theorem wj_call {p : Nat} {w0 w w' : World} {a0 a1 : Addr} {v0 v1 : Value} {cA : Nat} {o : Obj} (hb : Below w.heap.size w w') (h : Wrote p w0 w ∧ w.cell? a0 = some v0 ∧ w.cell? a1 = some v1 ∧ w.heap[cA]? = some o) : Wrote p w0 w' ∧ w'.cell? a0 = some v0 ∧ w'.cell? a1 = some v1 ∧ w'.heap[cA]? = some o :=
  ⟨h.1.below hb, hcell hb h.2.1, hcell hb h.2.2.1, keepB hb h.2.2.2⟩
theorem wj_set {p : Nat} {w0 w w' : World} {a0 a1 : Addr} {v0 v1 : Value} {cA : Nat} {o : Obj} (hW : Wrote p w w') (n0 : a0.block ≠ p) (n1 : a1.block ≠ p) (n2 : cA ≠ p) (h : Wrote p w0 w ∧ w.cell? a0 = some v0 ∧ w.cell? a1 = some v1 ∧ w.heap[cA]? = some o) : Wrote p w0 w' ∧ w'.cell? a0 = some v0 ∧ w'.cell? a1 = some v1 ∧ w'.heap[cA]? = some o :=
  ⟨h.1.trans hW, cell_wrote hW h.2.1 n0, cell_wrote hW h.2.2.1 n1, hW.2 _ _ n2 h.2.2.2⟩
theorem busy_cell {w : World} {bB h : Nat} {q : Nat → Bool} (hb : w.heap[bB]? = some (.cells #[.bool (q 0), .bool (q 1)] 38)) (hh : h < 2) : w.cell? ⟨bB, h, none⟩ = some (.bool (q h)) := by
  rw [cell_at hb]
  rcases lk_lt2 hh with rfl | rfl <;> rfl
theorem done_v (b o g cap took gave : Nat) (did : Bool) (c : Array Value) (w : World) (h : JobAt w b o c g cap took did gave) :
    ∃ qd, Calls Try.prog 12 #[.pointer (some ⟨b, o, none⟩)] w fun e w' => e = .returned (.bool qd) ∧ ∃ n, w' = w.drewN n := by
  cases did with
  | false => exact ⟨false, done_no b o g cap took gave c w h⟩
  | true => exact ⟨_, done_yes b o g cap took gave _ c w rfl h⟩
theorem step_v (B s r m cS cN bL mL bJ bB A k hv cH cA : Nat) (P : Nat → Prop) (q : Nat → Bool) (w : World) (hR : RI w B s r m cS cN bL mL bJ bB A k P q 2) (hq : q hv = true) (hA : AskIs w cH cA hv A P) (hh : hv < 2) (hk : k < 300) (ha : 2147483648 ≤ A) (ha2 : A + 8 ≤ 2147483648 + 128) :
    Calls Try.prog 9 #[.pointer (some ⟨bJ, hv * 4, none⟩), .pointer (some ⟨bL, 0, none⟩), .int .i64 (hv : Int), .func (.func 10) #[] #[.pointer (some ⟨cS, 0, none⟩), .pointer (some ⟨cH, 0, none⟩), .pointer (some ⟨cA, 0, none⟩), .pointer (some ⟨cN, 0, none⟩)]] w fun e w' => (∃ v, e = .returned (.int .i64 v)) ∧ RI w' B s r m cS cN bL mL bJ bB A (k + 1) P q 2 ∧ (∃ c g cap tk dd gv, JobAt w' bJ (hv * 4) c g cap tk dd gv) ∧ w'.heap[cH]? = some (.cells #[.int .i64 (hv : Int)] 3) ∧ (∀ w0, Fr B w0 w → Fr B w0 w') := by
  obtain ⟨f, jc, h1, h2, h3, h4, h5, h6, h7, h8, h9⟩ := hR
  obtain ⟨g, cap, took, did, gave, Bq, J, R, ht, hg⟩ := h6 hv hh (by omega) hq
  refine (step_any B Bq bJ (hv * 4) g cap took gave did jc bL mL k hv s r m cS cN cH cA A (4 * k) P f w J R h1 h2 hA h7 h8 ht hg hh (by omega) (by omega) ha ha2).mono ?_
  rintro e w' ⟨hv1, f', c', tk', dd', gv', p1, p2, p3, p4, p5, p6, p7⟩
  exact ⟨hv1, RI.stepped (took := 0) (gave := 0) (did := false) h1 h2 h3 h4 h5 (fun i hi => h6 i hi (by omega)) h7 h8 h9 hh R p1 p2 p3 p4 p5 p6 p7, ⟨_, _, _, _, _, _, p3⟩, WX.far h1 h2 h3 p7 hA.known.2.1 ⟨by decide, by decide, by decide⟩, p7.1⟩
set_option maxRecDepth 100000 in
set_option maxHeartbeats 8000000 in
theorem topwhole_short (a b p : Nat) (ao : Option Addr) (len cap : Nat) (pk : Nat → Bool) (w : World) (ha : a < 18446744073709551616) (hb : b < 18446744073709551616) (hp : p < 256) (hpk : Bools w ao len pk) (hlen : len ≤ 300) :
    Calls Try.prog 3 #[.int .u64 (a : Int), .int .u64 (b : Int), .int .u8 (p : Int), .slice ao len cap] w fun e w' => e = .returned (.bool true) ∧ Below w.heap.size w w' := by
  have h3 : decide ((300 : Int) < (len : Int)) = false := by simp; omega
  have h3' : decide (300 < len) = false := by simp; omega
  obtain ⟨A, hA⟩ : ∃ A, 2147483705 + p % 7 = A := ⟨_, rfl⟩
  have HA := Lib.hid (show 2147483705 ≤ A ∧ A < 2147483712 by omega)
  obtain ⟨p7, hp7⟩ : ∃ p7, p % 7 = p7 := ⟨_, rfl⟩
  have e7 : (p : Int) % 7 = (p7 : Int) := by omega
  have e70 : (0 : Int) ≤ p7 := by omega
  have e71 : (p7 : Int) < 7 := by omega
  have e7' : Int.tmod (p : Int) 7 = (p7 : Int) := by rw [Int.tmod_eq_emod_of_nonneg (by omega)]; exact e7
  have e8 : IntKind.u64.wrap (2147483705 + (p7 : Int)) = (A : Int) := by rw [IntKind.wrap_u64]; omega
  have e9 : 2147483705 + (p7 : Int) = (A : Int) := by omega
  have e10 : IntKind.u64.wrap (p7 : Int) = (p7 : Int) := by rw [IntKind.wrap_u64]; omega
  have HAB := Lib.hid (And.intro ha hb)
  have HPK := Lib.hid hpk
  have HLE := Lib.hid hlen
  have c0 := (Fr.refl w).alloc (.cells #[.int .i64 2, .int .i64 2, .int .i64 2, .int .i64 1] 25)
  clear hA hp7 ha hb hp hpk hlen
  go_enter Try.func3, Try.ntmps3
  go_wp2_with fail
  refine (shnew_any 2 _ (by omega) (by omega)).mono ?_
  rintro e w1 ⟨s, r, m, rfl, hS, hR, hb1, hs1, hr1, hm1⟩
  have b1 := hb1
  have al1 := (Fr.refl w1).alloc (.cells #[.pointer (some ⟨s, 0, none⟩)] 26)
  have S1 : ShAt (w1.alloc (.cells #[.pointer (some ⟨s, 0, none⟩)] 26)) s r m 0 2 (fun _ _ => 0) := (show ShAt w1 s r m 0 2 (fun _ _ => 0) from ⟨hS, hR⟩).keep al1.1
  have kS := heap_alloc_new w1 (.cells #[.pointer (some ⟨s, 0, none⟩)] 26)
  have F1 := (c0.step hb1).alloc (.cells #[.pointer (some ⟨s, 0, none⟩)] 26)
  have Hs := Lib.hid (show w.heap.size ≤ m by simp at hm1; omega)
  have Hml := Lib.hid (show m ≠ (w1.alloc (.cells #[.pointer (some ⟨s, 0, none⟩)] 26)).heap.size by have := S1.lts; omega)
  clear hS hR al1 hb1 b1 hs1 hr1 hm1 c0
  go_wp2_with fail
  refine (lnew_any _).mono ?_
  rintro e w2 ⟨rfl, hL, hb2⟩
  have S2 := S1.keep hb2
  have kS2 := keepB hb2 kS
  have F2 := F1.step hb2
  have hB1 := F1.2
  clear S1 kS F1 hb2
  go_wp2_with fail
  obtain ⟨HRI, hbl⟩ := ri_start (A := A) (a := a) (b := b) (hL.down hB1) S2 kS2 Hs.out Hml.out F2.2
  have F3 := F2.step hbl
  have e1 : (w1.alloc (.cells #[.pointer (some ⟨s, 0, none⟩)] 26)).heap.size = w1.heap.size + 1 := by simp
  rw [e1] at HRI
  clear hbl hL S2 kS2 F2 hB1 e1 e7 e7' e8 e9 e10 e70 e71 Hml Hs
  obtain ⟨wL, hwL⟩ : ∃ wL, ((w2.alloc (.cells #[.slice none 0 0, .int .i64 0, .bool false, .int .i64 0, .slice none 0 0, .int .i64 0, .bool false, .int .i64 0] 37)).alloc (.cells #[.bool false, .bool false] 38)).alloc (.cells #[.int .u64 0] 22) = wL := ⟨_, rfl⟩
  rw [hwL] at HRI F3 ⊢
  clear hwL
  obtain ⟨cS, hcS⟩ : ∃ c, w1.heap.size = c := ⟨_, rfl⟩
  rw [hcS] at HRI ⊢
  obtain ⟨mL, hmL⟩ : ∃ c, cS + 1 = c := ⟨_, rfl⟩
  rw [hmL] at HRI ⊢
  obtain ⟨bL, hbL⟩ : ∃ c, mL + 1 = c := ⟨_, rfl⟩
  rw [hbL] at HRI ⊢
  obtain ⟨bJ, hbJ⟩ : ∃ c, w2.heap.size = c := ⟨_, rfl⟩
  rw [hbJ] at HRI ⊢
  obtain ⟨bB, hbB⟩ : ∃ c, bJ + 1 = c := ⟨_, rfl⟩
  rw [hbB] at HRI ⊢
  obtain ⟨cN, hcN⟩ : ∃ c, bB + 1 = c := ⟨_, rfl⟩
  rw [hcN] at HRI ⊢
  clear hcS hmL hbL hbJ hbB hcN
  have HRL := Lib.hid HRI
  have FL := Lib.hid F3
  clear HRI F3
  have HI0 : Hid (∃ k nn : Nat, k ≤ len ∧ nn ≤ k ∧ (0 : Int) = (k : Int) ∧ (0 : Int) = (nn : Int)) := Lib.hid ⟨0, 0, by omega, by omega, rfl, rfl⟩
  go_loopw [17, 19] (fun v17 v19 wr => ∃ k nn : Nat, k ≤ len ∧ nn ≤ k ∧ v19 = .int .i64 k ∧ v17 = .int .i64 nn ∧ Fr w.heap.size w wr ∧ ∃ q, RI wr w.heap.size s r m cS cN bL mL bJ bB A k (PV a b) q 2) (fun _ v19 _ => len - (intOf v19).toNat)
  case atStart => exact ⟨0, 0, by omega, by omega, rfl, rfl, FL.out, _, HRL.out⟩
  case round =>
    obtain ⟨k, nn, hk, hnn, rfl, rfl, hF, q, hRI⟩ := hrel
    have HF := Lib.hid hF
    have HR := Lib.hid hRI
    clear hF hRI HRL FL HI0
    by_cases hlt : k < len
    · have HK := Lib.hid (And.intro hlt hnn)
      have hlt' : (k : Int) < (len : Int) := by omega
      have d1 : decide (k < len) = true := by simp [hlt]
      obtain ⟨ad, hao, hadl, hadc⟩ := HPK.out k hlt
      subst hao
      obtain ⟨ad2, hao2, hadl2, hadc2⟩ := (HPK.out.fr (HF.out.alloc (.cells #[.int .i64 0] 3))) k hlt
      cases hao2
      obtain ⟨cH, hcH⟩ : ∃ c, wr.heap.size = c := ⟨_, rfl⟩
      go_upto_if 62 with fail
      go_cut [] (fun wx => ∃ h : Nat, h < 2 ∧ wx.heap[cH]? = some (.cells #[.int .i64 (h : Int)] 3) ∧ Below wr.heap.size wr wx)
      case first =>
        have kz0 := heap_alloc_new wr (.cells #[.int .i64 0] 3)
        have kz1 := heap_alloc_new wr (.cells #[.int .i64 1] 3)
        rw [hcH] at kz0 kz1
        have hb0 := Lib.hid (And.intro kz0 ((Fr.refl wr).alloc (.cells #[.int .i64 0] 3)).1)
        have hb1 := Lib.hid (And.intro kz1 ((Fr.refl wr).alloc (.cells #[.int .i64 1] 3)).1)
        clear kz0 kz1
        cases hpkk : pk k with
        | true =>
          go_wp2_with fail
          go_meet
          exact ⟨1, by omega, hb1.out.1, hb1.out.2⟩
        | false =>
          go_wp2_with fail
          go_meet
          exact ⟨0, by omega, hb0.out.1, hb0.out.2⟩
      case rest =>
        obtain ⟨hv, hh, kH, hbc⟩ := hcut
        have HH := Lib.hid (And.intro hh (And.intro kH hbc))
        obtain ⟨cH0, cHl, _⟩ := one_at kH
        clear hh kH hbc hadl hadc hadl2 hadc2
        obtain ⟨cA, hcA⟩ : ∃ c, wc.heap.size = c := ⟨_, rfl⟩
        have stn1 : (storeCells ⟨cA, 0, none⟩ (((askZ.toList.set 0 (.int .i64 2)).set 1 (.int .u64 (A : Int))).set 4 (.int .i64 8))).run Try.prog (wc.alloc (.cells askZ 46)) = .ok () (wc.alloc (.cells (askC 2 A 0) 46)) := by rw [← hcA]; exact stnAsk wc askZ rfl 2 A 0
        have stn2 : (storeCells ⟨cA, 0, none⟩ ((((askZ.toList.set 0 (.int .i64 3)).set 1 (.int .u64 (A : Int))).set 4 (.int .i64 8)).set 6 (.int .u64 (a : Int)))).run Try.prog (wc.alloc (.cells (askC 2 A 0) 46)) = .ok () (wc.alloc (.cells (askC 3 A a) 46)) := by rw [← hcA]; exact stnAsk wc (askC 2 A 0) rfl 3 A a
        have hs19 := size_askZ
        have p0 : 0 < sz19 := by decide
        have p1 : 1 < sz19 := by decide
        have p4 : 4 < sz19 := by decide
        have p6 : 6 < sz19 := by decide
        have kA2 := heap_alloc_new wc (.cells (askC 2 A 0) 46)
        have kA3 := heap_alloc_new wc (.cells (askC 3 A a) 46)
        rw [hcA] at kA2 kA3
        have a6 : (wc.alloc (.cells (askC 3 A a) 46)).cell? ⟨cA, 6, none⟩ = some (.int .u64 (a : Int)) := by rw [cell_at kA3]; rfl
        have cH2 : (wc.alloc (.cells (askC 2 A 0) 46)).cell? ⟨cH, 0, none⟩ = some (.int .i64 (hv : Int)) := hcell ((Fr.refl wc).alloc _).1 cH0
        have KA2 := Lib.hid kA2
        have KA3 := Lib.hid kA3
        clear kA2 kA3
        go_upto_if 66 with fail
        go_cut [] (fun wx => AskIs wx cH cA hv A (PV a b) ∧ Below wr.heap.size wr wx)
        case first =>
          have hh := HH.out.1
          by_cases hz : hv = 0
          · subst hz
            clear hh
            by_cases hn : nn % 2 = 1
            · have e1 : (nn : Int) % 2 = 1 := by omega
              have e2 : Int.tmod (nn : Int) 2 = 1 := by rw [Int.tmod_eq_emod_of_nonneg (by omega)]; exact e1
              clear hn
              go_wp2_with fail
              go_meet
              exact ⟨.inr ⟨rfl, keep_alloc HH.out.2.1 _, b, HAB.out.2, .inr (.inr rfl), by rw [← hcA]; exact heap_alloc_new wc _⟩, (((Fr.refl wr).step HH.out.2.2).alloc _).1⟩
            · have e1 : (nn : Int) % 2 = 0 := by omega
              have e2 : Int.tmod (nn : Int) 2 = 0 := by rw [Int.tmod_eq_emod_of_nonneg (by omega)]; exact e1
              clear hn
              go_wp2_with fail
              go_meet
              exact ⟨.inr ⟨rfl, keep_alloc HH.out.2.1 _, a, HAB.out.1, .inr (.inl rfl), by rw [← hcA]; exact heap_alloc_new wc _⟩, (((Fr.refl wr).step HH.out.2.2).alloc _).1⟩
          · obtain rfl : hv = 1 := by omega
            clear hh hz
            go_wp2_with fail
            go_meet
            exact ⟨.inl ⟨rfl, keep_alloc HH.out.2.1 _, by rw [← hcA]; exact heap_alloc_new wc _⟩, (((Fr.refl wr).step HH.out.2.2).alloc _).1⟩
        case rest =>
          obtain ⟨hA, hbA⟩ := hcut
          have R1 := HR.out.keep hbA
          have F1 := HF.out.step hbA
          have HH2 := HH.out.1
          clear stn1 stn2 hs19 p0 p1 p4 p6 a6 cH2 KA2 KA3 HH cH0 cHl hcA hcH HR HF hbA
          obtain ⟨w6, hw6⟩ : ∃ w6, wc = w6 := ⟨_, rfl⟩
          rw [hw6] at hA R1 F1 ⊢
          clear hw6
          obtain ⟨_, kH, kk, dd, hkk, kA⟩ := hA.known
          obtain ⟨⟨jc, kJ, hjc⟩, kB, kS, ⟨sn, kN, hPsn⟩, ⟨gg, hSh⟩, hBJ, hBB⟩ := R1.facts
          obtain ⟨cH0, cHl, cHf⟩ := one_at kH
          have cB0 := busy_cell kB HH2
          have cBl := lt_of_at kB
          have cBf : ∀ o, w6.frozen? ⟨bB, o, none⟩ = false := fun o => by simp [World.frozen?, kB]
          have hv0 : (0 : Int) ≤ hv := by omega
          have hv1 : (hv : Int) < 2 := by omega
          have HA2 := Lib.hid hA
          have HR2 := Lib.hid R1
          have HF2 := Lib.hid F1
          have HK2 := Lib.hid (And.intro kS (And.intro kH kA))
          have HJ2 := Lib.hid (And.intro kJ hjc)
          have HS2 := Lib.hid hSh
          have HB2 := Lib.hid (And.intro HH2 (And.intro hBJ hBB))
          have HKK := Lib.hid hkk
          clear hA R1 F1 kS kH kA kJ hjc hSh HH2 hBJ hBB hkk kN hPsn kB
          go_upto_if 78 with fail
          go_cut [] (fun wx => AskIs wx cH cA hv A (PV a b) ∧ Fr w.heap.size w wx ∧ ∃ q', RI wx w.heap.size s r m cS cN bL mL bJ bB A k (PV a b) q' 2 ∧ q' hv = true)
          case first =>
            cases hq : q hv with
            | true =>
              go_wp2_with fail
              go_meet
              exact ⟨HA2.out, HF2.out, q, HR2.out, hq⟩
            | false =>
              go_wp2_with fail
              have WB := (Wrote.refl bB w6).setCell hv (.bool true)
              have kB := HR2.out.facts.2.1
              have RB := HR2.out.busyOn HB2.out.1
              have AB := HA2.out.far WB kB ⟨by decide, by decide⟩
              have FB := WB.1 _ _ HB2.out.2.2 HF2.out
              obtain ⟨w7, hw7⟩ : ∃ w7, w6.setCell ⟨bB, hv, none⟩ (.bool true) = w7 := ⟨_, rfl⟩
              rw [hw7] at WB RB AB FB ⊢
              have kA7 := WB.2 _ _ (fun e => by rw [e] at HK2; have := HK2.out.2.2; rw [kB] at this; cases this) HK2.out.2.2
              clear hw7 kB WB cH0 cHl cHf cB0 cBl cBf
              obtain ⟨_, kH7, _⟩ := AB.known
              obtain ⟨⟨jc7, kJ7, hj7⟩, _, kS7, _, ⟨g7, S7⟩, _, _⟩ := RB.facts
              obtain ⟨h70, h7l, h7f⟩ := one_at kH7
              obtain ⟨s70, s7l, s7f⟩ := one_at kS7
              have lsA : ∀ w' : World, w'.heap[cA]? = some (.cells (askC kk A dd) 46) → (loadCellsFrom ⟨cA, 0, none⟩ 0 sz19 #[]).run Try.prog w' = .ok (askC kk A dd) w' := fun w' h => ldRow h (size_askC kk A dd)
              have hHJ : cH ≠ bJ := by rintro rfl; rw [kH7] at kJ7; cases kJ7
              have hSJ : cS ≠ bJ := by rintro rfl; rw [kS7] at kJ7; cases kJ7
              have hAJ : cA ≠ bJ := by rintro rfl; rw [kA7] at kJ7; cases kJ7
              have HJE : Hid (∃ v0 v1 v2 v3, jc7[hv * 4]? = some v0 ∧ jc7[hv * 4 + 1]? = some v1 ∧ jc7[hv * 4 + 2]? = some v2 ∧ jc7[hv * 4 + 3]? = some v3) := Lib.hid (by
                have := HB2.out.1
                exact ⟨_, _, _, _, Array.getElem?_eq_getElem (by omega), Array.getElem?_eq_getElem (by omega), Array.getElem?_eq_getElem (by omega), Array.getElem?_eq_getElem (by omega)⟩)
              obtain ⟨v0, v1, v2, v3, j0, j1, j2, j3⟩ := HJE.out
              have HJJ := Lib.hid (And.intro j0 (And.intro j1 (And.intro j2 j3)))
              clear j0 j1 j2 j3 hj7 HJE
              have HN := Lib.hid (fun w hS => needs_any s r m (4 * k) A kk dd g7 w hS HKK.out HA.out.1 HA.out.2)
              have kD : w7.drew.heap[bJ]? = some (.cells jc7 37) := kJ7
              have kS7' : w7.drew.heap[cA]? = some (.cells (askC kk A dd) 46) := kA7
              go_region_held3 (fun w' => Wrote bJ w7 w' ∧ w'.cell? ⟨cH, 0, none⟩ = some (.int .i64 (hv : Int)) ∧ w'.cell? ⟨cS, 0, none⟩ = some (.pointer (some ⟨s, 0, none⟩)) ∧ w'.heap[cA]? = some (.cells (askC kk A dd) 46))
                (first | exact ⟨(Wrote.refl bJ w7).drew, h70, s70, kA7⟩ | exact wj_call ‹_› ‹_› | exact wj_set (setJ_wrote _ bJ (hv * 4) _ _ _ _) hHJ hSJ hAJ ‹_› | go_keep)
                (first
                  | (go_at_call 8; refine (HN.out _ (S7.keep ((Fr.refl w7).drew).1)).mono ?_; rintro e wN ⟨BN, gN, capN, rfl, hoN, hbN⟩; have kJN := keepB hbN kD)
                  | (go_at_call 7; refine (plan_any BN gN capN _ hoN).mono ?_; rintro e wP ⟨BP, gP, capP, rfl, hoP, hbP⟩; have kJP := keepB hbP kJN; have z0 := (cell_at (o := hv * 4) kJP).trans HJJ.out.1; have z1 := (cell_at (o := hv * 4 + 1) kJP).trans HJJ.out.2.1; have z2 := (cell_at (o := hv * 4 + 2) kJP).trans HJJ.out.2.2.1; have z3 := (cell_at (o := hv * 4 + 3) kJP).trans HJJ.out.2.2.2; have zl := lt_of_at kJP; have zf : ∀ o, wP.frozen? ⟨bJ, o, none⟩ = false := (fun o => by simp [World.frozen?, kJP])))
              have b7 := (((Fr.refl w7).drew.step hbN).step hbP).1
              have RP := (RB.keep b7).plan HB2.out.1 hoP
              have AP := (AB.keep b7).far (setJ_wrote wP bJ (hv * 4) (.slice (some ⟨gP, 0, none⟩) 2 capP) (.int .i64 0) (.bool false) (.int .i64 0)) kJP ⟨by decide, by decide⟩
              have FP := (setJ_wrote wP bJ (hv * 4) (.slice (some ⟨gP, 0, none⟩) 2 capP) (.int .i64 0) (.bool false) (.int .i64 0)).1 _ _ HB2.out.2.1 (FB.step b7)
              have HEE : Hid (updB q hv true hv = true) := Lib.hid (by simp [updB])
              have HRP := Lib.hid RP
              have HAP := Lib.hid AP
              have HFP := Lib.hid FP
              clear b7 RP AP FP RB AB FB kJN kJP z0 z1 z2 z3 zl zf hbN hbP hoN hoP
              go_wp2_with fail
              go_meet
              exact ⟨HAP.out, HFP.out, updB q hv true, HRP.out, HEE.out⟩
          case rest =>
            obtain ⟨hA, hF, q', hR, hq'⟩ := hcut
            have HST := Lib.hid (fun (w' : World) (hb : Below wc.heap.size wc w') => step_v w.heap.size s r m cS cN bL mL bJ bB A k hv cH cA (PV a b) q' w' (hR.keep hb) hq' (hA.keep hb) HB2.out.1 (by have := HK.out.1; have := HLE.out; omega) (by have := HA.out; omega) (by have := HA.out; omega))
            have kH := hA.known.2.1
            obtain ⟨h80, h8l, h8f⟩ := one_at kH
            have HF8 := Lib.hid hF
            have HQ8 := Lib.hid (And.intro HB2.out.1 (And.intro hv0 hv1))
            clear hA hR hq' hF kH cH0 cHl cHf cB0 cBl cBf HA2 HR2 HF2 HK2 HJ2 HS2 HKK
            have h4 : (hv : Int) * 4 = ((hv * 4 : Nat) : Int) := by omega
            clear h4
            go_wp2_with fail
            go_region_held3 (fun w' => w'.cell? ⟨cH, 0, none⟩ = some (.int .i64 (hv : Int)))
              (first | exact h80 | (rw [cell_at kHS]; rfl) | go_keep)
              (first | (go_at_call 9; refine (HST.out _ ((Fr.refl wc).drew).1).mono ?_; rintro e wS ⟨⟨vS, rfl⟩, RS, ⟨cJ, gJ, capJ, tkJ, ddJ, gvJ, JS⟩, kHS, FS⟩))
            have F9 := FS _ HF8.out.drew
            obtain ⟨qd, hDn⟩ := done_v bJ (hv * 4) gJ capJ tkJ gvJ ddJ cJ wS JS
            have HDn := Lib.hid hDn
            have HR9 := Lib.hid RS
            have HF9 := Lib.hid F9
            have HH9 := Lib.hid kHS
            obtain ⟨h90, h9l, h9f⟩ := one_at kHS
            clear F9 hDn RS kHS FS JS h80 h8l h8f HST HF8
            go_wp2_with fail
            refine HDn.out.mono ?_
            rintro e w9 ⟨rfl, n9, rfl⟩
            have b9 := ((Fr.refl wS).drewN n9).1
            have HR10 := Lib.hid (HR9.out.keep b9)
            have HF10 := Lib.hid (HF9.out.step b9)
            have k10 := keepB b9 HH9.out
            obtain ⟨w10, hw10⟩ : ∃ w10, wS.drewN n9 = w10 := ⟨_, rfl⟩
            rw [hw10] at HR10 HF10 k10 ⊢
            clear hw10 b9 HR9 HF9 HH9 h90 h9l h9f HDn
            obtain ⟨h10, h10l, h10f⟩ := one_at k10
            have HH10 := Lib.hid k10
            clear k10
            go_upto_if 95 with fail
            go_cut [17] (fun v17 wx => ∃ nn' : Nat, nn' ≤ k + 1 ∧ v17 = .int .i64 nn' ∧ Fr w.heap.size w wx ∧ ∃ q'', RI wx w.heap.size s r m cS cN bL mL bJ bB A (k + 1) (PV a b) q'' 2)
            case first =>
              cases qd with
              | false =>
                go_wp2_with fail
                go_meet
                exact ⟨nn, by have := HK.out.2; omega, rfl, HF10.out, _, HR10.out⟩
              | true =>
                obtain ⟨_, kB, _⟩ := HR10.out.facts
                have cB0 := busy_cell kB HQ8.out.1
                have cBl := lt_of_at kB
                have cBf : ∀ o, w10.frozen? ⟨bB, o, none⟩ = false := fun o => by simp [World.frozen?, kB]
                have WB := (Wrote.refl bB w10).setCell hv (.bool false)
                have HRB := Lib.hid (HR10.out.busyOff HQ8.out.1)
                have HFB := Lib.hid (WB.1 _ _ HB2.out.2.2 HF10.out)
                have hHB : cH ≠ bB := by rintro rfl; have := HH10.out; rw [kB] at this; cases this
                have h11 : (w10.setCell ⟨bB, hv, none⟩ (.bool false)).cell? ⟨cH, 0, none⟩ = some (.int .i64 (hv : Int)) := cell_set_far h10 hHB
                clear kB WB hHB
                obtain ⟨n2, hn2⟩ : ∃ n2 : Nat, nn + 1 = n2 := ⟨_, rfl⟩
                have HN2 := Lib.hid (show n2 ≤ k + 1 by have := HK.out.2; omega)
                have en : (nn : Int) + 1 = (n2 : Int) := by omega
                have en' : IntKind.i64.wrap ((nn : Int) + 1) = (n2 : Int) := by
                  have h1 := HK.out
                  have h2 := HLE.out
                  rw [IntKind.wrap_i64]; omega
                have en2 : (n2 : Int) ≤ 301 := by have h1 := HK.out; have h2 := HLE.out; omega
                have en3 : (0 : Int) ≤ n2 := by omega
                clear hn2
                by_cases hz : hv = 0
                · have hz' : ((hv : Int) == 0) = true := by simp [hz]
                  have HZ := Lib.hid hz
                  clear hz
                  go_wp2_with fail
                  go_meet
                  exact ⟨n2, HN2.out, rfl, HFB.out, _, HRB.out⟩
                · have hz' : ((hv : Int) == 0) = false := by simp [hz]
                  have HZ := Lib.hid hz
                  clear hz
                  go_wp2_with fail
                  go_meet
                  exact ⟨nn, by have := HK.out.2; omega, rfl, HFB.out, _, HRB.out⟩
            case rest =>
              obtain ⟨nn', hnn', rfl, hF, q'', hR⟩ := hcut
              obtain ⟨_, _, _, ⟨sn, kN, hP⟩, _⟩ := hR.facts
              obtain ⟨n0, nl, nf⟩ := one_at kN
              have HFE := Lib.hid hF
              have HRE := Lib.hid hR
              have HNE := Lib.hid hnn'
              obtain ⟨k1, hk1⟩ : ∃ k1, k + 1 = k1 := ⟨_, rfl⟩
              have ek : (k : Int) + 1 = (k1 : Int) := by omega
              have ek' : IntKind.i64.wrap ((k : Int) + 1) = (k1 : Int) := by
                have h1 := HK.out.1
                have h2 := HLE.out
                rw [IntKind.wrap_i64]; omega
              have ek2 : (k1 : Int) ≤ 300 := by have h1 := HK.out.1; have h2 := HLE.out; omega
              have ek3 : (0 : Int) ≤ k1 := by omega
              rw [hk1] at HRE HNE
              have HK1 := Lib.hid (show k1 ≤ len ∧ k1 = k + 1 by have := HK.out.1; omega)
              clear hF hR hnn' kN h10 h10l h10f hk1
              rcases hP with hs | hs
              · subst hs
                go_wp2_with fail
                go_roundw
                case rel => exact ⟨k1, nn', HK1.out.1, HNE.out, rfl, rfl, HFE.out, _, HRE.out⟩
                case measure => have := HK1.out; simp [intOf]; omega
              · by_cases h0 : sn = 0
                · subst h0
                  clear hs
                  go_wp2_with fail
                  go_roundw
                  case rel => exact ⟨k1, nn', HK1.out.1, HNE.out, rfl, rfl, HFE.out, _, HRE.out⟩
                  case measure => have := HK1.out; simp [intOf]; omega
                · have d0 : ((sn : Int) != 0) = true := by simp [h0]
                  have d0' : (sn != 0) = true := by simp [h0]
                  by_cases h1 : sn = a
                  · have d1 : ((sn : Int) != (a : Int)) = false := by simp [h1]
                    have d1' : (sn != a) = false := by simp [h1]
                    clear h0 h1 hs
                    go_wp2_with fail
                    go_roundw
                    case rel => exact ⟨k1, nn', HK1.out.1, HNE.out, rfl, rfl, HFE.out, _, HRE.out⟩
                    case measure => have := HK1.out; simp [intOf]; omega
                  · have d1 : ((sn : Int) != (a : Int)) = true := by simp; omega
                    have d1' : (sn != a) = true := by simp [h1]
                    have hb : sn = b := by
                      rcases hs with h | h
                      · exact absurd h h1
                      · exact h
                    have d2 : ((sn : Int) != (b : Int)) = false := by simp [hb]
                    have d2' : (sn != b) = false := by simp [hb]
                    clear h0 h1 hs hb
                    go_wp2_with fail
                    go_roundw
                    case rel => exact ⟨k1, nn', HK1.out.1, HNE.out, rfl, rfl, HFE.out, _, HRE.out⟩
                    case measure => have := HK1.out; simp [intOf]; omega
    · have d1 : decide (k < len) = false := by simp [hlt]
      have d1' : decide ((k : Int) < (len : Int)) = false := by simp [hlt]
      go_wp2_with fail
      refine (lone_any _).mono ?_
      rintro e w3 ⟨rfl, hb3⟩
      have F3 := Lib.hid (HF.out.step hb3)
      go_wp2_with fail
      go_ret
      exact ⟨rfl, F3.out.1⟩
end Go.Proofs.Ytdeheoaeagoidaa
