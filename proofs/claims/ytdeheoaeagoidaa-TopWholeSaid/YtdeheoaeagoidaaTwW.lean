/- Locks in memory: the invariant; New, there. -/
import Derived.Test.YtdeheoaeagoidaaTwV
import Derived.ArgAppend
import Derived.ChangeKeys
import Derived.Deep.AppendSrc
namespace Go.Proofs.Ytdeheoaeagoidaa
open Go.RowKit
open Go.Maps (Keyed)
set_option linter.unusedSimpArgs false
set_option linter.unusedVariables false

theorem intK : Keyed Try.prog 3 := Maps.int_keyed Try.underlying3
theorem underLM : Try.prog.underlying 69 = some (.map 3 100) := by kernel_rfl
def kli (i : Nat) : Lit := .int .i64 (i : Int)
theorem kli_some {i : Nat} (hi : i < 2) : keyOf Try.prog 3 (.int .i64 (i : Int)) = some (kli i) := by
  have hw : (Lit.int .i64 (i : Int)).wf = true := by
    simp only [Lit.wf, Bool.and_eq_true, decide_eq_true_eq]
    exact ⟨show (-9223372036854775808 : Int) ≤ i by omega, show (i : Int) ≤ 9223372036854775807 by omega⟩
  rw [keyOf_int Try.underlying3]
  simp [mapKey, Try.underlying3, kli, hw]
theorem kli_ne {i j : Nat} (h : i ≠ j) : kli i ≠ kli j := by
  unfold kli; intro e; simp at e; omega
theorem zeroLk (w : World) : (zeroValue 100).run Try.prog w = .ok (.pointer none) w := by kernel_rfl
def lkPtr : Option Nat → Value
  | none => .pointer none
  | some b => .pointer (some ⟨b, 0, none⟩)
/-- A queue: empty, or the other one alone. -/
def QOk (w : World) (h : Nat) (qv : Value) : Prop := (∃ ao, qv = .slice ao 0 0) ∨ ∃ g cap B, qv = .slice (some ⟨g, 0, none⟩) 1 cap ∧ w.ownsRow B 3 1 (.slice (some ⟨g, 0, none⟩) 1 cap) 1 [.int .i64 ((1 - h : Nat) : Int)]
def LkAt (w : World) (b : Nat) : Prop := ∃ h qv, h < 2 ∧ w.heap[b]? = some (.cells #[.int .i64 ((h : Nat) : Int), qv] 102) ∧ QOk w h qv
def LMap (w : World) (m n : Nat) (f : Nat → Option Nat) : Prop := ∃ D, w.ownsMap Try.prog 3 Rv m n D ∧ ∀ i, i < 2 → D.atKey (kli i) (.held (.pointer none)) = .held (lkPtr (f i))
def LocksAt (w : World) (B b m n : Nat) (f : Nat → Option Nat) : Prop := B ≤ m ∧ w.heap[b]? = some (.cells #[.int .i64 2, .map (some m)] 71) ∧ LMap w m n f ∧ (∀ i, i < 2 → ∀ x, f i = some x → B ≤ x ∧ LkAt w x) ∧ (∀ x, f 0 = some x → f 1 ≠ some x)
theorem LMap.look {w : World} {m n : Nat} {f : Nat → Option Nat} (h : LMap w m n f) {i : Nat} (hi : i < 2) : (Instr.lookup 69 (.map (some m)) (.int .i64 (i : Int)) false).run Try.prog w = .ok (lkPtr (f i)) w := by
  obtain ⟨D, ho, hD⟩ := h
  obtain ⟨v, ps, hr, hv⟩ := ho.lookup intK underLM (zeroLk w) (zd := .held (.pointer none)) (zp := []) rfl (kli_some hi)
  rw [hD i hi] at hv
  simp only [Rv, Option.some.injEq, Prod.mk.injEq, DataW.held.injEq] at hv
  rw [← hv.1]; exact hr
theorem LMap.put {w : World} {m n : Nat} {f : Nat → Option Nat} (h : LMap w m n f) (hn : n < maxLen) {i : Nat} (hi : i < 2) (x : Nat) :
    ∃ w', (Instr.mapUpdate 69 (.map (some m)) (.int .i64 (i : Int)) (.pointer (some ⟨x, 0, none⟩))).run Try.prog w = .ok () w' ∧ LMap w' m (n + 1) (fun j => if j = i then some x else f j) ∧ Wrote m w w' := by
  obtain ⟨D, ho, hD⟩ := h
  obtain ⟨w', hr, ho', ht⟩ := ho.store intK underLM hn (kli_some hi) (val := .pointer (some ⟨x, 0, none⟩)) (d := .held (.pointer (some ⟨x, 0, none⟩))) (ps := []) rfl
  refine ⟨w', hr, ⟨_, ho', fun j hj => ?_⟩, turned_wrote ht⟩
  show (D.put (kli i) _).atKey (kli j) _ = .held (lkPtr (if j = i then some x else f j))
  by_cases e : j = i
  · subst e
    rw [if_pos rfl, Maps.atKey_put_same ho.isMap (intK.key (kli_some hj))]
    rfl
  · rw [if_neg e, Maps.atKey_put_other (kli_ne e)]
    exact hD j hj
theorem LMap.drop {w : World} {m n : Nat} {f : Nat → Option Nat} (h : LMap w m n f) {i : Nat} (hi : i < 2) (ty : TypeId) :
    ∃ w', (Builtin.delete_ #[69, 3] ty #[.map (some m), .int .i64 (i : Int)]).run Try.prog w = .ok (.tuple #[]) w' ∧ LMap w' m n (fun j => if j = i then none else f j) ∧ Wrote m w w' := by
  obtain ⟨D, ho, hD⟩ := h
  obtain ⟨w', hr, ho', ht⟩ := ho.drop intK underLM (kli_some hi) ty
  refine ⟨w', hr, ⟨_, ho', fun j hj => ?_⟩, turned_wrote ht⟩
  show (D.del (kli i)).atKey (kli j) _ = .held (lkPtr (if j = i then none else f j))
  by_cases e : j = i
  · subst e
    rw [if_pos rfl, Maps.atKey_del_same]
    rfl
  · rw [if_neg e, Maps.atKey_del_other (kli_ne e)]
    exact hD j hj
theorem LMap.same {w w' : World} {m n : Nat} {f : Nat → Option Nat} (h : LMap w m n f) (hb : w'.heap[m]? = w.heap[m]?) : LMap w' m n f := by
  obtain ⟨D, ⟨es, clock, h1, h2⟩, hD⟩ := h
  exact ⟨D, ⟨es, clock, hb.trans h1, h2⟩, hD⟩
theorem LMap.mono {w : World} {m n n' : Nat} {f : Nat → Option Nat} (h : LMap w m n f) (hn : n ≤ n') : LMap w m n' f := by
  obtain ⟨D, ho, hD⟩ := h
  exact ⟨D, ho.mono hn, hD⟩
theorem LMap.map {w : World} {m n : Nat} {f : Nat → Option Nat} (h : LMap w m n f) : ∃ es c, w.heap[m]? = some (.map es c) := by
  obtain ⟨D, ⟨es, clock, h1, h2⟩, hD⟩ := h
  exact ⟨es, clock, h1⟩
theorem LMap.new (w : World) : LMap (w.alloc (.map #[] 0)) w.heap.size 0 (fun _ => none) :=
  ⟨_, World.ownsMap_made w _ _ _, fun i _ => rfl⟩
theorem own_same {w w' : World} {B g cap : Nat} {e : TypeId} {s n : Nat} {xs : List Value} (h : w.ownsRow B e s (.slice (some ⟨g, 0, none⟩) n cap) n xs) (hg : ∀ o, w.heap[g]? = some o → w'.heap[g]? = some o) : w'.ownsRow B e s (.slice (some ⟨g, 0, none⟩) n cap) n xs := by
  obtain ⟨h1, h2⟩ := h
  refine ⟨h1, ?_⟩
  rcases h2 with h2 | ⟨g', cap', cur, hv, hg', hh, r⟩
  · exact .inl h2
  · refine .inr ⟨g', cap', cur, hv, hg', ?_, r⟩
    cases hv
    exact hg _ hh
/-- What holds the rows of ints, holds the queues. -/
def KInt (w w' : World) : Prop := ∀ (b : Nat) (c : Array Value), w.heap[b]? = some (Obj.cells c 3 (0, 0)) → w'.heap[b]? = some (Obj.cells c 3 (0, 0))
theorem QOk.keep {w w' : World} {h : Nat} {qv : Value} (H : QOk w h qv) (hk : KInt w w') : QOk w' h qv := by
  rcases H with H | ⟨g, cap, B, rfl, ho⟩
  · exact .inl H
  · refine .inr ⟨g, cap, B, rfl, own_same ho fun o ho2 => ?_⟩
    obtain ⟨cur, hh, _⟩ := own_block ho (by omega)
    rw [hh] at ho2
    cases ho2
    exact hk _ _ hh
theorem LkAt.keep {w w' : World} {b : Nat} (H : LkAt w b) (hk : KInt w w') (hb : ∀ o, w.heap[b]? = some o → w'.heap[b]? = some o) : LkAt w' b := by
  obtain ⟨h, qv, hh, hc, hq⟩ := H
  exact ⟨h, qv, hh, hb _ hc, hq.keep hk⟩
theorem LkAt.cells {w : World} {b : Nat} (H : LkAt w b) : ∃ c, w.heap[b]? = some (Obj.cells c 102 (0, 0)) := by
  obtain ⟨h, qv, hh, hc, hq⟩ := H
  exact ⟨_, hc⟩
/-- Only block p is written (if p is no queue, no lock, and none of the locks' own). -/
theorem LocksAt.wrote {w w' : World} {B b m n p : Nat} {f : Nat → Option Nat} (H : LocksAt w B b m n f) (hW : Wrote p w w') (hb : p ≠ b) (hm : p ≠ m) (hp : ∀ c, w.heap[p]? ≠ some (Obj.cells c 3 (0, 0)) ∧ w.heap[p]? ≠ some (Obj.cells c 102 (0, 0))) : LocksAt w' B b m n f := by
  obtain ⟨h0, h1, h2, h3, h4⟩ := H
  have hk : KInt w w' := fun x c hx => hW.2 x _ (fun e => by subst e; exact (hp c).1 hx) hx
  obtain ⟨es, c, hes⟩ := h2.map
  refine ⟨h0, hW.2 _ _ (Ne.symm hb) h1, h2.same ((hW.2 _ _ (Ne.symm hm) hes).trans hes.symm), fun i hi x hx => ⟨(h3 i hi x hx).1, ?_⟩, h4⟩
  have hl := (h3 i hi x hx).2
  obtain ⟨cx, hcx⟩ := hl.cells
  exact hl.keep hk (fun o ho => hW.2 _ _ (fun e => by subst e; exact (hp cx).2 hcx) ho)
theorem LocksAt.keep {w w' : World} {B b m n : Nat} {f : Nat → Option Nat} (H : LocksAt w B b m n f) (hb : Below w.heap.size w w') : LocksAt w' B b m n f := by
  obtain ⟨h0, h1, h2, h3, h4⟩ := H
  obtain ⟨es, c, hes⟩ := h2.map
  exact ⟨h0, keepB hb h1, h2.same (hb.block m (lt_of_at hes)), fun i hi x hx => ⟨(h3 i hi x hx).1, (h3 i hi x hx).2.keep (fun b c h => keepB hb h) (fun o ho => keepB hb ho)⟩, h4⟩
theorem LocksAt.lts {w : World} {B b m n : Nat} {f : Nat → Option Nat} (H : LocksAt w B b m n f) : b < w.heap.size ∧ m < w.heap.size ∧ B ≤ m := by
  obtain ⟨es, c, hes⟩ := H.2.2.1.map
  exact ⟨lt_of_at H.2.1, lt_of_at hes, H.1⟩
/-- What the locks' calls may write: their map, and locks. -/
def KL (m B : Nat) (w w' : World) : Prop := (∀ w0, Fr B w0 w → Fr B w0 w') ∧ ∀ (b : Nat) (o : Obj), b ≠ m → (∀ c, o ≠ Obj.cells c 102 (0, 0)) → w.heap[b]? = some o → w'.heap[b]? = some o
theorem KL.refl (m B : Nat) (w : World) : KL m B w w := ⟨fun _ h => h, fun _ _ _ _ h => h⟩
theorem KL.trans {m B : Nat} {w w1 w2 : World} (h : KL m B w w1) (h2 : KL m B w1 w2) : KL m B w w2 := ⟨fun w0 h0 => h2.1 w0 (h.1 w0 h0), fun b o hb ho hh => h2.2 b o hb ho (h.2 b o hb ho hh)⟩
theorem KL.below {m B : Nat} {w w1 w2 : World} (h : KL m B w w1) (hb : Below w1.heap.size w1 w2) : KL m B w w2 := h.trans ⟨fun w0 h0 => h0.step hb, fun b o _ _ hh => keepB hb hh⟩
theorem KL.wrote {m B : Nat} {w w1 w2 : World} (h : KL m B w w1) (hW : Wrote m w1 w2) (hB : B ≤ m) : KL m B w w2 := h.trans ⟨fun w0 h0 => hW.1 B w0 hB h0, fun b o hne _ hh => hW.2 b o hne hh⟩
theorem KL.lock {m B x : Nat} {w w1 w2 : World} (h : KL m B w w1) (hW : Wrote x w1 w2) (hB : B ≤ x) {c : Array Value} (hx : w1.heap[x]? = some (Obj.cells c 102 (0, 0))) : KL m B w w2 :=
  h.trans ⟨fun w0 h0 => hW.1 B w0 hB h0, fun b o hne ho hh => hW.2 b o (fun e => by subst e; rw [hx] at hh; cases hh; exact ho _ rfl) hh⟩
set_option maxRecDepth 100000 in
set_option maxHeartbeats 4000000 in
theorem lnew_any (w : World) :
    Calls Try.prog 5 #[.int .i64 2] w fun e w' => e = .returned (.tuple #[.pointer (some ⟨w.heap.size + 1, 0, none⟩), .int .i64 0]) ∧ LocksAt w' w.heap.size (w.heap.size + 1) w.heap.size 0 (fun _ => none) ∧ Below w.heap.size w w' := by
  have mk : ∀ w : World, (Instr.makeMap 69 none).run Try.prog w = .ok (.map (some w.heap.size)) (w.alloc (.map #[] 0)) := fun w => rfl
  go_enter Try.func5, Try.ntmps5
  go_wp2
  go_ret2
  have e1 : (w.alloc (.map #[] 0)).heap.size = w.heap.size + 1 := by simp
  have hn := heap_alloc_new (w.alloc (.map #[] 0)) (.cells #[.int .i64 2, .map (some w.heap.size)] 71)
  rw [e1] at hn
  exact ⟨rfl, ⟨Nat.le_refl _, hn, (LMap.new w).same ((((Fr.refl (w.alloc (.map #[] 0))).alloc _).1).block _ (by rw [e1]; omega)), fun i hi x hx => (by cases hx), fun x hx => (by cases hx)⟩, (((Fr.refl w).alloc _).alloc _).1⟩
set_option maxRecDepth 100000 in
set_option maxHeartbeats 4000000 in
theorem there_any (b m who at_ : Nat) (w : World) (hb : w.heap[b]? = some (.cells #[.int .i64 2, .map (some m)] 71)) (hw : who < 2) (ha : at_ < 2) :
    Calls Try.prog 37 #[.pointer (some ⟨b, 0, none⟩), .int .i64 (who : Int), .int .i64 (at_ : Int)] w fun e w' => e = .returned (.bool true) ∧ w' = w := by
  have c0 : w.cell? ⟨b, 0, none⟩ = some (.int .i64 2) := by rw [cell_at hb]; rfl
  have h0 : (0 : Int) ≤ who := by omega
  have h1 : (who : Int) < 2 := by omega
  have h2 : (0 : Int) ≤ at_ := by omega
  have h3 : (at_ : Int) < 2 := by omega
  have h4 : (who : Int) < 8 := by omega
  go_enter Try.func37, Try.ntmps37
  go_wp2
  go_ret
  exact ⟨rfl, rfl⟩
end Go.Proofs.Ytdeheoaeagoidaa
