/- csrfile's Turn, kind.Class, csrfile's Writes and Do. -/
import Derived.Test.YthkkfdhgpaonjaaCfD
namespace Go.Proofs.Ythkkfdhgpaonjaa
open Go.RowKit
set_option linter.unusedSimpArgs false
set_option linter.unusedVariables false

theorem knownFq {w : World} {b : Nat} {s : FS} {t : TypeId} {c q : Bool} (h : w.heap[b]? = some (.cells (cellsF s) t)) (hc : s.cy = c) (hi : s.il = q) :
    w.cell? ⟨b, 23, none⟩ = some (.bool c) ∧ w.cell? ⟨b, 24, none⟩ = some (.bool q) ∧ b < w.heap.size ∧ (∀ o, w.frozen? ⟨b, o, none⟩ = false) := by
  subst hc hi
  exact (knownF h).2
theorem inc_val (x : Nat) : IntKind.u64.wrap ((x : Int) + 1) = (((x + 1) % 18446744073709551616 : Nat) : Int) := by
  rw [IntKind.wrap_u64]; omega
theorem fin_flags {w w2 : World} {b : Nat} {s : FS} (k2 : w2.heap[b]? = some (.cells (cellsF s) 31)) (hW : Wrote b w w2) :
    ((w2.setCell ⟨b, 23, none⟩ (.bool false)).setCell ⟨b, 24, none⟩ (.bool false)).heap[b]? = some (.cells (cellsF (setIl (setCy s false) false)) 31) ∧ Wrote b w ((w2.setCell ⟨b, 23, none⟩ (.bool false)).setCell ⟨b, 24, none⟩ (.bool false)) := by
  have h1 := set_at k2 23 (.bool false)
  rw [cellsF_setCy] at h1
  have h2 := set_at h1 24 (.bool false)
  rw [cellsF_setIl] at h2
  exact ⟨h2, (hW.setCell _ _).setCell _ _⟩
set_option maxRecDepth 100000 in
set_option maxHeartbeats 2000000 in
theorem turn_a (b : Nat) (s : FS) (r q : Bool) (w : World) (ok : OkF s) (h : w.heap[b]? = some (.cells (cellsF s) 31)) (hcy : s.cy = true) (hq : s.il = q) (hr : (r && !q) = false) :
    Calls Try.prog 46 #[.pointer (some ⟨b, 0, none⟩), .bool r] w fun e w' => (∃ v, e = .returned v) ∧ w'.heap[b]? = some (.cells (cellsF (turnOf s r)) 31) ∧ Wrote b w w' := by
  have HO : Hid (turnOf s r = setIl (setCy ((s)) false) false) := by
    show _ = _
    have e1 : turnCy s = s := by unfold turnCy; rw [hcy]; rfl
    have e2 : ∀ t, t.il = q → turnIl t r = t := fun t ht => by unfold turnIl; rw [ht, hr]; rfl
    unfold turnOf; rw [e1, e2 s hq]
  have I20 := Lib.hid (inc_val (s.g 20))
  have I21 := Lib.hid (inc_val (s.g 21))
  obtain ⟨c0, c1, c2, cl, cf⟩ := knownF h
  rw [hcy] at c1
  rw [hq] at c2
  have W0 := Lib.hid (Wrote.refl b w)
  have HCY := Lib.hid hcy
  have HQ := Lib.hid hq
  clear hcy hq
  rcases r <;> rcases q <;> simp at hr
  all_goals try clear hr
  all_goals
    go_enter Try.func46, Try.ntmps46
    have K := Lib.hid h
    clear h
    go_wp2
    all_goals (first | go_end0 | refine bodyPost_ret (results_none rfl _ _ _) rfl ?_)
    rw [HO.out]
    exact ⟨⟨_, rfl⟩, fin_flags K.out W0.out⟩
set_option maxRecDepth 100000 in
set_option maxHeartbeats 2000000 in
theorem turn_b (b : Nat) (s : FS) (r q : Bool) (w : World) (ok : OkF s) (h : w.heap[b]? = some (.cells (cellsF s) 31)) (hcy : s.cy = true) (hq : s.il = q) (hr : (r && !q) = true) :
    Calls Try.prog 46 #[.pointer (some ⟨b, 0, none⟩), .bool r] w fun e w' => (∃ v, e = .returned v) ∧ w'.heap[b]? = some (.cells (cellsF (turnOf s r)) 31) ∧ Wrote b w w' := by
  have HO : Hid (turnOf s r = setIl (setCy (setG (s) 21 ((s.g 21 + 1) % 18446744073709551616)) false) false) := by
    show _ = _
    have e1 : turnCy s = s := by unfold turnCy; rw [hcy]; rfl
    have e2 : ∀ t, t.il = q → turnIl t r = setG t 21 ((t.g 21 + 1) % 18446744073709551616) := fun t ht => by unfold turnIl; rw [ht, hr]; rfl
    unfold turnOf; rw [e1, e2 s hq]
  have I20 := Lib.hid (inc_val (s.g 20))
  have I21 := Lib.hid (inc_val (s.g 21))
  obtain ⟨c0, c1, c2, cl, cf⟩ := knownF h
  rw [hcy] at c1
  rw [hq] at c2
  have W0 := Lib.hid (Wrote.refl b w)
  have HCY := Lib.hid hcy
  have HQ := Lib.hid hq
  clear hcy hq
  rcases r <;> rcases q <;> simp at hr
  all_goals try clear hr
  all_goals
    go_enter Try.func46, Try.ntmps46
    obtain ⟨m1, m2, ml, mf⟩ := knownFq h HCY.out HQ.out
    go_wp2_with fail
    refine (word_some (n := 2818) (k := 21) (by decide) _ h).mono ?_
    rintro e w3 ⟨rfl, hb3⟩
    have k3 := keepB hb3 h
    have W3 := Lib.hid (W0.out.below hb3)
    have g3 : w3.cell? ⟨b, 1 + 21, none⟩ = some (.int .u64 (s.g 21 : Int)) := knownFg k3 (i := 21) (by omega)
    obtain ⟨q1, q2, ql, qf⟩ := knownFq k3 HCY.out HQ.out
    obtain ⟨k4, W4⟩ := fin_set (i := 21) (by omega) k3 W3.out I21.out 22 rfl
    have W4 := Lib.hid W4
    obtain ⟨z1, z2, zl, zf⟩ := knownFq k4 HCY.out HQ.out
    have K := Lib.hid k4
    clear k4
    go_wp2
    all_goals (first | go_end0 | refine bodyPost_ret (results_none rfl _ _ _) rfl ?_)
    rw [HO.out]
    exact ⟨⟨_, rfl⟩, fin_flags K.out W4.out⟩
set_option maxRecDepth 100000 in
set_option maxHeartbeats 2000000 in
theorem turn_c (b : Nat) (s : FS) (r q : Bool) (w : World) (ok : OkF s) (h : w.heap[b]? = some (.cells (cellsF s) 31)) (hcy : s.cy = false) (hq : s.il = q) (hr : (r && !q) = false) :
    Calls Try.prog 46 #[.pointer (some ⟨b, 0, none⟩), .bool r] w fun e w' => (∃ v, e = .returned v) ∧ w'.heap[b]? = some (.cells (cellsF (turnOf s r)) 31) ∧ Wrote b w w' := by
  have HO : Hid (turnOf s r = setIl (setCy ((setG s 20 ((s.g 20 + 1) % 18446744073709551616))) false) false) := by
    show _ = _
    have e1 : turnCy s = setG s 20 ((s.g 20 + 1) % 18446744073709551616) := by unfold turnCy; rw [hcy]; rfl
    have e2 : ∀ t, t.il = q → turnIl t r = t := fun t ht => by unfold turnIl; rw [ht, hr]; rfl
    unfold turnOf; rw [e1, e2 (setG s 20 ((s.g 20 + 1) % 18446744073709551616)) hq]
  have I20 := Lib.hid (inc_val (s.g 20))
  have I21 := Lib.hid (inc_val (s.g 21))
  obtain ⟨c0, c1, c2, cl, cf⟩ := knownF h
  rw [hcy] at c1
  rw [hq] at c2
  have W0 := Lib.hid (Wrote.refl b w)
  have HCY := Lib.hid hcy
  have HQ := Lib.hid hq
  clear hcy hq
  rcases r <;> rcases q <;> simp at hr
  all_goals try clear hr
  all_goals
    go_enter Try.func46, Try.ntmps46
    go_wp2_with fail
    refine (word_some (n := 2816) (k := 20) (by decide) _ h).mono ?_
    rintro e w1 ⟨rfl, hb1⟩
    have k1 := keepB hb1 h
    have W1 := Lib.hid (W0.out.below hb1)
    have g1 := knownFg k1 (i := 20) (by omega)
    obtain ⟨p1, p2, cl1, cf1⟩ := knownFq k1 HCY.out HQ.out
    obtain ⟨k2, W2⟩ := fin_set (i := 20) (by omega) k1 W1.out I20.out 21 rfl
    have W2 := Lib.hid W2
    obtain ⟨z1, z2, zl, zf⟩ := knownFq k2 HCY.out HQ.out
    have K := Lib.hid k2
    clear k2
    go_wp2
    all_goals (first | go_end0 | refine bodyPost_ret (results_none rfl _ _ _) rfl ?_)
    rw [HO.out]
    exact ⟨⟨_, rfl⟩, fin_flags K.out W2.out⟩
set_option maxRecDepth 100000 in
set_option maxHeartbeats 2000000 in
theorem turn_d (b : Nat) (s : FS) (r q : Bool) (w : World) (ok : OkF s) (h : w.heap[b]? = some (.cells (cellsF s) 31)) (hcy : s.cy = false) (hq : s.il = q) (hr : (r && !q) = true) :
    Calls Try.prog 46 #[.pointer (some ⟨b, 0, none⟩), .bool r] w fun e w' => (∃ v, e = .returned v) ∧ w'.heap[b]? = some (.cells (cellsF (turnOf s r)) 31) ∧ Wrote b w w' := by
  have HO : Hid (turnOf s r = setIl (setCy (setG (setG s 20 ((s.g 20 + 1) % 18446744073709551616)) 21 ((s.g 21 + 1) % 18446744073709551616)) false) false) := by
    show _ = _
    have e1 : turnCy s = setG s 20 ((s.g 20 + 1) % 18446744073709551616) := by unfold turnCy; rw [hcy]; rfl
    have e2 : ∀ t, t.il = q → turnIl t r = setG t 21 ((t.g 21 + 1) % 18446744073709551616) := fun t ht => by unfold turnIl; rw [ht, hr]; rfl
    unfold turnOf; rw [e1, e2 (setG s 20 ((s.g 20 + 1) % 18446744073709551616)) hq]; rfl
  have I20 := Lib.hid (inc_val (s.g 20))
  have I21 := Lib.hid (inc_val (s.g 21))
  obtain ⟨c0, c1, c2, cl, cf⟩ := knownF h
  rw [hcy] at c1
  rw [hq] at c2
  have W0 := Lib.hid (Wrote.refl b w)
  have HCY := Lib.hid hcy
  have HQ := Lib.hid hq
  clear hcy hq
  rcases r <;> rcases q <;> simp at hr
  all_goals try clear hr
  all_goals
    go_enter Try.func46, Try.ntmps46
    go_wp2_with fail
    refine (word_some (n := 2816) (k := 20) (by decide) _ h).mono ?_
    rintro e w1 ⟨rfl, hb1⟩
    have k1 := keepB hb1 h
    have W1 := Lib.hid (W0.out.below hb1)
    have g1 := knownFg k1 (i := 20) (by omega)
    obtain ⟨p1, p2, cl1, cf1⟩ := knownFq k1 HCY.out HQ.out
    obtain ⟨k2, W2⟩ := fin_set (i := 20) (by omega) k1 W1.out I20.out 21 rfl
    have W2 := Lib.hid W2
    obtain ⟨m1, m2, ml, mf⟩ := knownFq k2 HCY.out HQ.out
    go_wp2_with fail
    refine (word_some (n := 2818) (k := 21) (by decide) _ k2).mono ?_
    rintro e w3 ⟨rfl, hb3⟩
    have k3 := keepB hb3 k2
    have W3 := Lib.hid (W2.out.below hb3)
    have g3 : w3.cell? ⟨b, 1 + 21, none⟩ = some (.int .u64 (s.g 21 : Int)) := knownFg k3 (i := 21) (by omega)
    obtain ⟨q1, q2, ql, qf⟩ := knownFq k3 HCY.out HQ.out
    obtain ⟨k4, W4⟩ := fin_set (i := 21) (by omega) k3 W3.out I21.out 22 rfl
    have W4 := Lib.hid W4
    obtain ⟨z1, z2, zl, zf⟩ := knownFq k4 HCY.out HQ.out
    have K := Lib.hid k4
    clear k4
    go_wp2
    all_goals (first | go_end0 | refine bodyPost_ret (results_none rfl _ _ _) rfl ?_)
    rw [HO.out]
    exact ⟨⟨_, rfl⟩, fin_flags K.out W4.out⟩
theorem turn_any (b : Nat) (s : FS) (r : Bool) (w : World) (ok : OkF s) (h : w.heap[b]? = some (.cells (cellsF s) 31)) :
    Calls Try.prog 46 #[.pointer (some ⟨b, 0, none⟩), .bool r] w fun e w' => (∃ v, e = .returned v) ∧ w'.heap[b]? = some (.cells (cellsF (turnOf s r)) 31) ∧ Wrote b w w' := by
  cases hcy : s.cy <;> cases hr : (r && !s.il)
  · exact turn_c b s r _ w ok h hcy rfl hr
  · exact turn_d b s r _ w ok h hcy rfl hr
  · exact turn_a b s r _ w ok h hcy rfl hr
  · exact turn_b b s r _ w ok h hcy rfl hr
theorem turn_v {b : Nat} {s s' : FS} {r : Bool} (hs : turnOf s r = s') (w : World) (ok : OkF s) (h : w.heap[b]? = some (.cells (cellsF s) 31)) :
    Calls Try.prog 46 #[.pointer (some ⟨b, 0, none⟩), .bool r] w fun e w' => (∃ v, e = .returned v) ∧ w'.heap[b]? = some (.cells (cellsF s') 31) ∧ Wrote b w w' := by
  rw [← hs]; exact turn_any b s r w ok h

def isCsrOp (op : Int) : Bool := decide (89 ≤ op) && decide (op ≤ 94)
def writesB (op rs1 : Int) : Bool := decide (op = 89) || decide (op = 92) || (isCsrOp op && (rs1 != 0))
set_option maxRecDepth 100000 in
set_option maxHeartbeats 2000000 in
theorem class_csr (op : Int) (w : World) (h : isCsrOp op = true) :
    Calls Try.prog 87 #[.int .i64 op] w fun e w' => e = .returned (.int .i64 8) ∧ w' = w := by
  unfold isCsrOp at h
  rw [Bool.and_eq_true, decide_eq_true_iff, decide_eq_true_iff] at h
  obtain ⟨h1, h2⟩ := h
  go_enter Try.func87, Try.ntmps87
  go_wp2
  go_ret
  exact ⟨rfl, rfl⟩
def NotEight (w : World) (e : Ending) (w' : World) : Prop := ∃ c : Int, e = .returned (.int .i64 c) ∧ (c == 8) = false ∧ w' = w
set_option maxRecDepth 100000 in
set_option maxHeartbeats 2000000 in
theorem class_other (op : Int) (w : World) (h : isCsrOp op = false) :
    Calls Try.prog 87 #[.int .i64 op] w (NotEight w) := by
  unfold isCsrOp at h
  rw [Bool.and_eq_false_iff, decide_eq_false_iff_not, decide_eq_false_iff_not] at h
  rcases h with h | h
  · have h2 : op < 89 := by omega
    clear h
    go_enter Try.func87, Try.ntmps87
    go_wp2
    all_goals go_ret
    all_goals exact ⟨_, rfl, rfl, rfl⟩
  · have h2 : 94 < op := by omega
    clear h
    go_enter Try.func87, Try.ntmps87
    go_wp2
    all_goals go_ret
    all_goals exact ⟨_, rfl, rfl, rfl⟩
end Go.Proofs.Ythkkfdhgpaonjaa
