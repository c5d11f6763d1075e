/- The document's Lines, Tick, Write, New; clint.Fits. -/
import Derived.Test.YtgelpapjmlbgfaaClH
namespace Go.Proofs.Ytgelpapjmlbgfaa
open Go.RowKit
set_option linter.unusedSimpArgs false
set_option linter.unusedVariables false
attribute [local simp high] size27 zero27 size41 zero41

set_option maxRecDepth 100000 in
set_option maxHeartbeats 2000000 in
theorem rlines_out (s : CS) (i : Int) (w : World) (hi : i < 0 ∨ s.n ≤ i) :
    Calls Try.prog 22 #[.agg (cellsC s), .int .i64 i] w fun e w' => e = .returned (.int .u64 ((linesOf s i : Nat) : Int)) ∧ Below w.heap.size w w' := by
  have H : Hid (linesOf s i = 0) := by show _ = _; unfold linesOf; rw [if_pos hi]
  obtain ⟨c0, c1, cl, cf⟩ := knownC (heap_alloc_new w (.cells (cellsC s) 41))
  have hB : Fr w.heap.size w (w.alloc (.cells (cellsC s) 41)) := (Fr.refl w).alloc _
  by_cases h1 : i < 0
  · go_enter Try.func22, Try.ntmps22
    go_wp2
    go_ret
    exact ⟨by rw [H.out]; rfl, hB.1⟩
  · have h2 : s.n ≤ i := by omega
    go_enter Try.func22, Try.ntmps22
    go_wp2
    go_ret
    exact ⟨by rw [H.out]; rfl, hB.1⟩
set_option maxRecDepth 100000 in
set_option maxHeartbeats 2000000 in
theorem rlines_in (s : CS) (i : Nat) (f : Bool) (c t : Nat) (w : World) (hi : (i : Int) < s.n) (ok : OkC s) (hf : s.f i = f) (hc : s.c i = c) (ht : s.t = t) :
    Calls Try.prog 22 #[.agg (cellsC s), .int .i64 (i : Int)] w fun e w' => e = .returned (.int .u64 (((if f = true then 8 else 0) + (if c ≤ t then 128 else 0) : Nat) : Int)) ∧ Below w.heap.size w w' := by
  have hi8 : i < 8 := by have := ok.n8; omega
  obtain ⟨c0, c1, cl, cf⟩ := knownC (heap_alloc_new w (.cells (cellsC s) 41))
  have hB : Fr w.heap.size w (w.alloc (.cells (cellsC s) 41)) := (Fr.refl w).alloc _
  have cc := knownCc (heap_alloc_new w (.cells (cellsC s) 41)) hi8
  have cb := knownCf (heap_alloc_new w (.cells (cellsC s) 41)) hi8
  have bt := ok.t
  have bc := ok.c i
  rw [hf] at cb
  rw [hc] at cc bc
  rw [ht] at c1 bt
  by_cases hle : c ≤ t
  · have e1 : decide ((c : Int) ≤ (t : Int)) = true := by simp; exact hle
    rw [if_pos hle]
    cases f
    all_goals
      go_enter Try.func22, Try.ntmps22
      go_wp2_with fail
      go_quiet (fail)
      go_wp2
      go_ret
      exact ⟨rfl, (hB.drewN _).1⟩
  · have e1 : decide ((c : Int) ≤ (t : Int)) = false := by simp; omega
    rw [if_neg hle]
    cases f
    all_goals
      go_enter Try.func22, Try.ntmps22
      go_wp2_with fail
      go_quiet (fail)
      go_wp2
      go_ret
      exact ⟨rfl, (hB.drewN _).1⟩
theorem rlines_any (s : CS) (i : Int) (w : World) (ok : OkC s) :
    Calls Try.prog 22 #[.agg (cellsC s), .int .i64 i] w fun e w' => e = .returned (.int .u64 ((linesOf s i : Nat) : Int)) ∧ Below w.heap.size w w' := by
  by_cases hi : i < 0 ∨ s.n ≤ i
  · exact rlines_out s i w hi
  · obtain ⟨k, rfl⟩ := Int.eq_ofNat_of_zero_le (by omega : 0 ≤ i)
    have e : linesOf s (k : Int) = (if s.f k = true then 8 else 0) + (if s.c k ≤ s.t then 128 else 0) := by
      unfold linesOf; rw [if_neg hi]; rfl
    rw [e]
    exact rlines_in s k _ _ _ w (by omega) ok rfl rfl rfl

/-- The two blocks of a function that takes and gives a C: its own copy, and the result's. -/
theorem two_blocks (w : World) (s : CS) : ∃ w1, w1 = (w.alloc (.cells (cellsC s) 41)).alloc (.cells (cellsC zeroC) 41) ∧ Fr w.heap.size w w1 ∧ w1.heap[w.heap.size]? = some (.cells (cellsC s) 41) ∧ w1.heap[w.heap.size + 1]? = some (.cells (cellsC zeroC) 41) := by
  refine ⟨_, rfl, ((Fr.refl w).alloc _).alloc _, keep_alloc (heap_alloc_new _ _) _, ?_⟩
  simpa using heap_alloc_new (w.alloc (.cells (cellsC s) 41)) (.cells (cellsC zeroC) 41)

/-- What the walk reads of the two blocks; where it ends. -/
theorem two_facts (w : World) (s : CS) :
    (loadCellsFrom ⟨w.heap.size, 0, none⟩ 0 sz18 #[]).run Try.prog ((w.alloc (.cells (cellsC s) 41)).alloc (.cells (cellsC zeroC) 41)) = .ok (cellsC s) ((w.alloc (.cells (cellsC s) 41)).alloc (.cells (cellsC zeroC) 41)) ∧
    (storeCells ⟨w.heap.size + 1, 0, none⟩ (cellsC s).toList).run Try.prog ((w.alloc (.cells (cellsC s) 41)).alloc (.cells (cellsC zeroC) 41)) = .ok () (((w.alloc (.cells (cellsC s) 41)).alloc (.cells (cellsC zeroC) 41)).setRow (w.heap.size + 1) (cellsC s)) ∧
    (((w.alloc (.cells (cellsC s) 41)).alloc (.cells (cellsC zeroC) 41)).setRow (w.heap.size + 1) (cellsC s)).heap[w.heap.size + 1]? = some (.cells (cellsC s) 41) ∧
    Below w.heap.size w (((w.alloc (.cells (cellsC s) 41)).alloc (.cells (cellsC zeroC) 41)).setRow (w.heap.size + 1) (cellsC s)) := by
  obtain ⟨w1, hw1, hf, k0, k1⟩ := two_blocks w s
  rw [← hw1]
  exact ⟨ldC k0, stC _ k1 s, row_at k1 _, (hf.row (b := w.heap.size + 1) (by omega) _).1⟩

set_option maxRecDepth 100000 in
set_option maxHeartbeats 2000000 in
theorem rtick_any (s : CS) (n : Int) (w : World) (hn : n ≤ 9223372036854775807) (ok : OkC s) :
    Calls Try.prog 21 #[.agg (cellsC s), .int .i64 n] w fun e w' => e = .returned (.agg (cellsC (tickOf s n))) ∧ Below w.heap.size w w' := by
  obtain ⟨w1, hw1, hf, k0, k1⟩ := two_blocks w s
  rw [hw1] at hf k0 k1
  obtain ⟨c0, c1, cl, cf⟩ := knownC k0
  have a3 := size_cellsC
  obtain ⟨f1, f2, f3, f4⟩ := two_facts w s
  have F3 := Lib.hid f3
  have F4 := Lib.hid f4
  clear f3 f4 k0 k1 hw1 hf
  by_cases h1 : 0 < n
  · by_cases h2 : 0 < s.n
    · have H : Hid (tickOf s n = setT s ((s.t + n.toNat) % 18446744073709551616)) := by show _ = _; unfold tickOf; rw [if_pos ⟨h1, h2⟩]
      have HW := Lib.hid (tick_wrap s.t n h1)
      obtain ⟨g1, g2, g3, g4⟩ := two_facts w (setT s ((s.t + n.toNat) % 18446744073709551616))
      have HC := Lib.hid (cellsC_setT s ((s.t + n.toNat) % 18446744073709551616))
      generalize setT s ((s.t + n.toNat) % 18446744073709551616) = s' at H g1 g2 g3 g4 HC
      generalize (s.t + n.toNat) % 18446744073709551616 = t' at HW HC
      have G3 := Lib.hid g3
      have G4 := Lib.hid g4
      clear g3 g4
      go_enter Try.func21, Try.ntmps21
      go_wp2
      rw [HW.out, HC.out]
      simp only [g1, Result.andThen]
      rw [Oper.upon_value]
      go_wp2
      exact bodyPost_ret (v := .agg (cellsC s')) (by simp [results, Try.results21, asAddr, lv41 G3.out]) rfl ⟨by rw [H.out], G4.out⟩
    · have H : Hid (tickOf s n = s) := by show _ = _; unfold tickOf; rw [if_neg (by omega)]
      go_enter Try.func21, Try.ntmps21
      go_wp2
      exact bodyPost_ret (v := .agg (cellsC s)) (by simp [results, Try.results21, asAddr, lv41 F3.out]) rfl ⟨by rw [H.out], F4.out⟩
  · have H : Hid (tickOf s n = s) := by show _ = _; unfold tickOf; rw [if_neg (by omega)]
    go_enter Try.func21, Try.ntmps21
    go_wp2
    exact bodyPost_ret (v := .agg (cellsC s)) (by simp [results, Try.results21, asAddr, lv41 F3.out]) rfl ⟨by rw [H.out], F4.out⟩

end Go.Proofs.Ytgelpapjmlbgfaa
