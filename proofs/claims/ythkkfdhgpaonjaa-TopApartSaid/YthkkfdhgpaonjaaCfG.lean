/- The document's CSR file: at, Word, with, With, New. -/
import Derived.Test.YthkkfdhgpaonjaaCfP
namespace Go.Proofs.Ythkkfdhgpaonjaa
open Go.RowKit
set_option linter.unusedSimpArgs false
set_option linter.unusedVariables false

/-- A CSR's place in the table. -/
def atN (n : Int) : Option Nat := tab19.findIdx? fun r => r.1 == n
def atV (n : Int) : Int := match atN n with | some j => (j : Int) | none => -1
theorem atN_hit (n : Int) (k : Nat) (hk : k < 34) (hb : ∀ j, j < k → (tab19.getD j default).1 ≠ n) (h : (tab19.getD k default).1 = n) : atN n = some k := by
  unfold atN
  rw [List.findIdx?_eq_some_iff_getElem]
  have hl : k < tab19.length := hk
  refine ⟨hl, by simpa [List.getD_eq_getElem?_getD, List.getElem?_eq_getElem hl] using h, fun j hj => ?_⟩
  have := hb j hj
  have hl2 : j < tab19.length := by omega
  simpa [List.getD_eq_getElem?_getD, List.getElem?_eq_getElem hl2] using this
theorem atN_miss (n : Int) (hb : ∀ j, j < 34 → (tab19.getD j default).1 ≠ n) : atN n = none := by
  unfold atN
  rw [List.findIdx?_eq_none_iff]
  intro x hx
  obtain ⟨j, hj, rfl⟩ := List.getElem_of_mem hx
  have := hb j hj
  simpa [List.getD_eq_getElem?_getD, List.getElem?_eq_getElem hj] using this
theorem atN_lt {n : Int} {k : Nat} (h : atN n = some k) : k < 34 ∧ (tab19.getD k default).1 = n := by
  unfold atN at h
  rw [List.findIdx?_eq_some_iff_getElem] at h
  obtain ⟨hl, h1, _⟩ := h
  refine ⟨hl, ?_⟩
  simpa [List.getD_eq_getElem?_getD, List.getElem?_eq_getElem hl] using h1

set_option maxRecDepth 100000 in
set_option maxHeartbeats 2000000 in
theorem at22_any (n : Int) (w : World) :
    Calls Try.prog 112 #[.int .i64 n] w fun e w' => e = .returned (.int .i64 (atV n)) ∧ Below w.heap.size w w' := by
  go_enter Try.func112, Try.ntmps112
  go_wp2_with (go_at_call 37; refine (rrows_any _).mono ?_; rintro e w' ⟨rfl, rfl⟩)
  obtain ⟨w1, hw1⟩ : ∃ w1, w1 = w.alloc (.cells cells19 52) := ⟨_, rfl⟩
  have hf : Fr w.heap.size w w1 := by rw [hw1]; exact (Fr.refl w).alloc _
  have hh : w1.heap[w.heap.size]? = some (.cells cells19 52) := by rw [hw1]; exact heap_alloc_new _ _
  rw [← hw1]
  clear hw1
  go_loop [4] (fun i => ∃ k : Nat, k ≤ 34 ∧ i = .int .i64 k ∧ Hid (∀ j, j < k → (tab19.getD j default).1 ≠ n)) (fun i => 34 - (intOf i).toNat)
  case atStart => exact ⟨0, by omega, rfl, fun j hj => by omega⟩
  case round =>
    obtain ⟨k, hk, rfl, H⟩ := hrel
    by_cases hlt : k < 34
    · obtain ⟨c0, -, -⟩ := cells19_at hh k hlt
      obtain ⟨m, hm⟩ : ∃ m, (tab19.getD k default).1 = m := ⟨_, rfl⟩
      rw [hm] at c0
      have HM := Lib.hid hm
      clear hm
      by_cases hmn : m = n
      · subst hmn
        have HX : Hid (atV m = (k : Int)) := by show _ = _; unfold atV; rw [atN_hit m k hlt H.out HM.out]
        clear H
        go_wp2
        go_ret
        exact ⟨by rw [HX.out]; rfl, hf.1⟩
      · have e0 : (m == n) = false := by simpa using hmn
        have H2 : Hid (∀ j, j < k + 1 → (tab19.getD j default).1 ≠ n) := fun j hj => by
          by_cases hjk : j < k
          · exact H.out j hjk
          · obtain rfl : j = k := by omega
            rw [HM.out]; exact hmn
        clear H hmn
        go_wp2
        go_round
        case rel => exact ⟨k + 1, by omega, by go_num, H2⟩
        case measure => simp [intOf]; omega
    · obtain rfl : k = 34 := by omega
      have HX : Hid (atV n = -1) := by show _ = _; unfold atV; rw [atN_miss n H.out]
      clear H
      go_wp2
      go_ret
      exact ⟨by rw [HX.out]; rfl, hf.1⟩
theorem at_k {n : Int} {k : Nat} (h : atN n = some k) (w : World) :
    Calls Try.prog 112 #[.int .i64 n] w fun e w' => e = .returned (.int .i64 (k : Int)) ∧ Below w.heap.size w w' := by
  have := at22_any n w
  unfold atV at this
  rw [h] at this
  exact this
theorem num_v {s : ByteArray} {q : Int} (h : numOf s.toList = q) (w : World) : Calls Try.prog 27 #[.string s] w fun e w' => e = .returned (.int .i64 q) ∧ Below w.heap.size w w' := by
  rw [← h]; exact number_any s w

attribute [local simp high] sizeRv zeroRv
/-- 'Word' of a name that the table has. -/
theorem word22 {nm : ByteArray} {n : Int} {j : Nat} {s : FS} {y : Nat} (hn : numOf nm.toList = n) (hj : atN n = some j) (hy : rowG s j = y) (w : World) :
    Calls Try.prog 90 #[.agg (cellsR s), .string nm] w fun e w' => e = .returned (.int .u64 (y : Int)) ∧ Below w.heap.size w w' := by
  have hj34 := (atN_lt hj).1
  have HN := Lib.hid hn
  have HJ := Lib.hid hj
  have k0 := heap_alloc_new w (.cells (cellsR s) 34)
  have F0 := (Fr.refl w).alloc (.cells (cellsR s) 34)
  have HY := Lib.hid hy
  clear hn hj hy
  go_enter Try.func90, Try.ntmps90
  go_wp2_with fail
  refine (num_v HN.out _).mono ?_
  rintro e w1 ⟨rfl, hb1⟩
  have F1 := F0.step hb1
  have k1 := keepB hb1 k0
  go_wp2_with fail
  refine (at_k HJ.out _).mono ?_
  rintro e w2 ⟨rfl, hb2⟩
  have F2 := F1.step hb2
  have k2 := keepB hb2 k1
  have g2 := knownRg k2 hj34
  rw [HY.out] at g2
  obtain ⟨-, -, -, cl, cf⟩ := knownR k2
  go_wp2
  go_ret
  exact ⟨rfl, F2.1⟩
/-- 'with' of a name that has a word. -/
theorem with22 {nm : ByteArray} {n : Int} {j i : Nat} {s : FS} {y : Nat} (hn : numOf nm.toList = n) (hj : atN n = some j) (hi : rowIx.getD j none = some i) (w : World) :
    Calls Try.prog 83 #[.agg (cellsR s), .string nm, .int .u64 (y : Int)] w fun e w' => e = .returned (.agg (cellsR (setG s i y))) ∧ Below w.heap.size w w' := by
  have hj34 := (atN_lt hj).1
  have HN := Lib.hid hn
  have HJ := Lib.hid hj
  have HI := Lib.hid hi
  have l1 := zeroRv
  have l2 := sizeRv
  have l3 := size_cellsR
  have k0 := keep_alloc (heap_alloc_new w (.cells (cellsR s) 34)) (.cells (cellsR zeroF) 34)
  have z0 : ((w.alloc (.cells (cellsR s) 34)).alloc (.cells (cellsR zeroF) 34)).heap[w.heap.size + 1]? = some (.cells (cellsR zeroF) 34) := by simpa using heap_alloc_new (w.alloc (.cells (cellsR s) 34)) (.cells (cellsR zeroF) 34)
  have F0 := ((Fr.refl w).alloc (.cells (cellsR s) 34)).alloc (.cells (cellsR zeroF) 34)
  clear hn hj hi
  go_enter Try.func83, Try.ntmps83
  go_wp2_with fail
  refine (num_v HN.out _).mono ?_
  rintro e w1 ⟨rfl, hb1⟩
  have F1 := F0.step hb1
  have k1 := keepB hb1 k0
  have z1 := keepB hb1 z0
  go_wp2_with fail
  refine (at_k HJ.out _).mono ?_
  rintro e w2 ⟨rfl, hb2⟩
  have F2 := F1.step hb2
  have k2 := keepB hb2 k1
  have z2 := keepB hb2 z1
  have g2 := knownRg k2 hj34
  obtain ⟨-, -, -, cl, cf⟩ := knownR k2
  have k3 := set_at k2 (1 + j) (.int .u64 (y : Int))
  rw [cellsR_setG s hj34 HI.out] at k3
  have z3 := keep_setCell z2 (p := ⟨w.heap.size, 1 + j, none⟩) (by simp) (.int .u64 (y : Int))
  have F3 := F2.setCell (p := ⟨w.heap.size, 1 + j, none⟩) (Nat.le_refl _) (.int .u64 (y : Int))
  have ls := ldR (P := Try.prog) k3
  have ss := stR Try.prog z3 (setG s i y)
  have E2 := Lib.hid (lvR (row_at z3 (cellsR (setG s i y))))
  have FF := Lib.hid (F3.row (Nat.le_succ _) (cellsR (setG s i y)))
  clear F0 F1 F2 F3 k0 z0 k1 z1 k2 z2 k3 z3 hb1 hb2
  go_wp2
  refine bodyPost_ret (v := .agg (cellsR (setG s i y))) (by simp [results, Try.results83, asAddr, E2.out]) rfl ⟨rfl, FF.out.1⟩
end Go.Proofs.Ythkkfdhgpaonjaa
