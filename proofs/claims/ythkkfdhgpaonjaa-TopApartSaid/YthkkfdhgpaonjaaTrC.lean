/- Layer 23: the document's Vector, lay. -/
import Derived.Test.YthkkfdhgpaonjaaTrA
namespace Go.Proofs.Ythkkfdhgpaonjaa
open Go.RowKit
set_option linter.unusedSimpArgs false
set_option linter.unusedVariables false

attribute [local simp high] sizeRv zeroRv
attribute [local go_sem ↓] Go.wp_at_zero Go.wp_at_succ
theorem rvec_val (b k : Nat) (hk : k ≤ 63) : (((b + 4 * k) % 18446744073709551616 : Nat) : Int) = IntKind.u64.wrap ((b : Int) + 4 * (k : Int)) := by
  rw [IntKind.wrap_u64]; omega
set_option maxRecDepth 100000 in
set_option maxHeartbeats 2000000 in
theorem rvec_any (t : Nat) (i : Bool) (c : Int) (w : World) (ht : t < 18446744073709551616) :
    Calls Try.prog 61 #[.int .u64 (t : Int), .agg #[.bool i, .int .i64 c]] w fun e w' => e = .returned (.int .u64 (vecOf t i c : Int)) ∧ Below w.heap.size w w' := by
  have FE := Lib.hid ((Fr.refl w).alloc (.cells #[.bool i, .int .i64 c] 91)).1
  have fin0 : ∀ x : Nat, ((x / 4 * 4 : Nat) : Int) = (x : Int) / 4 * 4 := fun x => by omega
  have F0 := Lib.hid fin0
  clear fin0
  by_cases h : t % 2 = 1 ∧ i = true ∧ 0 < c ∧ c < 64
  · obtain ⟨h1, rfl, h0, h63⟩ := h
    obtain ⟨k, rfl⟩ := Int.eq_ofNat_of_zero_le (show 0 ≤ c by omega)
    have HV : Hid (((vecOf t true (k : Int) : Nat) : Int) = IntKind.u64.wrap ((t : Int) / 4 * 4 + 4 * (k : Int))) := by
      show _ = _; rw [vec_yes ⟨h1, rfl, by omega, by omega⟩, ← F0.out, ← rvec_val _ _ (by omega)]; rfl
    have ho : ((t : Int) % 2 == 1) = true := by simp; omega
    clear h1
    go_enter Try.func61, Try.ntmps61
    go_wp2
    go_ret
    exact ⟨by rw [HV.out]; rfl, FE.out⟩
  · have HV : Hid (((vecOf t i c : Nat) : Int) = (t : Int) / 4 * 4) := by
      show _ = _
      rw [← F0.out]
      by_cases h' : t % 2 = 1 ∧ i = true ∧ 0 ≤ c ∧ c ≤ 63
      · have hc : c = 0 := by
          rcases Int.lt_or_le 0 c with h2 | h2
          · exact (h ⟨h'.1, h'.2.1, h2, by omega⟩).elim
          · omega
        rw [vec_yes h', hc]
        simp
        omega
      · rw [vec_no h']
    by_cases h1 : t % 2 = 1
    · have ho : ((t : Int) % 2 == 1) = true := by simp; omega
      cases i
      · clear h1 h
        go_enter Try.func61, Try.ntmps61
        go_wp2
        go_ret
        exact ⟨by rw [HV.out]; rfl, FE.out⟩
      · by_cases h0 : 0 < c
        · have h63 : 64 ≤ c := by
            rcases Int.lt_or_le c 64 with h2 | h2
            · exact (h ⟨h1, rfl, h0, h2⟩).elim
            · exact h2
          clear h1 h
          go_enter Try.func61, Try.ntmps61
          go_wp2
          go_ret
          exact ⟨by rw [HV.out]; rfl, FE.out⟩
        · have h0' : c ≤ 0 := by omega
          clear h1 h h0
          go_enter Try.func61, Try.ntmps61
          go_wp2
          go_ret
          exact ⟨by rw [HV.out]; rfl, FE.out⟩
    · have ho : ((t : Int) % 2 == 1) = false := by simp; omega
      clear h1 h
      go_enter Try.func61, Try.ntmps61
      go_wp2
      go_ret
      exact ⟨by rw [HV.out]; rfl, FE.out⟩
theorem rvec_v {t : Nat} {i : Bool} {c : Int} {y : Nat} (h : vecOf t i c = y) (w : World) (ht : t < 18446744073709551616) :
    Calls Try.prog 61 #[.int .u64 (t : Int), .agg #[.bool i, .int .i64 c]] w fun e w' => e = .returned (.int .u64 (y : Int)) ∧ Below w.heap.size w w' := by
  rw [← h]; exact rvec_any t i c w ht

set_option maxRecDepth 100000 in
set_option maxHeartbeats 4000000 in
theorem rtlay_any {nm : ByteArray} {n : Int} {i j : Nat} {s s' : FS} {v y : Nat} (hnm : NameOk nm n i j) (hy : legalOf n (s.g i) v = y) (hs' : setG s i y = s') (w : World) (ok : OkF s) (hv : v < 18446744073709551616) :
    Calls Try.prog 100 #[.agg (cellsR s), .string nm, .int .u64 (v : Int)] w fun e w' => e = .returned (.agg (cellsR s')) ∧ Below w.heap.size w w' := by
  have k0 := keep_alloc (heap_alloc_new w (.cells (cellsR s) 34)) (.cells (cellsR zeroF) 34)
  have z0 : ((w.alloc (.cells (cellsR s) 34)).alloc (.cells (cellsR zeroF) 34)).heap[w.heap.size + 1]? = some (.cells (cellsR zeroF) 34) := by simpa using heap_alloc_new (w.alloc (.cells (cellsR s) 34)) (.cells (cellsR zeroF) 34)
  have F0 := ((Fr.refl w).alloc (.cells (cellsR s) 34)).alloc (.cells (cellsR zeroF) 34)
  have HY := Lib.hid hy
  have HS := Lib.hid hs'
  have HN := Lib.hid hnm.1
  have hg := ok.g i
  have l1 := zeroRv
  have l2 := sizeRv
  have l3 := size_cellsR
  clear hy hs'
  have lsA : ∀ w' : World, w'.heap[w.heap.size]? = some (.cells (cellsR s) 34) → (loadCellsFrom ⟨w.heap.size, 0, none⟩ 0 szR #[]).run Try.prog w' = .ok (cellsR s) w' := fun w' h => ldR h
  have stA : ∀ w' : World, w'.heap[w.heap.size + 1]? = some (.cells (cellsR zeroF) 34) → (storeCells ⟨w.heap.size + 1, 0, none⟩ (cellsR s').toList).run Try.prog w' = .ok () (w'.setRow (w.heap.size + 1) (cellsR s')) := fun w' h => stR _ h s'
  go_enter Try.func100, Try.ntmps100
  go_wp2_with fail
  refine (num_v HN.out _).mono ?_
  rintro e w1 ⟨rfl, hb1⟩
  have k1 := keepB hb1 k0
  have z1 := keepB hb1 z0
  have F1 := F0.step hb1
  clear k0 z0 F0 hb1
  go_wp2_with fail
  have hS5 : (Fr w.heap.size w w1.drew ∧ w1.drew.heap[w.heap.size]? = some (.cells (cellsR s) 34)) ∧ w1.drew.heap[w.heap.size + 1]? = some (.cells (cellsR zeroF) 34) := ⟨⟨F1.drew, k1⟩, z1⟩
  have ls5 := ldR (P := Try.prog) hS5.1.2
  clear F1 k1 z1
  go_region_with (first
      | (go_at_call 90; refine (word_n hnm rfl _).mono ?_; rintro e w' ⟨rfl, hb⟩; have hS := heldR2 hb ‹_›)
      | (go_at_call 22; refine (rlegal_v HY.out _ hg hv).mono ?_; rintro e w' ⟨rfl, hb⟩; have hS := heldR2 hb ‹_›)
      | (go_at_call 102; refine (upper_with hnm HS.out _).mono ?_; rintro e w' ⟨rfl, hb⟩; have hS := heldR2 hb ‹_›))
  all_goals
    have E2 := Lib.hid (lvR (row_at hS.2 (cellsR s')))
    have FF := Lib.hid (hS.1.1.row (Nat.le_succ _) (cellsR s'))
    clear lsA stA ls5
    go_wp2
    refine bodyPost_ret (v := .agg (cellsR s')) (by simp [results, Try.results100, asAddr, Act.put, E2.out]) rfl ⟨rfl, FF.out.1⟩
end Go.Proofs.Ythkkfdhgpaonjaa
