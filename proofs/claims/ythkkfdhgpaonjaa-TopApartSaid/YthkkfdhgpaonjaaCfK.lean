/- The document's CSR file: Set at sie. -/
import Derived.Test.YthkkfdhgpaonjaaCfI
import Derived.Deep.DrawnRows
import Derived.Deep.RegionWith
namespace Go.Proofs.Ythkkfdhgpaonjaa
open Go.RowKit
set_option linter.unusedSimpArgs false
set_option linter.unusedVariables false

attribute [local simp high] sizeRv zeroRv
attribute [local go_sem ↓] Go.wp_at_zero Go.wp_at_succ
theorem rlay_v {x v y : Nat} (h : legalOf 256 x v = y) (w : World) (hx : x < 18446744073709551616) (hv : v < 18446744073709551616) :
    Calls Try.prog 113 #[.int .u64 (x : Int), .int .u64 (v : Int)] w fun e w' => e = .returned (.int .u64 (y : Int)) ∧ Below w.heap.size w w' := by
  rw [← h]; exact rlay_any x v w hx hv
theorem heldR2 {w w' : World} {B b c : Nat} {o p : Obj} {w0 : World} (hb : Below w.heap.size w w') (h : (Fr B w0 w ∧ w.heap[b]? = some o) ∧ w.heap[c]? = some p) : (Fr B w0 w' ∧ w'.heap[b]? = some o) ∧ w'.heap[c]? = some p := ⟨⟨h.1.1.step hb, keepB hb h.1.2⟩, keepB hb h.2⟩
/-- 'a &&& b', unopened. -/
def andN (a b : Nat) : Nat := a &&& b
theorem and_o (a b : Nat) (w : World) (ha : a < 18446744073709551616) (hb : b < 18446744073709551616) :
    Calls Try.prog 114 #[.int .u64 (a : Int), .int .u64 (b : Int)] w fun e w' => e = .returned (.int .u64 ((andN a b : Nat) : Int)) ∧ Below w.heap.size w w' := and22_any a b w ha hb
set_option maxRecDepth 100000 in
set_option maxHeartbeats 4000000 in
theorem rset_260 (s : FS) (v : Nat) (w : World) (ok : OkF s) (hv : v < 18446744073709551616) :
    Calls Try.prog 84 #[.agg (cellsR s), .int .i64 260, .int .u64 (v : Int)] w fun e w' => e = .returned (.agg (cellsR (setOf s 260 v))) ∧ Below w.heap.size w w' := by
  have HR : Hid (row19 260 = some (260, ⟨#[115, 105, 101]⟩, 546)) := by show _ = _; decide +kernel
  obtain ⟨y, hy⟩ : ∃ y, blend (s.g 10) v (s.g 9) = y := ⟨_, rfl⟩
  obtain ⟨s', hs'⟩ : ∃ s', setG s 10 y = s' := ⟨_, rfl⟩
  have h9 := ok.g 9
  have h10 := ok.g 10
  have hsum : s.g 10 - andN (s.g 10) (s.g 9) + andN v (s.g 9) = y := by rw [← hy]; exact blend_sum _ _ _ h10 hv h9
  have hle : andN (s.g 10) (s.g 9) ≤ s.g 10 := Nat.and_le_left
  have hylt : y < 18446744073709551616 := by rw [← hy]; exact blend_lt _ _ _
  have hlt2 : s.g 10 - andN (s.g 10) (s.g 9) + andN v (s.g 9) < 18446744073709551616 := by rw [hsum]; exact hylt
  have HSUM : Hid (IntKind.u64.wrap (IntKind.u64.wrap ((s.g 10 : Int) - ((andN (s.g 10) (s.g 9) : Nat) : Int)) + ((andN v (s.g 9) : Nat) : Int)) = (y : Int)) := by show _ = _; simp only [IntKind.wrap_u64]; omega
  have HO : Hid (setOf s 260 v = s') := by show _ = _; rw [← hs', ← hy]; rfl
  have HS := Lib.hid hs'
  clear hy hs' hsum hle hlt2
  have lsA : ∀ w' : World, w'.heap[w.heap.size]? = some (.cells (cellsR s) 34) → (loadCellsFrom ⟨w.heap.size, 0, none⟩ 0 szR #[]).run Try.prog w' = .ok (cellsR s) w' := fun w' h => ldR h
  have stA : ∀ w' : World, w'.heap[w.heap.size + 1]? = some (.cells (cellsR zeroF) 34) → (storeCells ⟨w.heap.size + 1, 0, none⟩ (cellsR s').toList).run Try.prog w' = .ok () (w'.setRow (w.heap.size + 1) (cellsR s')) := fun w' h => stR _ h s'
  have k0 := keep_alloc (heap_alloc_new w (.cells (cellsR s) 34)) (.cells (cellsR zeroF) 34)
  have z0 : ((w.alloc (.cells (cellsR s) 34)).alloc (.cells (cellsR zeroF) 34)).heap[w.heap.size + 1]? = some (.cells (cellsR zeroF) 34) := by simpa using heap_alloc_new (w.alloc (.cells (cellsR s) 34)) (.cells (cellsR zeroF) 34)
  have F0 := ((Fr.refl w).alloc (.cells (cellsR s) 34)).alloc (.cells (cellsR zeroF) 34)
  have ls := ldR (P := Try.prog) k0
  have l1 := zeroRv
  have l2 := sizeRv
  have l3 := size_cellsR
  have fd := run_field1
  go_enter Try.func84, Try.ntmps84
  go_wp2_with fail
  refine (word_n nm_mideleg rfl _).mono ?_
  rintro e w1 ⟨rfl, hb1⟩
  have k1 := keepB hb1 k0
  have z1 := keepB hb1 z0
  have F1 := F0.step hb1
  go_wp2_with fail
  refine (rof_some HR.out _).mono ?_
  rintro e w4 ⟨rfl, hb4⟩
  have k4 := keepB hb4 k1
  have z4 := keepB hb4 z1
  have F4 := F1.step hb4
  clear ls k0 k1 z0 z1 F0 F1 hb1 hb4
  have ls := ldR (P := Try.prog) k4
  go_wp2_with fail
  refine (word_n nm_mie rfl _).mono ?_
  rintro e w5 ⟨rfl, hb5⟩
  have k5 := keepB hb5 k4
  have z5 := keepB hb5 z4
  have F5 := F4.step hb5
  clear F4 k4 z4 hb5
  clear ls
  go_wp2_with fail
  obtain ⟨W5, hW5⟩ : ∃ W5, w5 = W5 := ⟨_, rfl⟩
  rw [hW5] at F5 k5 z5 ⊢
  clear hW5
  have hS5 : (Fr w.heap.size w W5.drew ∧ W5.drew.heap[w.heap.size]? = some (.cells (cellsR s) 34)) ∧ W5.drew.heap[w.heap.size + 1]? = some (.cells (cellsR zeroF) 34) := ⟨⟨F5.drew, k5⟩, z5⟩
  have ls5 := ldR (P := Try.prog) hS5.1.2
  clear F5 k5 z5
  go_region_with (first
      | (go_at_call 114; refine (and_o _ _ _ (by assumption) (by assumption)).mono ?_; rintro e w' ⟨rfl, hb⟩; have hS := heldR2 hb ‹_›)
      | (go_at_call 83; rw [HSUM.out]; refine (with_n nm_mie HS.out _).mono ?_; rintro e w' ⟨rfl, hb⟩; have hS := heldR2 hb ‹_›))
  all_goals
    have E2 := Lib.hid (lvR (row_at hS.2 (cellsR s')))
    have FF := Lib.hid (hS.1.1.row (Nat.le_succ _) (cellsR s'))
    clear lsA stA ls5
    go_wp2
    refine bodyPost_ret (v := .agg (cellsR s')) (by simp [results, Try.results84, asAddr, E2.out]) rfl ⟨by rw [HO.out], FF.out.1⟩
end Go.Proofs.Ythkkfdhgpaonjaa
