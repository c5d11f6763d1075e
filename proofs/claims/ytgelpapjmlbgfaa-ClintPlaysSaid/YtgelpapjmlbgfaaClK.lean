/- The document's New of the clint; clint.Fits. -/
import Derived.Test.YtgelpapjmlbgfaaClJ
namespace Go.Proofs.Ytgelpapjmlbgfaa
open Go.RowKit
set_option linter.unusedSimpArgs false
set_option linter.unusedVariables false
attribute [local simp high] size27 zero27 size41 zero41

set_option maxRecDepth 100000 in
set_option maxHeartbeats 2000000 in
theorem rnew_none (n : Int) (w : World) (hn : n < 1 ∨ 8 < n) :
    Calls Try.prog 16 #[.int .i64 n] w fun e w' => e = .returned (.agg (cellsC (newC n))) ∧ Below w.heap.size w w' := by
  have H : Hid (newC n = zeroC) := by show _ = _; unfold newC; rw [if_pos hn]
  have l1 := zero41
  have l2 := size41
  have l3 := size_cellsC
  have l4 := stn41
  have l5 := bd41
  by_cases h1 : n < 1
  · go_enter Try.func16, Try.ntmps16
    go_wp2
    refine bodyPost_ret (v := .agg (cellsC zeroC)) (by simp [results, Try.results16, asAddr, lv41 (heap_alloc_new w (.cells (cellsC zeroC) 41))]) rfl ⟨by rw [H.out], ((Fr.refl w).alloc _).1⟩
  · have h2 : 8 < n := by omega
    go_enter Try.func16, Try.ntmps16
    go_wp2
    refine bodyPost_ret (v := .agg (cellsC zeroC)) (by simp [results, Try.results16, asAddr, lv41 (heap_alloc_new w (.cells (cellsC zeroC) 41))]) rfl ⟨by rw [H.out], ((Fr.refl w).alloc _).1⟩

set_option maxRecDepth 100000 in
set_option maxHeartbeats 2000000 in
theorem rnew_some (n : Int) (w : World) (hn : 1 ≤ n) (h8 : n ≤ 8) :
    Calls Try.prog 16 #[.int .i64 n] w fun e w' => e = .returned (.agg (cellsC (newC n))) ∧ Below w.heap.size w w' := by
  have l1 := zero41
  have l2 := size41
  have l3 := size_cellsC
  have l4 := stn41_1
  have l6 := cellsC_n0
  have d1 : decide (n < 1) = false := by simp; omega
  have d2 : decide (8 < n) = false := by simp; omega
  go_enter Try.func16, Try.ntmps16
  go_wp2
  obtain ⟨w1, hw1⟩ : ∃ w1, w1 = (w.alloc (.cells (cellsC zeroC) 41)).alloc (.cells (cellsC (partC n 0)) 41) := ⟨_, rfl⟩
  have hf : Fr w.heap.size w w1 := by rw [hw1]; exact ((Fr.refl w).alloc _).alloc _
  have h0 : w1.heap[w.heap.size]? = some (.cells (cellsC zeroC) 41) := by rw [hw1]; exact keep_alloc (heap_alloc_new _ _) _
  have h1 : w1.heap[w.heap.size + 1]? = some (.cells (cellsC (partC n 0)) 41) := by rw [hw1]; simpa using heap_alloc_new (w.alloc (.cells (cellsC zeroC) 41)) (.cells (cellsC (partC n 0)) 41)
  rw [← hw1]
  clear hw1 l1 l4 l6
  go_loopw [4] (fun i wr => ∃ k : Nat, (k : Int) ≤ n ∧ i = .int .i64 k ∧ Fr w.heap.size w wr ∧ wr.heap[w.heap.size]? = some (.cells (cellsC zeroC) 41) ∧ wr.heap[w.heap.size + 1]? = some (.cells (cellsC (partC n k)) 41)) (fun i _ => 8 - (intOf i).toNat)
  case atStart => exact ⟨0, by omega, rfl, hf, h0, h1⟩
  case round =>
    obtain ⟨k, hk, rfl, hfr, hr0, hr1⟩ := hrel
    by_cases hlt : (k : Int) < n
    · have hk8 : k < 8 := by omega
      have hc := knownCc hr1 hk8
      obtain ⟨-, -, hlt1, hfz⟩ := knownC hr1
      have e1 := set_at hr1 (2 + k) (.int .u64 ((18446744073709551615 : Nat) : Int))
      rw [cellsC_setC _ hk8, partC_step] at e1
      have e0 := keep_setCell hr0 (p := ⟨w.heap.size + 1, 2 + k, none⟩) (by simp) (.int .u64 ((18446744073709551615 : Nat) : Int))
      have ef := hfr.setCell (p := ⟨w.heap.size + 1, 2 + k, none⟩) (by simp) (.int .u64 ((18446744073709551615 : Nat) : Int))
      have E0 := Lib.hid e0
      have E1 := Lib.hid e1
      have EF := Lib.hid ef
      clear e0 e1 ef
      go_wp2
      go_roundw
      case rel => exact ⟨k + 1, by omega, by go_num, EF.out, E0.out, E1.out⟩
      case measure => simp [intOf]; omega
    · have hkn : (k : Int) = n := by omega
      have hl := ldC (P := Try.prog) hr1
      have hs := stC Try.prog hr0 (partC n k)
      go_wp2
      have e2 := row_at hr0 (cellsC (partC n k))
      refine bodyPost_ret (v := .agg (cellsC (partC n k))) (by simp [results, Try.results16, asAddr, lv41 e2]) rfl ⟨by rw [partC_end n k hkn hn h8], (hfr.row (Nat.le_refl _) _).1⟩
theorem rnew_any (n : Int) (w : World) :
    Calls Try.prog 16 #[.int .i64 n] w fun e w' => e = .returned (.agg (cellsC (newC n))) ∧ Below w.heap.size w w' := by
  by_cases h : n < 1 ∨ 8 < n
  · exact rnew_none n w h
  · exact rnew_some n w (by omega) (by omega)

theorem rnew_v {n : Int} {s : CS} (hs : newC n = s) (w : World) : Calls Try.prog 16 #[.int .i64 n] w fun e w' => e = .returned (.agg (cellsC s)) ∧ Below w.heap.size w w' := by
  rw [← hs]; exact rnew_any n w
def isSp : Sp → Bool
  | .no => false
  | _ => true
theorem findV_form (b : Nat) (sp : Sp) : ∃ (a : Int) (p : Option Addr) (u : Int), findV b sp = .tuple #[.agg #[.int .i64 a, .pointer p, .int .u64 u], .bool (isSp sp)] := by
  cases sp with
  | no => exact ⟨_, _, _, rfl⟩
  | soft h => exact ⟨_, _, _, rfl⟩
  | cmp h k => exact ⟨_, _, _, rfl⟩
  | time k => exact ⟨_, _, _, rfl⟩
set_option maxRecDepth 100000 in
set_option maxHeartbeats 2000000 in
theorem fits_any (n size : Int) (off : Nat) (w : World) (hoff : off < 18446744073709551616) :
    Calls Try.prog 18 #[.int .i64 n, .int .u64 (off : Int), .int .i64 size] w fun e w' => e = .returned (.bool (isSp (spot (newC n).n off size))) ∧ Below w.heap.size w w' := by
  have ok := OkC.new n
  obtain ⟨s, hs⟩ : ∃ s, newC n = s := ⟨_, rfl⟩
  rw [hs] at ok ⊢
  have n8 := ok.n8
  have n0 := ok.n0
  have HS := Lib.hid hs
  clear hs
  obtain ⟨q, hq⟩ : ∃ q, isSp (spot s.n off size) = q := ⟨_, rfl⟩
  rw [hq]
  have HQ := Lib.hid hq
  clear hq
  have a3 := size_cellsC
  have a4 := stn27
  go_enter Try.func18, Try.ntmps18
  go_wp2_with fail
  refine (new_v HS.out _).mono ?_
  rintro e w1 ⟨rfl, hb1⟩
  go_wp2_with fail
  refine (find_any _ s off size _ hoff n0 n8 (heap_alloc_new _ _)).mono ?_
  obtain ⟨a, p, u, hform⟩ := findV_form w1.heap.size (spot s.n off size)
  rw [hform, HQ.out]
  rintro e w2 ⟨rfl, hb2⟩
  go_wp2
  go_ret
  exact ⟨rfl, (((((Fr.refl w).step hb1).alloc _).step hb2).alloc _).1⟩
end Go.Proofs.Ytgelpapjmlbgfaa
