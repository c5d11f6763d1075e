/- The document's Line and SetLine. -/
import Derived.Test.YtbboaekfhdeolaaRpD
namespace Go.Proofs.Ytbboaekfhdeolaa
open Go.RowKit
set_option linter.unusedSimpArgs false
set_option linter.unusedVariables false
attribute [local simp high] sizeLL zeroLL sizeLR zeroLR

/-- The first k bytes of line i. -/
def partL (x : Nat → Nat) (i k : Nat) : Nat → Nat := fun p => if p < k then x (64 * i + p) else 0
theorem partL_zero (x : Nat → Nat) (i : Nat) : partL x i 0 = fun _ => 0 := by
  funext p; unfold partL; rw [if_neg (by omega)]
theorem partL_step (x : Nat → Nat) (i k : Nat) : updL (partL x i k) k (x (64 * i + k)) = partL x i (k + 1) := by
  funext p
  unfold updL partL
  by_cases e : p = k
  · subst e; rw [if_pos rfl, if_pos (by omega)]
  · rw [if_neg e]
    by_cases h : p < k
    · rw [if_pos h, if_pos (by omega)]
    · rw [if_neg h, if_neg (by omega)]
theorem partL_end (g : Nat → Nat → Nat) (i : Nat) : cellsL (partL (fl g) i 64) = cellsL (g i) := by
  refine cellsL_ext fun j hj => ?_
  unfold partL
  rw [if_pos hj, fl_at _ _ _ hj]
set_option maxRecDepth 100000 in
set_option maxHeartbeats 4000000 in
theorem rline_yes (c cap L i : Nat) (x : Nat → Nat) (w : World) (hi : i < L) (hL : L ≤ 4096) (hX : XB w c (64 * L) x) :
    Calls Try.prog 43 #[.agg #[.slice (some ⟨c, 0, none⟩) (64 * L) cap], .int .i64 (i : Int)] w fun e w' => e = .returned (.agg (cellsL (partL x i 64))) ∧ Below w.heap.size w w' := by
  obtain ⟨T, hT⟩ : ∃ T, 64 * L = T := ⟨_, rfl⟩
  have hTi : (T : Int).tdiv 64 = (L : Int) := by rw [Int.tdiv_eq_ediv_of_nonneg (by omega)]; omega
  have hiT : 64 * i + 64 ≤ T := by omega
  have hT1 : (T : Int) ≤ 262144 := by omega
  rw [hT] at hX ⊢
  have d1 : decide ((i : Int) < 0) = false := by simp
  have d2 : decide ((L : Int) ≤ (i : Int)) = false := by simp; omega
  have hwm : IntKind.i64.wrap (64 * (i : Int)) = 64 * (i : Int) := by rw [IntKind.wrap_i64]; omega
  have hwL : IntKind.i64.wrap (L : Int) = (L : Int) := by rw [IntKind.wrap_i64]; omega
  have hcl := hX.1
  clear hT
  go_enter Try.func43, Try.ntmps43
  go_wp2
  obtain ⟨w1, hw1⟩ : ∃ w1, w1 = ((w.alloc (.cells #[.slice (some ⟨c, 0, none⟩) T cap] 66)).alloc (.cells (cellsL fun _ => 0) 25)).alloc (.cells (cellsL fun _ => 0) 25) := ⟨_, rfl⟩
  have F0 : Fr w.heap.size w w1 := by rw [hw1]; exact (((Fr.refl w).alloc _).alloc _).alloc _
  have b0 : w1.heap[w.heap.size]? = some (.cells #[.slice (some ⟨c, 0, none⟩) T cap] 66) := by rw [hw1]; exact keep_alloc (keep_alloc (heap_alloc_new _ _) _) _
  have r0 : w1.heap[w.heap.size + 1]? = some (.cells (cellsL fun _ => 0) 25) := by rw [hw1]; exact keep_alloc (by simpa using heap_alloc_new (w.alloc (.cells #[.slice (some ⟨c, 0, none⟩) T cap] 66)) (.cells (cellsL fun _ => 0) 25)) _
  have l0 : w1.heap[w.heap.size + 1 + 1]? = some (.cells (cellsL (partL x i 0)) 25) := by rw [hw1, partL_zero]; simpa using heap_alloc_new ((w.alloc (.cells #[.slice (some ⟨c, 0, none⟩) T cap] 66)).alloc (.cells (cellsL fun _ => 0) 25)) (.cells (cellsL fun _ => 0) 25)
  rw [← hw1]
  clear hw1
  go_loopw [6] (fun u wr => ∃ k : Nat, k ≤ 64 ∧ u = .int .i64 (k : Int) ∧ Fr w.heap.size w wr ∧ wr.heap[w.heap.size]? = some (.cells #[.slice (some ⟨c, 0, none⟩) T cap] 66) ∧ wr.heap[w.heap.size + 1]? = some (.cells (cellsL fun _ => 0) 25) ∧ wr.heap[w.heap.size + 1 + 1]? = some (.cells (cellsL (partL x i k)) 25))
    (fun u _ => 64 - (intOf u).toNat)
  case atStart => exact ⟨0, by omega, rfl, F0, b0, r0, l0⟩
  case round =>
    clear F0 b0 r0 l0
    obtain ⟨k, hk, rfl, hF, hB, hR, hl⟩ := hrel
    have cB : wr.cell? ⟨w.heap.size, 0, none⟩ = some (.slice (some ⟨c, 0, none⟩) T cap) := by rw [cell_at hB]; rfl
    by_cases hlt : k < 64
    · have hj0 : (0 : Int) ≤ k := by omega
      have cx := ((hX.keep hF.1).2 (64 * i + k) (by omega)).1
      have htn : (64 * (i : Int) + (k : Int)).toNat = 64 * i + k := by omega
      have hij0 : (0 : Int) ≤ 64 * (i : Int) + k := by omega
      have hij1 : 64 * (i : Int) + k < T := by omega
      have hlt' : (k : Int) < 64 := by omega
      have hwf : IntKind.i64.wrap (64 * (i : Int) + (k : Int)) = 64 * (i : Int) + (k : Int) := by rw [IntKind.wrap_i64]; omega
      have cl := knownL hl hlt
      have hfz : ∀ o, wr.frozen? ⟨w.heap.size + 1 + 1, o, none⟩ = false := fun o => by simp [World.frozen?, hl]
      have e1 := setL hl hlt (x (64 * i + k))
      rw [partL_step] at e1
      obtain ⟨z, hz⟩ : ∃ z, x (64 * i + k) = z := ⟨_, rfl⟩
      rw [hz] at e1 cx
      have E := Lib.hid (And.intro (hF.setCell (p := ⟨w.heap.size + 1 + 1, k, none⟩) (by simp <;> omega) (.int .u8 (z : Int))) (And.intro (keep_setCell hB (p := ⟨w.heap.size + 1 + 1, k, none⟩) (by simp <;> omega) (.int .u8 (z : Int))) (And.intro (keep_setCell hR (p := ⟨w.heap.size + 1 + 1, k, none⟩) (by simp <;> omega) (.int .u8 (z : Int))) e1)))
      clear e1 hF hB hR hl hz hX
      go_wp2
      go_roundw
      case rel => exact ⟨k + 1, by omega, by go_num, E.out⟩
      case measure => simp [intOf]; omega
    · have e : k = 64 := by omega
      subst e
      have ld := ld_rowL (P := Try.prog) hl
      have st := st_rowL Try.prog hR (partL x i 64)
      have e0 := row_at hR (cellsL (partL x i 64))
      have F1 := Lib.hid (hF.row (b := w.heap.size + 1) (Nat.le_succ _) (cellsL (partL x i 64)))
      have E0 := Lib.hid (lvLR e0)
      clear hX hF hB hl e0
      go_wp2
      exact bodyPost_ret (v := .agg (cellsL (partL x i 64))) (by simp [results, Try.results43, asAddr, E0.out]) rfl ⟨rfl, F1.out.1⟩
end Go.Proofs.Ytbboaekfhdeolaa
