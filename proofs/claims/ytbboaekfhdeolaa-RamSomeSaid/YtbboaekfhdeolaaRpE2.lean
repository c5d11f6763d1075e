/- The document's SetLine. -/
import Derived.Test.YtbboaekfhdeolaaRpE
namespace Go.Proofs.Ytbboaekfhdeolaa
open Go.RowKit
set_option linter.unusedSimpArgs false
set_option linter.unusedVariables false
attribute [local simp high] sizeLL zeroLL sizeLR zeroLR

set_option maxRecDepth 100000 in
set_option maxHeartbeats 4000000 in
theorem rset_yes (c cap L i : Nat) (x l : Nat → Nat) (w : World) (hi : i < L) (hL : L ≤ 4096) (hX : XB w c (64 * L) x) :
    Calls Try.prog 54 #[.agg #[.slice (some ⟨c, 0, none⟩) (64 * L) cap], .int .i64 (i : Int), .agg (cellsL l)] w fun e w' => e = .returned (.bool true) ∧ Wrote c w w' ∧ XB w' c (64 * L) (fillL x (64 * i) l 64) := by
  obtain ⟨T, hT⟩ : ∃ T, 64 * L = T := ⟨_, rfl⟩
  have hTi : (T : Int).tdiv 64 = (L : Int) := by rw [Int.tdiv_eq_ediv_of_nonneg (by omega)]; omega
  have hiT : 64 * i + 64 ≤ T := by omega
  have hT1 : (T : Int) ≤ 262144 := by omega
  rw [hT] at hX ⊢
  have d1 : decide ((i : Int) < 0) = false := by simp
  have d2 : decide ((L : Int) ≤ (i : Int)) = false := by simp; omega
  have hwm : IntKind.i64.wrap (64 * (i : Int)) = 64 * (i : Int) := by rw [IntKind.wrap_i64]; omega
  have hwL : IntKind.i64.wrap (L : Int) = (L : Int) := by rw [IntKind.wrap_i64]; omega
  have hcl := hX.1
  have hc1 : w.heap.size ≠ c := by omega
  have hc2 : w.heap.size + 1 ≠ c := by omega
  clear hT
  go_enter Try.func54, Try.ntmps54
  go_wp2
  obtain ⟨w1, hw1⟩ : ∃ w1, w1 = (w.alloc (.cells #[.slice (some ⟨c, 0, none⟩) T cap] 66)).alloc (.cells (cellsL l) 25) := ⟨_, rfl⟩
  have F0 : Fr w.heap.size w w1 := by rw [hw1]; exact ((Fr.refl w).alloc _).alloc _
  have b0 : w1.heap[w.heap.size]? = some (.cells #[.slice (some ⟨c, 0, none⟩) T cap] 66) := by rw [hw1]; exact keep_alloc (heap_alloc_new _ _) _
  have r0 : w1.heap[w.heap.size + 1]? = some (.cells (cellsL l) 25) := by rw [hw1]; simpa using heap_alloc_new (w.alloc (.cells #[.slice (some ⟨c, 0, none⟩) T cap] 66)) (.cells (cellsL l) 25)
  have hX1 := hX.keep F0.1
  rw [← hw1]
  clear hw1 hX
  go_loopw [7] (fun u wr => ∃ k : Nat, k ≤ 64 ∧ u = .int .i64 (k : Int) ∧ Wrote c w1 wr ∧ XB wr c T (fillL x (64 * i) l k))
    (fun u _ => 64 - (intOf u).toNat)
  case atStart => exact ⟨0, by omega, rfl, Wrote.refl _ _, by rw [fillL_zero]; exact hX1⟩
  case round =>
    obtain ⟨k, hk, rfl, hW, hXk⟩ := hrel
    have cB : wr.cell? ⟨w.heap.size, 0, none⟩ = some (.slice (some ⟨c, 0, none⟩) T cap) := by rw [cell_at (hW.2 _ _ hc1 b0)]; rfl
    by_cases hlt : k < 64
    · have hj0 : (0 : Int) ≤ k := by omega
      have cl := knownL (hW.2 _ _ hc2 r0) hlt
      obtain ⟨cx, fx⟩ := hXk.2 (64 * i + k) (by omega)
      have htn : (64 * (i : Int) + (k : Int)).toNat = 64 * i + k := by omega
      have hij0 : (0 : Int) ≤ 64 * (i : Int) + k := by omega
      have hij1 : 64 * (i : Int) + k < T := by omega
      have hlt' : (k : Int) < 64 := by omega
      have hwf : IntKind.i64.wrap (64 * (i : Int) + (k : Int)) = 64 * (i : Int) + (k : Int) := by rw [IntKind.wrap_i64]; omega
      have e1 := hXk.set (i := 64 * i + k) (by omega) (l k)
      rw [fillL_step] at e1
      obtain ⟨z, hz⟩ : ∃ z, l k = z := ⟨_, rfl⟩
      rw [hz] at e1 cl
      have E := Lib.hid (And.intro (hW.set (64 * i + k) (.int .u8 (z : Int))).drew (e1.keep (Fr.refl _).drew.1))
      clear e1 hW hXk hz b0 r0 hX1 F0
      go_wp2
      go_region
      go_wp2
      exact ⟨⟨k + 1, by omega, by go_num, E.out⟩, by simp [intOf]; omega⟩
    · have e : k = 64 := by omega
      subst e
      have E := Lib.hid (And.intro hW hXk)
      have FF := Lib.hid F0
      clear hW hXk hX1 b0 r0 F0
      go_wp2
      go_ret
      exact ⟨rfl, (below_wrote FF.out.1).trans E.out.1, E.out.2⟩
set_option maxRecDepth 100000 in
set_option maxHeartbeats 4000000 in
theorem rset_no (c cap L : Nat) (i : Int) (l : Nat → Nat) (w : World) (hi : ¬ (0 ≤ i ∧ i < L)) (hL : L ≤ 4096) :
    Calls Try.prog 54 #[.agg #[.slice (some ⟨c, 0, none⟩) (64 * L) cap], .int .i64 i, .agg (cellsL l)] w fun e w' => e = .returned (.bool false) ∧ Below w.heap.size w w' := by
  obtain ⟨T, hT⟩ : ∃ T, 64 * L = T := ⟨_, rfl⟩
  have hTi : (T : Int).tdiv 64 = (L : Int) := by rw [Int.tdiv_eq_ediv_of_nonneg (by omega)]; omega
  have hT1 : (T : Int) ≤ 262144 := by omega
  rw [hT]
  have hwL : IntKind.i64.wrap (L : Int) = (L : Int) := by rw [IntKind.wrap_i64]; omega
  clear hT
  by_cases h0 : i < 0
  · have d1 : decide (i < 0) = true := by simp; omega
    clear hi
    go_enter Try.func54, Try.ntmps54
    go_wp2
    go_ret
    exact ⟨rfl, (((Fr.refl w).alloc _).alloc _).1⟩
  · have d1 : decide (i < 0) = false := by simp; omega
    have d2 : decide ((L : Int) ≤ i) = true := by simp; omega
    clear hi
    go_enter Try.func54, Try.ntmps54
    go_wp2
    go_ret
    exact ⟨rfl, (((Fr.refl w).alloc _).alloc _).1⟩
/-- Setting a line: what is kept, and whether it is done. -/
def setR (g : Nat → Nat → Nat) (L : Nat) (i : Int) (l : Nat → Nat) : (Nat → Nat → Nat) × Bool :=
  if 0 ≤ i ∧ i < L then (updG g i.toNat l, true) else (g, false)
theorem fl_updG (g : Nat → Nat → Nat) (i : Nat) (l : Nat → Nat) : fl (updG g i l) = fillL (fl g) (64 * i) l 64 := by
  funext p
  show updG g i l (p / 64) (p % 64) = _
  unfold updG fillL
  by_cases e : p / 64 = i
  · rw [if_pos e, if_pos (by omega), show p % 64 = p - 64 * i from by omega]
  · rw [if_neg e, if_neg (by omega)]; rfl
theorem rset_any (c cap L : Nat) (g : Nat → Nat → Nat) (i : Int) (l : Nat → Nat) (w : World) (hL : L ≤ 4096) (hX : XB w c (64 * L) (fl g)) :
    Calls Try.prog 54 #[.agg #[.slice (some ⟨c, 0, none⟩) (64 * L) cap], .int .i64 i, .agg (cellsL l)] w fun e w' => e = .returned (.bool (setR g L i l).2) ∧ Wrote c w w' ∧ XB w' c (64 * L) (fl (setR g L i l).1) := by
  unfold setR
  split
  · rename_i hq
    obtain ⟨I, rfl⟩ : ∃ I : Nat, i = I := ⟨i.toNat, by omega⟩
    rw [Int.toNat_natCast]
    show Calls _ _ _ _ fun e w' => e = .returned (.bool true) ∧ Wrote c w w' ∧ XB w' c (64 * L) (fl (updG g I l))
    rw [fl_updG]
    exact rset_yes c cap L I (fl g) l w (by omega) hL hX
  · rename_i hq
    exact (rset_no c cap L i l w hq hL).mono fun e w' h => ⟨h.1, below_wrote h.2, hX.keep h.2⟩
end Go.Proofs.Ytbboaekfhdeolaa
