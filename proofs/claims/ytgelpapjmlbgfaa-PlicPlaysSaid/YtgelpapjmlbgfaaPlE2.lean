/- plic's Line. -/
import Derived.Test.YtgelpapjmlbgfaaPlE
import Derived.Test.YtgelpapjmlbgfaaWrote
import Derived.Deep.RegionWith
namespace Go.Proofs.Ytgelpapjmlbgfaa
open Go.RowKit
set_option linter.unusedSimpArgs false
set_option linter.unusedVariables false
attribute [local simp high] zeroPv sizePv

set_option maxRecDepth 100000 in
set_option maxHeartbeats 4000000 in
theorem line_out (b : Nat) (s : PS) (c : Int) (w : World) (ok : OkP s) (hc : c < 0 ∨ 2 * s.n ≤ c) (h : w.heap[b]? = some (.cells (cellsP s) 60)) :
    Calls Try.prog 35 #[.pointer (some ⟨b, 0, none⟩), .int .i64 c] w fun e w' => e = .returned (.bool (lineP s c)) ∧ Below w.heap.size w w' := by
  have HL : Hid (lineP s c = false) := by
    show _ = _
    unfold lineP
    by_cases h0 : 0 ≤ c
    · have : ¬ c < 2 * s.n := by omega
      simp [this]
    · simp [h0]
  have n0 := ok.n0
  have n8 := ok.n8
  obtain ⟨c0, c1, c2, c3, cl, cf⟩ := knownP h
  obtain ⟨k, hk⟩ : ∃ k : Nat, s.n = (k : Int) := ⟨s.n.toNat, by omega⟩
  rw [hk] at c0 hc n0 n8
  have hk8 : k ≤ 8 := by omega
  rcases hc with hc | hc
  · go_enter Try.func35, Try.ntmps35
    go_wp2
    go_ret
    exact ⟨by rw [HL.out]; rfl, (Fr.refl w).1⟩
  · have hc0 : 0 ≤ c := by omega
    go_enter Try.func35, Try.ntmps35
    go_wp2
    go_ret
    exact ⟨by rw [HL.out]; rfl, (Fr.refl w).1⟩
set_option maxRecDepth 100000 in
set_option maxHeartbeats 4000000 in
theorem line_in (b : Nat) (s : PS) (i : Nat) (w : World) (ok : OkP s) (hc : (i : Int) < 2 * s.n) (h : w.heap[b]? = some (.cells (cellsP s) 60)) :
    Calls Try.prog 35 #[.pointer (some ⟨b, 0, none⟩), .int .i64 (i : Int)] w fun e w' => e = .returned (.bool (lineP s (i : Int))) ∧ Below w.heap.size w w' := by
  obtain ⟨r, hr⟩ : ∃ r, bestP s i (s.lv i) = r := ⟨_, rfl⟩
  have HL : Hid (lineP s (i : Int) = decide (0 < r)) := by
    show _ = _
    unfold lineP
    rw [Int.toNat_natCast, hr]
    simp [hc]
  have n0 := ok.n0
  have n8 := ok.n8
  have HR : Hid (bestU (fun j => s.wa j && s.on i j) s.pr (s.lv i) 31 = r) := hr
  have hl := ok.lv i
  obtain ⟨c0, c1, c2, c3, cl, cf⟩ := knownP h
  have hi16 : i < 16 := by omega
  have co := knownPon h hi16
  have cv := knownPlv h hi16
  obtain ⟨k, hk⟩ : ∃ k : Nat, s.n = (k : Int) := ⟨s.n.toNat, by omega⟩
  rw [hk] at c0 hc n0 n8
  have hk8 : k ≤ 8 := by omega
  have hi0 : (0 : Int) ≤ i := by omega
  have hi16' : (i : Int) < 16 := by omega
  have HA := Lib.hid (and_W32 s.wa (s.on i))
  have HLV := Lib.hid (show s.lv i < 256 by omega)
  obtain ⟨l, hll⟩ : ∃ l, s.lv i = l := ⟨_, rfl⟩
  rw [hll] at cv hl HLV HR
  clear hr hll
  by_cases h0 : 0 < r
  all_goals
    go_enter Try.func35, Try.ntmps35
    go_wp2_with fail
    go_quiet ((go_at_call 42; rw [HA.out]; exact Calls.quiet_of (best_v HR.out _ ok HLV.out (by exact h))))
    go_wp2
    go_ret
    exact ⟨by rw [HL.out]; simp [h0], ((Fr.refl w).drewN _).1⟩
theorem line_any (b : Nat) (s : PS) (c : Int) (w : World) (ok : OkP s) (h : w.heap[b]? = some (.cells (cellsP s) 60)) :
    Calls Try.prog 35 #[.pointer (some ⟨b, 0, none⟩), .int .i64 c] w fun e w' => e = .returned (.bool (lineP s c)) ∧ Below w.heap.size w w' := by
  by_cases hc : c < 0 ∨ 2 * s.n ≤ c
  · exact line_out b s c w ok hc h
  · obtain ⟨i, rfl⟩ := Int.eq_ofNat_of_zero_le (by omega : 0 ≤ c)
    exact line_in b s i w ok (by omega) h

end Go.Proofs.Ytgelpapjmlbgfaa
