/- Layer 20: the document's View; StatusViews. -/
import Derived.Test.YthkkfdhgpaonjaaSvA
namespace Go.Proofs.Ythkkfdhgpaonjaa
open Go.RowKit
set_option linter.unusedSimpArgs false
set_option linter.unusedVariables false

theorem viewG_lt (x k : Nat) : viewG x k < 18446744073709551616 := W64_lt _
theorem heldk {w w' : World} {B b : Nat} {o : Obj} {w0 : World} {a0 : Addr} {v0 : Value} (hb : Below w.heap.size w w') (h : (Fr B w0 w ∧ w.heap[b]? = some o) ∧ w.cell? a0 = some v0) : (Fr B w0 w' ∧ w'.heap[b]? = some o) ∧ w'.cell? a0 = some v0 :=
  ⟨⟨h.1.1.step hb, keepB hb h.1.2⟩, hcell hb h.2⟩

set_option maxRecDepth 100000 in
set_option maxHeartbeats 4000000 in
theorem rview_any (x : Nat) (w : World) (hx : x < 18446744073709551616) :
    Calls Try.prog 49 #[.int .u64 (x : Int)] w fun e w' => e = .returned (.int .u64 (viewOf x : Nat)) ∧ Below w.heap.size w w' := by
  have HE := Lib.hid (viewG_end x hx)
  have b33 : IntB 33 := by unfold IntB; omega
  have b1 : IntB 1 := by unfold IntB; omega
  go_enter Try.func49, Try.ntmps49
  go_wp2_with fail
  obtain ⟨w1, hw1⟩ : ∃ w1, w1 = w.alloc (.cells fiveCells 9) := ⟨_, rfl⟩
  have hf : Fr w.heap.size w w1 := by rw [hw1]; exact (Fr.refl w).alloc _
  have hh : w1.heap[w.heap.size]? = some (.cells fiveCells 9) := by rw [hw1]; exact heap_alloc_new _ _
  simp only [fiveCells, five, List.map_cons, List.map_nil] at hw1
  rw [← hw1]
  clear hw1
  go_loopw [3, 5] (fun y i wr => ∃ k : Nat, k ≤ 5 ∧ i = .int .i64 k ∧ y = .int .u64 (viewG x k : Nat) ∧ Fr w.heap.size w wr ∧ wr.heap[w.heap.size]? = some (.cells fiveCells 9)) (fun _ i _ => 5 - (intOf i).toNat)
  case atStart => exact ⟨0, by omega, rfl, by rw [viewG_zero]; rfl, hf, hh⟩
  case round =>
    obtain ⟨k, hk, rfl, rfl, hfr, hhr⟩ := hrel
    by_cases hlt : k < 5
    · obtain ⟨hat, hc64, hcell⟩ := five_at k hlt
      have HV := viewG_step x k hlt
      have hcw : wr.cell? ⟨w.heap.size, k, none⟩ = some (.string (five.getD k default).1) := by rw [cell_at hhr]; exact hcell
      generalize five.getD k default = r at hat hc64 hcell HV hcw
      obtain ⟨nm, c⟩ := r
      have HAT := Lib.hid hat
      have HHV := Lib.hid HV
      clear hat HV hcell
      go_wp2_with fail
      go_region_held3 (fun w' => (Fr w.heap.size w w' ∧ w'.heap[w.heap.size]? = some (.cells fiveCells 9)) ∧ w'.cell? ⟨w.heap.size, k, none⟩ = some (.string nm))
        (first | exact heldk ‹_› ‹_› | exact ⟨⟨hfr.drew, hhr⟩, hcw⟩ | go_keep)
        (first
          | (go_at_call 93; refine (get_at hc64 HAT.out x hx _).mono ?_; rintro e w' ⟨rfl, rfl⟩)
          | (go_at_call 92; refine (put_at hc64 HAT.out (viewG x k) (viewG_lt x k) _ (x.testBit c) rfl _).mono ?_; rintro e w' ⟨rfl, hb⟩))
      rename_i w2 hS
      obtain ⟨⟨hfr2, hhr2⟩, -⟩ := hS
      go_wp2
      go_roundw
      case rel => exact ⟨k + 1, by omega, by go_num, by rw [← HHV.out], hfr2, hhr2⟩
      case measure => simp [intOf]; omega
    · obtain rfl : k = 5 := by omega
      obtain ⟨y, hy⟩ : ∃ y, bitN x 33 = y := ⟨_, rfl⟩
      have hyl : y < 18446744073709551616 := by rw [← hy]; unfold bitN; split <;> omega
      rw [hy] at HE
      have HY := Lib.hid hy
      clear hy
      go_wp2_with fail
      refine (bit_v HY.out _ hx).mono ?_
      rintro e w' ⟨rfl, rfl⟩
      go_wp2_with fail
      refine (put_any (viewG x 5) y 33 1 _ (viewG_lt x 5) hyl b33 b1).mono ?_
      rw [HE.out]
      rintro e w2 ⟨rfl, hb2⟩
      go_wp2
      go_ret
      exact ⟨rfl, (hfr.step hb2).1⟩

end Go.Proofs.Ythkkfdhgpaonjaa
