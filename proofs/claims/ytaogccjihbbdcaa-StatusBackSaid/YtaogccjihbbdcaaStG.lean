/- Layer 20: the document's View; StatusViews. -/
import Derived.Test.YtaogccjihbbdcaaStF
namespace Go.Proofs.Ytaogccjihbbdcaa
open Go.RowKit
set_option linter.unusedSimpArgs false
set_option linter.unusedVariables false

theorem viewG_lt (x k : Nat) : viewG x k < 18446744073709551616 := W64_lt _
theorem heldk {w w' : World} {B b : Nat} {o : Obj} {w0 : World} {a0 : Addr} {v0 : Value} (hb : Below w.heap.size w w') (h : (Fr B w0 w ∧ w.heap[b]? = some o) ∧ w.cell? a0 = some v0) : (Fr B w0 w' ∧ w'.heap[b]? = some o) ∧ w'.cell? a0 = some v0 :=
  ⟨⟨h.1.1.step hb, keepB hb h.1.2⟩, hcell hb h.2⟩

set_option maxRecDepth 100000 in
set_option maxHeartbeats 4000000 in
theorem rview_any (x : Nat) (w : World) (hx : x < 18446744073709551616) :
    Calls Try.prog 38 #[.int .u64 (x : Int)] w fun e w' => e = .returned (.int .u64 (viewOf x : Nat)) ∧ Below w.heap.size w w' := by
  have HE := Lib.hid (viewG_end x hx)
  have b33 : IntB 33 := by unfold IntB; omega
  have b1 : IntB 1 := by unfold IntB; omega
  go_enter Try.func38, Try.ntmps38
  go_wp2_with fail
  obtain ⟨w1, hw1⟩ : ∃ w1, w1 = w.alloc (.cells fiveCells 9) := ⟨_, rfl⟩
  have hf : Fr w.heap.size w w1 := by rw [hw1]; exact (Fr.refl w).alloc _
  have hh : w1.heap[w.heap.size]? = some (.cells fiveCells 9) := by rw [hw1]; exact heap_alloc_new _ _
  simp only [fiveCells, five, List.map_cons, List.map_nil] at hw1
  rw [← hw1]
  clear hw1
  go_loopw [3, 5] (fun y i wr => ∃ k : Nat, k ≤ 5 ∧ i = .int .i64 k ∧ y = .int .u64 (viewG x k : Nat) ∧ Fr w.heap.size w wr ∧ wr.heap[w.heap.size]? = some (.cells fiveCells 9)) (fun _ i _ => 5 - (intOf i).toNat)
  case atStart => exact ⟨0, by omega, rfl, by rw [viewG_zero]; rfl, hf, hh⟩
  case round =>
    obtain ⟨k, hk, rfl, rfl, hfr, hhr⟩ := hrel
    by_cases hlt : k < 5
    · obtain ⟨hat, hc64, hcell⟩ := five_at k hlt
      have HV := viewG_step x k hlt
      have hcw : wr.cell? ⟨w.heap.size, k, none⟩ = some (.string (five.getD k default).1) := by rw [cell_at hhr]; exact hcell
      generalize five.getD k default = r at hat hc64 hcell HV hcw
      obtain ⟨nm, c⟩ := r
      have HAT := Lib.hid hat
      have HHV := Lib.hid HV
      clear hat HV hcell
      go_wp2_with fail
      go_region_held3 (fun w' => (Fr w.heap.size w w' ∧ w'.heap[w.heap.size]? = some (.cells fiveCells 9)) ∧ w'.cell? ⟨w.heap.size, k, none⟩ = some (.string nm))
        (first | exact heldk ‹_› ‹_› | exact ⟨⟨hfr.drew, hhr⟩, hcw⟩ | go_keep)
        (first
          | (go_at_call 43; refine (get_at hc64 HAT.out x hx _).mono ?_; rintro e w' ⟨rfl, rfl⟩)
          | (go_at_call 51; refine (put_at hc64 HAT.out (viewG x k) (viewG_lt x k) _ (x.testBit c) rfl _).mono ?_; rintro e w' ⟨rfl, hb⟩))
      rename_i w2 hS
      obtain ⟨⟨hfr2, hhr2⟩, -⟩ := hS
      go_wp2
      go_roundw
      case rel => exact ⟨k + 1, by omega, by go_num, by rw [← HHV.out], hfr2, hhr2⟩
      case measure => simp [intOf]; omega
    · obtain rfl : k = 5 := by omega
      obtain ⟨y, hy⟩ : ∃ y, bitN x 33 = y := ⟨_, rfl⟩
      have hyl : y < 18446744073709551616 := by rw [← hy]; unfold bitN; split <;> omega
      rw [hy] at HE
      have HY := Lib.hid hy
      clear hy
      go_wp2_with fail
      refine (bit_v HY.out _ hx).mono ?_
      rintro e w' ⟨rfl, rfl⟩
      go_wp2_with fail
      refine (put_any (viewG x 5) y 33 1 _ (viewG_lt x 5) hyl b33 b1).mono ?_
      rw [HE.out]
      rintro e w2 ⟨rfl, hb2⟩
      go_wp2
      go_ret
      exact ⟨rfl, (hfr.step hb2).1⟩

set_option maxRecDepth 100000 in
set_option maxHeartbeats 4000000 in
theorem views_long (x v : Nat) (p t : Int) (s : ByteArray) (w : World) (hx : x < 18446744073709551616) (hv : v < 18446744073709551616) (hs : 30 < s.size) :
    Calls Try.prog 8 #[.int .u64 (x : Int), .int .u64 (v : Int), .agg #[.int .i64 p, .int .i64 t, .string s]] w fun e w' => e = .returned (.bool true) ∧ Below w.heap.size w w' := by
  go_enter Try.func8, Try.ntmps8
  go_wp2_with fail
  refine (live20 _).mono ?_
  rintro e w' ⟨rfl, rfl⟩
  go_wp2
  go_ret
  exact ⟨rfl, ((Fr.refl w).alloc _).1⟩

set_option maxRecDepth 100000 in
set_option maxHeartbeats 4000000 in
theorem views_short (x v : Nat) (p t : Int) (s : ByteArray) (w : World) (hx : x < 18446744073709551616) (hv : v < 18446744073709551616) (hs : s.size ≤ 30) :
    Calls Try.prog 8 #[.int .u64 (x : Int), .int .u64 (v : Int), .agg #[.int .i64 p, .int .i64 t, .string s]] w fun e w' => e = .returned (.bool true) ∧ Below w.heap.size w w' := by
  have hg := has_get x s.toList hx
  go_enter Try.func8, Try.ntmps8
  go_wp2_with fail
  obtain ⟨w1, hw1⟩ : ∃ w1, w1 = w.alloc (.cells #[.int .i64 p, .int .i64 t, .string s] 65) := ⟨_, rfl⟩
  have hf : Fr w.heap.size w w1 := by rw [hw1]; exact (Fr.refl w).alloc _
  have hh : w1.heap[w.heap.size]? = some (.cells #[.int .i64 p, .int .i64 t, .string s] 65) := by rw [hw1]; exact heap_alloc_new _ _
  obtain ⟨a0, a1, a2, -, -⟩ := known3 hh
  rw [← hw1]
  clear hw1 hh
  go_region_held3 (fun w' => Fr w.heap.size w w' ∧ w'.cell? ⟨w.heap.size, 0, none⟩ = some (.int .i64 p) ∧ w'.cell? ⟨w.heap.size, 1, none⟩ = some (.int .i64 t) ∧ w'.cell? ⟨w.heap.size, 2, none⟩ = some (.string s))
    (first | exact held3 ‹_› ‹_› | exact ⟨hf.drew, a0, a1, a2⟩ | go_keep)
    (first
      | (go_at_call 37; refine (view_any x _ hx).mono ?_; rintro e w' ⟨rfl, hb⟩)
      | (go_at_call 38; refine (rview_any x _ hx).mono ?_; rintro e w' ⟨rfl, hb⟩)
      | (go_at_call 36; refine (lay_any x v _ hx hv).mono ?_; rintro e w' ⟨rfl, hb⟩)
      | (go_at_call 39; refine (rlay_any x v _ hx hv).mono ?_; rintro e w' ⟨rfl, hb⟩)
      | (go_at_call 40; refine (data_any x p _ hx).mono ?_; rintro e w' ⟨rfl, rfl⟩)
      | (go_at_call 41; refine (rdata_any x p _ hx).mono ?_; rintro e w' ⟨rfl, hb⟩))
  rename_i w2 hS
  obtain ⟨hf, a0, a1, a2⟩ := hS
  go_wp2_with fail
  go_region_held3 (fun w' => Fr w.heap.size w w' ∧ w'.cell? ⟨w.heap.size, 0, none⟩ = some (.int .i64 p) ∧ w'.cell? ⟨w.heap.size, 1, none⟩ = some (.int .i64 t) ∧ w'.cell? ⟨w.heap.size, 2, none⟩ = some (.string s))
    (first | exact held3 ‹_› ‹_› | exact ⟨hf.drew, a0, a1, a2⟩ | go_keep)
    (first
      | (go_at_call 34; refine (lets_any x p t _ hx).mono ?_; rintro e w' ⟨rfl, rfl⟩)
      | (go_at_call 42; refine (rlets_any x p t _ hx).mono ?_; rintro e w' ⟨rfl, rfl⟩)
      | (go_at_call 35; refine (has_any x s _ hx).mono ?_; rintro e w' ⟨rfl, rfl⟩)
      | (go_at_call 43; refine (get_gen x s _ hx).mono ?_; rintro e w' ⟨rfl, rfl⟩)
      | (go_at_call 24; refine (live20 _).mono ?_; rintro e w' ⟨rfl, rfl⟩))
  rename_i w3 hS
  go_wp2
  go_ret
  exact ⟨rfl, hS.1.1⟩

theorem statusViews_walk (x v : Nat) (p t : Int) (s : ByteArray) (w : World) (hx : x < 18446744073709551616) (hv : v < 18446744073709551616) :
    Calls Try.prog 8 #[.int .u64 (x : Int), .int .u64 (v : Int), .agg #[.int .i64 p, .int .i64 t, .string s]] w fun e w' => e = .returned (.bool true) ∧ Below w.heap.size w w' := by
  by_cases h : s.size ≤ 30
  · exact views_short x v p t s w hx hv h
  · exact views_long x v p t s w hx hv (by omega)
end Go.Proofs.Ytaogccjihbbdcaa
