/- The chapter's example of the clint; ClintNone. -/
import Derived.Test.YtgelpapjmlbgfaaClE
import Derived.KernelRfl
namespace Go.Proofs.Ytgelpapjmlbgfaa
open Go.RowKit
set_option linter.unusedSimpArgs false
set_option linter.unusedVariables false
attribute [local simp high] size27 zero27

theorem OkC.zero : OkC zeroC := ⟨by decide, by decide, by decide, fun i => by show 0 < _; omega⟩
theorem OkC.new (n : Int) : OkC (newC n) := by
  unfold newC
  split
  · exact OkC.zero
  · refine ⟨by show 0 ≤ n; omega, by show n ≤ 8; omega, by show 0 < _; omega, fun i => ?_⟩
    show (if (i : Int) < n then 18446744073709551615 else 0) < _
    split <;> omega
theorem spot0 (off : Nat) (size : Int) : spot zeroC.n off size = .no := by
  show spot 0 off size = .no
  unfold spot
  rw [if_neg (by omega)]
  split
  · rw [if_neg (by omega), if_neg (by omega)]
  · rfl
theorem heldB {w w' : World} {B : Nat} {w0 : World} {b : Nat} {o : Obj} (hb : Below w.heap.size w w') (h : Fr B w0 w ∧ w.heap[b]? = some o) : Fr B w0 w' ∧ w'.heap[b]? = some o := ⟨h.1.step hb, keepB hb h.2⟩
theorem new_v {n : Int} {s : CS} (hs : newC n = s) (w : World) : Calls Try.prog 14 #[.int .i64 n] w fun e w' => e = .returned (.agg (cellsC s)) ∧ Below w.heap.size w w' := by
  rw [← hs]; exact new_any n w
theorem read_v {b : Nat} {s : CS} {off : Nat} {size : Int} {x : Nat} {q : Bool} (hr : readOf s (spot s.n off size) = (x, q)) (w : World) (hoff : off < 18446744073709551616) (ok : OkC s)
    (h : w.heap[b]? = some (.cells (cellsC s) 27)) :
    Calls Try.prog 9 #[.pointer (some ⟨b, 0, none⟩), .int .u64 (off : Int), .int .i64 size] w fun e w' => e = .returned (.tuple #[.int .u64 (x : Int), .bool q]) ∧ Below w.heap.size w w' := by
  have := read_any b s off size w hoff ok h
  rw [hr] at this
  exact this
theorem write_v {b : Nat} {s s' : CS} {off : Nat} {size : Int} {v : Nat} {q : Bool} (hr : writeOf s v (spot s.n off size) = (s', q)) (w : World) (hoff : off < 18446744073709551616) (hv : v < 18446744073709551616) (ok : OkC s)
    (h : w.heap[b]? = some (.cells (cellsC s) 27)) :
    Calls Try.prog 10 #[.pointer (some ⟨b, 0, none⟩), .int .u64 (off : Int), .int .i64 size, .int .u64 (v : Int)] w fun e w' => e = .returned (.bool q) ∧ w'.heap[b]? = some (.cells (cellsC s') 27) ∧ Wrote b w w' := by
  have := write_any b s off size v w hoff hv ok h
  rw [hr] at this
  exact this
theorem tick_v {b : Nat} {s s' : CS} {n : Int} (hs : tickOf s n = s') (w : World) (hn : n ≤ 9223372036854775807) (ok : OkC s)
    (h : w.heap[b]? = some (.cells (cellsC s) 27)) :
    Calls Try.prog 13 #[.pointer (some ⟨b, 0, none⟩), .int .i64 n] w fun e w' => (∃ v, e = .returned v) ∧ w'.heap[b]? = some (.cells (cellsC s') 27) ∧ Wrote b w w' := by
  rw [← hs]; exact tick_any b s n w hn ok h
theorem lines_v {b : Nat} {s : CS} {i : Int} {x : Nat} (hx : linesOf s i = x) (w : World) (ok : OkC s)
    (h : w.heap[b]? = some (.cells (cellsC s) 27)) :
    Calls Try.prog 12 #[.pointer (some ⟨b, 0, none⟩), .int .i64 i] w fun e w' => e = .returned (.int .u64 (x : Int)) ∧ Below w.heap.size w w' := by
  rw [← hx]; exact lines_any b s i w ok h

set_option maxRecDepth 100000 in
set_option maxHeartbeats 2000000 in
theorem live15_any (w : World) : Calls Try.prog 15 #[] w fun e w' => e = .returned (.bool true) ∧ Below w.heap.size w w' := by
  obtain ⟨s1, q1, h1⟩ : ∃ s1 q1, writeOf (newC 2) 5 (spot (newC 2).n 16392 8) = (s1, q1) := ⟨_, _, rfl⟩
  obtain ⟨s2, h2⟩ : ∃ s2, tickOf s1 5 = s2 := ⟨_, rfl⟩
  obtain ⟨s3, q3, h3⟩ : ∃ s3 q3, writeOf s2 3 (spot s2.n 4 4) = (s3, q3) := ⟨_, _, rfl⟩
  have o0 := OkC.new 2
  have o1 : OkC s1 := by have := o0.write 5 (by omega) (spot (newC 2).n 16392 8); rw [h1] at this; exact this
  have o2 : OkC s2 := by rw [← h2]; exact o1.tick 5
  have o3 : OkC s3 := by have := o2.write 3 (by omega) (spot s2.n 4 4); rw [h3] at this; exact this
  have e1 : q1 = true := by have : (writeOf (newC 2) 5 (spot (newC 2).n 16392 8)).2 = q1 := by rw [h1]
                            rw [← this]; decide +kernel
  have es1 : s1 = (writeOf (newC 2) 5 (spot (newC 2).n 16392 8)).1 := by rw [h1]
  have es3 : s3 = (writeOf s2 3 (spot s2.n 4 4)).1 := by rw [h3]
  have e3 : q3 = true := by have : (writeOf s2 3 (spot s2.n 4 4)).2 = q3 := by rw [h3]
                            rw [← this, ← h2, es1]; decide +kernel
  have r3 : readOf s3 (spot s3.n 4 4) = (1, true) := by rw [es3, ← h2, es1]; decide +kernel
  have l1 : linesOf s3 1 = 136 := by rw [es3, ← h2, es1]; decide +kernel
  have l0 : linesOf s3 0 = 0 := by rw [es3, ← h2, es1]; decide +kernel
  subst e1 e3
  have H1 := Lib.hid h1
  have H2 := Lib.hid h2
  have H3 := Lib.hid h3
  have R3 := Lib.hid r3
  have L1 := Lib.hid l1
  have L0 := Lib.hid l0
  clear h1 h2 h3 r3 l1 l0 es1 es3
  have a1 := zero27
  have a2 := size27
  have a3 := size_cellsC
  have a4 := stn27
  go_enter Try.func15, Try.ntmps15
  go_wp2_with fail
  refine (new_v rfl _).mono ?_
  rintro e w1 ⟨rfl, hb1⟩
  generalize hz : newC 2 = s0 at *
  go_wp2_with fail
  refine (write_v H1.out _ (by omega) (by omega) o0 (heap_alloc_new _ _)).mono ?_
  rintro e w2 ⟨rfl, k2, t2⟩
  have hC := t2.1 _ _ hb1.size (((Fr.refl w).step hb1).alloc _)
  go_wp2_with fail
  refine (tick_v H2.out _ (by omega) o1 k2).mono ?_
  rintro e w3 ⟨⟨v3, rfl⟩, k3, t3⟩
  have hC := t3.1 _ _ hb1.size hC
  go_wp2_with fail
  refine (write_v H3.out _ (by omega) (by omega) o2 k3).mono ?_
  rintro e w4 ⟨rfl, k4, t4⟩
  have hC := t4.1 _ _ hb1.size hC
  go_wp2_with fail
  refine (read_v R3.out _ (by omega) o3 k4).mono ?_
  rintro e w5 ⟨rfl, b5⟩
  have k5 := keepB b5 k4
  go_wp2_with fail
  refine (lines_v L1.out _ o3 k5).mono ?_
  rintro e w6 ⟨rfl, b6⟩
  have k6 := keepB b6 k5
  go_wp2_with fail
  refine (lines_v L0.out _ o3 k6).mono ?_
  rintro e w7 ⟨rfl, b7⟩
  go_wp2
  go_ret
  exact ⟨rfl, (((hC.step b5).step b6).step b7).1⟩
theorem eqC0 (w : World) : (binOp BinOp.eql 27 (.agg (cellsC zeroC)) (.agg (cellsC zeroC))).run Try.prog w = .ok (.bool true) w := by kernel_rfl
end Go.Proofs.Ytgelpapjmlbgfaa
