/- The chapter's example of the plic. -/
import Derived.Test.YtgelpapjmlbgfaaPlE2
import Derived.Test.YtgelpapjmlbgfaaPlG
namespace Go.Proofs.Ytgelpapjmlbgfaa
open Go.RowKit
set_option linter.unusedSimpArgs false
set_option linter.unusedVariables false
attribute [local simp high] zeroPv sizePv

theorem pnew_v {n : Int} {s : PS} (hs : newP n = s) (w : World) : Calls Try.prog 24 #[.int .i64 n] w fun e w' => e = .returned (.agg (cellsP s)) ∧ Below w.heap.size w w' := by
  rw [← hs]; exact pnew_any n w
theorem wire_v {b : Nat} {s s' : PS} {i : Int} {on q : Bool} (hr : wireP s i on = (s', q)) (w : World) (ok : OkP s) (h : w.heap[b]? = some (.cells (cellsP s) 60)) :
    Calls Try.prog 29 #[.pointer (some ⟨b, 0, none⟩), .int .i64 i, .bool on] w fun e w' => e = .returned (.bool q) ∧ w'.heap[b]? = some (.cells (cellsP s') 60) ∧ Wrote b w w' := by
  have := wire_any b s i on w ok h
  rw [hr] at this
  exact this
theorem line_v {b : Nat} {s : PS} {c : Int} {q : Bool} (hr : lineP s c = q) (w : World) (ok : OkP s) (h : w.heap[b]? = some (.cells (cellsP s) 60)) :
    Calls Try.prog 35 #[.pointer (some ⟨b, 0, none⟩), .int .i64 c] w fun e w' => e = .returned (.bool q) ∧ Below w.heap.size w w' := by
  rw [← hr]; exact line_any b s c w ok h
theorem waits_v {b : Nat} {s : PS} {x : Nat} (hr : W32 s.wa = x) (w : World) (h : w.heap[b]? = some (.cells (cellsP s) 60)) :
    Calls Try.prog 30 #[.pointer (some ⟨b, 0, none⟩)] w fun e w' => e = .returned (.int .u64 (x : Int)) ∧ Below w.heap.size w w' := by
  rw [← hr]; exact waits_any b s w h
theorem served_v {b : Nat} {s : PS} {x : Nat} (hr : W32 s.se = x) (w : World) (h : w.heap[b]? = some (.cells (cellsP s) 60)) :
    Calls Try.prog 25 #[.pointer (some ⟨b, 0, none⟩)] w fun e w' => e = .returned (.int .u64 (x : Int)) ∧ Below w.heap.size w w' := by
  rw [← hr]; exact served_any b s w h

theorem pairP {s : PS × Bool} {q : Bool} (h : s.2 = q) : s = (s.1, q) := by rw [← h]
theorem tripP {s : PS × Nat × Bool} {x : Nat} {q : Bool} (h1 : s.2.1 = x) (h : s.2.2 = q) : s = (s.1, x, q) := by rw [← h1, ← h]
def t0 : PS := newP 1
def t1 : PS := (writeP t0 3 (spotP t0.n 40 4)).1
def t2 : PS := (writeP t1 1024 (spotP t1.n 8320 4)).1
def t3 : PS := (wireP t2 10 true).1
def t4 : PS := (readP t3 (spotP t3.n 2101252 4)).1
def t5 : PS := (readP t4 (spotP t4.n 2101252 4)).1
def t6 : PS := (wireP t5 10 false).1
def t7 : PS := (writeP t6 10 (spotP t6.n 2101252 4)).1
set_option maxRecDepth 100000 in
theorem live_facts : (writeP t0 3 (spotP t0.n 40 4)).2 = true ∧ (writeP t1 1024 (spotP t1.n 8320 4)).2 = true ∧ (wireP t2 10 true).2 = true ∧ lineP t3 1 = true ∧ (readP t3 (spotP t3.n 2101252 4)).2.1 = 10 ∧ (readP t3 (spotP t3.n 2101252 4)).2.2 = true ∧
    (readP t4 (spotP t4.n 2101252 4)).2.1 = 0 ∧ (readP t4 (spotP t4.n 2101252 4)).2.2 = true ∧ (wireP t5 10 false).2 = true ∧ (writeP t6 10 (spotP t6.n 2101252 4)).2 = true ∧ W32 t7.wa = 0 ∧ W32 t7.se = 0 := by decide +kernel
set_option maxRecDepth 100000 in
set_option maxHeartbeats 4000000 in
theorem live16_any (w : World) : Calls Try.prog 23 #[] w fun e w' => e = .returned (.bool true) ∧ Below w.heap.size w w' := by
  obtain ⟨f1, f2, f3, f4, f5, f6, f7, f8, f9, f10, f11, f12⟩ := live_facts
  have o0 : OkP t0 := OkP.new 1
  have o1 : OkP t1 := o0.write _ _
  have o2 : OkP t2 := o1.write _ _
  have o3 : OkP t3 := o2.wire _ _
  have o4 : OkP t4 := o3.read _
  have o5 : OkP t5 := o4.read _
  have o6 : OkP t6 := o5.wire _ _
  have O := Lib.hid (And.intro o0 (And.intro o1 (And.intro o2 (And.intro o3 (And.intro o4 (And.intro o5 o6))))))
  have G0 : Hid (newP 1 = t0) := (rfl : newP 1 = t0)
  have G1 : Hid (writeP t0 3 (spotP t0.n 40 4) = (t1, true)) := pairP f1
  have G2 : Hid (writeP t1 1024 (spotP t1.n 8320 4) = (t2, true)) := pairP f2
  have G3 : Hid (wireP t2 10 true = (t3, true)) := pairP f3
  have G4 := Lib.hid f4
  have G5 : Hid (readP t3 (spotP t3.n 2101252 4) = (t4, 10, true)) := tripP f5 f6
  have G6 : Hid (readP t4 (spotP t4.n 2101252 4) = (t5, 0, true)) := tripP f7 f8
  have G7 : Hid (wireP t5 10 false = (t6, true)) := pairP f9
  have G8 : Hid (writeP t6 10 (spotP t6.n 2101252 4) = (t7, true)) := pairP f10
  have G9 := Lib.hid f11
  have G10 := Lib.hid f12
  clear f1 f2 f3 f4 f5 f6 f7 f8 f9 f10 f11 f12 o0 o1 o2 o3 o4 o5 o6
  generalize t0 = s0 at *
  generalize t1 = s1 at *
  generalize t2 = s2 at *
  generalize t3 = s3 at *
  generalize t4 = s4 at *
  generalize t5 = s5 at *
  generalize t6 = s6 at *
  generalize t7 = s7 at *
  have a3 := size_cellsP
  have a4 := stnP
  go_enter Try.func23, Try.ntmps23
  go_wp2_with fail
  refine (pnew_v G0.out _).mono ?_
  rintro e w1 ⟨rfl, hb1⟩
  go_wp2_with fail
  refine (pwrite_v G1.out _ (by omega) (by omega) O.out.1 (heap_alloc_new _ _)).mono ?_
  rintro e w2 ⟨rfl, k2, t2⟩
  have hC := t2.1 _ _ hb1.size (((Fr.refl w).step hb1).alloc _)
  go_wp2_with fail
  refine (pwrite_v G2.out _ (by omega) (by omega) O.out.2.1 k2).mono ?_
  rintro e w3 ⟨rfl, k3, t3⟩
  have hC := t3.1 _ _ hb1.size hC
  go_wp2_with fail
  refine (wire_v G3.out _ O.out.2.2.1 k3).mono ?_
  rintro e w4 ⟨rfl, k4, t4⟩
  have hC := t4.1 _ _ hb1.size hC
  go_wp2_with fail
  refine (line_v G4.out _ O.out.2.2.2.1 k4).mono ?_
  rintro e w5 ⟨rfl, b5⟩
  have hC := hC.step b5
  have k5 := keepB b5 k4
  go_wp2_with fail
  refine (pread_v G5.out _ (by omega) O.out.2.2.2.1 k5).mono ?_
  rintro e w6 ⟨rfl, k6, t6⟩
  have hC := t6.1 _ _ hb1.size hC
  go_wp2_with fail
  refine (pread_v G6.out _ (by omega) O.out.2.2.2.2.1 k6).mono ?_
  rintro e w7 ⟨rfl, k7, t7⟩
  have hC := t7.1 _ _ hb1.size hC
  go_wp2_with fail
  refine (wire_v G7.out _ O.out.2.2.2.2.2.1 k7).mono ?_
  rintro e w8 ⟨rfl, k8, t8⟩
  have hC := t8.1 _ _ hb1.size hC
  go_wp2_with fail
  refine (pwrite_v G8.out _ (by omega) (by omega) O.out.2.2.2.2.2.2 k8).mono ?_
  rintro e w9 ⟨rfl, k9, t9⟩
  have hC := t9.1 _ _ hb1.size hC
  go_wp2_with fail
  refine (waits_v G9.out _ k9).mono ?_
  rintro e w10 ⟨rfl, b10⟩
  have hC := hC.step b10
  have k10 := keepB b10 k9
  go_wp2_with fail
  refine (served_v G10.out _ k10).mono ?_
  rintro e w11 ⟨rfl, b11⟩
  have hC := hC.step b11
  go_wp2
  go_ret
  exact ⟨rfl, hC.1⟩
theorem eqP0 (w : World) : (binOp BinOp.eql 60 (.agg (cellsP zeroP)) (.agg (cellsP zeroP))).run Try.prog w = .ok (.bool true) w := by kernel_rfl
end Go.Proofs.Ytgelpapjmlbgfaa
