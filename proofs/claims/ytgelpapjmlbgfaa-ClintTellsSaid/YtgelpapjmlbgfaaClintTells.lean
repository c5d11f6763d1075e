/- ClintTells: the time's line is told from the tick on at which the time has come. -/
import Derived.Test.YtgelpapjmlbgfaaClF
namespace Go.Proofs.Ytgelpapjmlbgfaa
open Go.RowKit
set_option linter.unusedSimpArgs false
set_option linter.unusedVariables false
attribute [local simp high] size27 zero27

theorem newC8 : (newC 8).n = 8 := by unfold newC; rw [if_neg (by omega)]
theorem newC8f (i : Nat) : (newC 8).f i = false := by unfold newC; rw [if_neg (by omega)]
theorem tells_states (i time cmp : Nat) (hi : i < 8) (ht : time < 18446744073709551616) (hc : cmp < 18446744073709551616) :
    ∃ s1 s2 s3 : CS, writeOf (newC 8) time (spot (newC 8).n 49144 8) = (s1, true) ∧ writeOf s1 cmp (spot s1.n (16384 + 8 * i) 4) = (s2, true) ∧
      writeOf s2 (cmp / 4294967296) (spot s2.n (16384 + 8 * i + 4) 4) = (s3, true) ∧ readOf s3 (spot s3.n (16384 + 8 * i) 8) = (cmp, true) ∧ readOf s3 (spot s3.n 49148 4) = (time / 4294967296, true) ∧
      s3.n = 8 ∧ s3.t = time ∧ s3.c i = cmp ∧ s3.f i = false ∧ OkC s1 ∧ OkC s2 ∧ OkC s3 := by
  have p1 : spot 8 49144 8 = .time 0 := by rw [spot_time 8 49144 8 (by omega) (by omega)]; rfl
  have k1 : kOf 4 (16384 + 8 * i) = 1 := by unfold kOf; rw [if_neg (by omega), if_pos (by omega)]
  have k2 : kOf 4 (16384 + 8 * i + 4) = 2 := by unfold kOf; rw [if_neg (by omega), if_neg (by omega)]
  have k3 : kOf 8 (16384 + 8 * i) = 0 := by unfold kOf; rw [if_pos rfl]
  have p2 : spot 8 (16384 + 8 * i) 4 = .cmp i 1 := by
    rw [spot_cmp 8 (16384 + 8 * i) 4 (by omega) (by omega) (by omega), k1]
    congr 1; omega
  have p3 : spot 8 (16384 + 8 * i + 4) 4 = .cmp i 2 := by
    rw [spot_cmp 8 (16384 + 8 * i + 4) 4 (by omega) (by omega) (by omega), k2]
    congr 1; omega
  have p4 : spot 8 (16384 + 8 * i) 8 = .cmp i 0 := by
    rw [spot_cmp 8 (16384 + 8 * i) 8 (by omega) (by omega) (by omega), k3]
    congr 1; omega
  have p5 : spot 8 49148 4 = .time 2 := by rw [spot_time 8 49148 4 (by omega) (by omega)]; rfl
  have o0 := OkC.new 8
  have o1 : OkC (setT (newC 8) time) := by have h := o0.write time ht (.time 0); rw [show writeOf (newC 8) time (.time 0) = (setT (newC 8) time, true) from rfl] at h; exact h
  have n1 : (setT (newC 8) time).n = 8 := newC8
  have o2 : OkC (writeOf (setT (newC 8) time) cmp (.cmp i 1)).1 := o1.write cmp hc (.cmp i 1)
  have n2 : (writeOf (setT (newC 8) time) cmp (.cmp i 1)).1.n = 8 := newC8
  have o3 : OkC (writeOf (writeOf (setT (newC 8) time) cmp (.cmp i 1)).1 (cmp / 4294967296) (.cmp i 2)).1 := o2.write _ (by omega) (.cmp i 2)
  have n3 : (writeOf (writeOf (setT (newC 8) time) cmp (.cmp i 1)).1 (cmp / 4294967296) (.cmp i 2)).1.n = 8 := newC8
  have c3 : (writeOf (writeOf (setT (newC 8) time) cmp (.cmp i 1)).1 (cmp / 4294967296) (.cmp i 2)).1.c i = cmp := by
    show (if i = i then withOf (if i = i then withOf ((newC 8).c i) 1 cmp else (newC 8).c i) 2 (cmp / 4294967296) else _) = cmp
    rw [if_pos rfl, if_pos rfl]
    unfold withOf
    rw [if_neg (by omega), if_pos rfl, if_pos rfl]
    omega
  refine ⟨_, _, _, by rw [newC8, p1]; rfl, by rw [n1, p2]; rfl, by rw [n2, p3]; rfl, ?_, ?_, n3, rfl, c3, newC8f i, o1, o2, o3⟩
  · rw [n3, p4]
    show ((writeOf (writeOf (setT (newC 8) time) cmp (.cmp i 1)).1 (cmp / 4294967296) (.cmp i 2)).1.c i, true) = _
    rw [c3]
  · rw [n3, p5]; rfl

theorem read_i {b : Nat} {s : CS} {off : Nat} {size : Int} {x : Nat} {q : Bool} {a : Int} (ha : a = (off : Int)) (hr : readOf s (spot s.n off size) = (x, q)) (w : World) (hoff : off < 18446744073709551616) (ok : OkC s)
    (h : w.heap[b]? = some (.cells (cellsC s) 27)) :
    Calls Try.prog 9 #[.pointer (some ⟨b, 0, none⟩), .int .u64 a, .int .i64 size] w fun e w' => e = .returned (.tuple #[.int .u64 (x : Int), .bool q]) ∧ Below w.heap.size w w' := by
  subst ha; exact read_v hr w hoff ok h
theorem write_i {b : Nat} {s s' : CS} {off : Nat} {size : Int} {v : Nat} {q : Bool} {a c : Int} (ha : a = (off : Int)) (hc : c = (v : Int)) (hr : writeOf s v (spot s.n off size) = (s', q)) (w : World) (hoff : off < 18446744073709551616) (hv : v < 18446744073709551616) (ok : OkC s)
    (h : w.heap[b]? = some (.cells (cellsC s) 27)) :
    Calls Try.prog 10 #[.pointer (some ⟨b, 0, none⟩), .int .u64 a, .int .i64 size, .int .u64 c] w fun e w' => e = .returned (.bool q) ∧ w'.heap[b]? = some (.cells (cellsC s') 27) ∧ Wrote b w w' := by
  subst ha hc; exact write_v hr w hoff hv ok h
theorem lines_i {b : Nat} {s : CS} {i : Nat} {x : Nat} {a : Int} (ha : a = (i : Int)) (hx : linesOf s (i : Int) = x) (w : World) (ok : OkC s)
    (h : w.heap[b]? = some (.cells (cellsC s) 27)) :
    Calls Try.prog 12 #[.pointer (some ⟨b, 0, none⟩), .int .i64 a] w fun e w' => e = .returned (.int .u64 (x : Int)) ∧ Below w.heap.size w w' := by
  subst ha; exact lines_v hx w ok h

def nowOf (time : Nat) (n : Int) : Nat := if 0 < n then (time + n.toNat) % 18446744073709551616 else time
theorem tick_states {s : CS} {i time cmp : Nat} (n : Int) (hi : i < 8) (hn : s.n = 8) (ht : s.t = time) (hc : s.c i = cmp) (hf : s.f i = false) :
    (tickOf s n).t = nowOf time n ∧ linesOf s (i : Int) = (if cmp ≤ time then 128 else 0) ∧ linesOf (tickOf s n) (i : Int) = (if cmp ≤ nowOf time n then 128 else 0) := by
  have e (s' : CS) (h1 : s'.n = 8) (h2 : s'.c i = cmp) (h3 : s'.f i = false) : linesOf s' (i : Int) = (if cmp ≤ s'.t then 128 else 0) := by
    unfold linesOf
    rw [if_neg (by omega), show ((i : Int)).toNat = i from rfl, h2, h3]
    simp
  have e1 : (tickOf s n).t = nowOf time n := by
    unfold tickOf nowOf
    rw [hn, ht]
    by_cases h0 : 0 < n
    · rw [if_pos ⟨h0, by omega⟩, if_pos h0]; rfl
    · rw [if_neg (by omega), if_neg h0, ht]
  have e2 : (tickOf s n).n = 8 := by unfold tickOf; split <;> exact hn
  have e3 : (tickOf s n).c i = cmp := by unfold tickOf; split <;> exact hc
  have e4 : (tickOf s n).f i = false := by unfold tickOf; split <;> exact hf
  refine ⟨e1, by rw [e s hn hc hf, ht], by rw [e _ e2 e3 e4, e1]⟩

theorem time_v {b : Nat} {s : CS} {x : Nat} (hx : s.t = x) (w : World) (h : w.heap[b]? = some (.cells (cellsC s) 27)) :
    Calls Try.prog 11 #[.pointer (some ⟨b, 0, none⟩)] w fun e w' => e = .returned (.int .u64 (x : Int)) ∧ w' = w := by
  rw [← hx]; exact time_any b s w h
set_option maxRecDepth 100000 in
set_option maxHeartbeats 4000000 in
theorem clintTells_walk (k time cmp : Nat) (n : Int) (w : World) (hk : k < 256) (ht : time < 18446744073709551616) (hc : cmp < 18446744073709551616) (hn : n ≤ 9223372036854775807) :
    Calls Try.prog 4 #[.int .u8 (k : Int), .int .u64 (time : Int), .int .u64 (cmp : Int), .int .i64 n] w fun e w' => e = .returned (.bool true) ∧ Below w.heap.size w w' := by
  obtain ⟨i, hik⟩ : ∃ i, i = k % 8 := ⟨_, rfl⟩
  have hi : i < 8 := by omega
  obtain ⟨s1, s2, s3, h1, h2, h3, r1, r2, e1, e2, e3, e4, o1, o2, o3⟩ := tells_states i time cmp hi ht hc
  obtain ⟨t1, l1, l2⟩ := tick_states n hi e1 e2 e3 e4
  have o4 := o3.tick n
  obtain ⟨s4, hs4⟩ : ∃ s4, tickOf s3 n = s4 := ⟨_, rfl⟩
  rw [hs4] at t1 l2 o4
  have H1 := Lib.hid h1
  have H2 := Lib.hid h2
  have H3 := Lib.hid h3
  have R1 := Lib.hid r1
  have R2 := Lib.hid r2
  obtain ⟨now, hnow⟩ : ∃ now, nowOf time n = now := ⟨_, rfl⟩
  rw [hnow] at t1 l2
  have L1 := Lib.hid l1
  have L2 := Lib.hid l2
  have NOW := Lib.hid hnow
  have hnowlt : now < 18446744073709551616 := by rw [← hnow]; unfold nowOf; split <;> omega
  have H4 := Lib.hid hs4
  have T1 := Lib.hid t1
  have o0 := OkC.new 8
  clear hnow h1 h2 h3 r1 r2 e1 e2 e3 e4 l1 l2 hs4 t1
  have a3 := size_cellsC
  have a4 := stn27
  go_enter Try.func4, Try.ntmps4
  go_wp2_with fail
  refine (new_v rfl _).mono ?_
  rintro e w1 ⟨rfl, hb1⟩
  generalize hz : newC 8 = s0 at *
  go_wp2_with fail
  refine (write_v H1.out _ (by omega) ht o0 (heap_alloc_new _ _)).mono ?_
  rintro e w2 ⟨rfl, k2, t2⟩
  have hC := t2.1 _ _ hb1.size (((Fr.refl w).step hb1).alloc _)
  go_wp2_with fail
  refine (write_i (off := 16384 + 8 * i) (v := cmp) (by omega) rfl H2.out _ (by omega) hc o1 k2).mono ?_
  rintro e w3 ⟨rfl, k3, t3⟩
  have hC := t3.1 _ _ hb1.size hC
  go_wp2_with fail
  refine (write_i (off := 16384 + 8 * i + 4) (v := cmp / 4294967296) (by omega) (by omega) H3.out _ (by omega) (by omega) o2 k3).mono ?_
  rintro e w4 ⟨rfl, k4, t4⟩
  have hC := t4.1 _ _ hb1.size hC
  go_wp2_with fail
  refine (read_i (off := 16384 + 8 * i) (by omega) R1.out _ (by omega) o3 k4).mono ?_
  rintro e w5 ⟨rfl, b5⟩
  have k5 := keepB b5 k4
  have hC := hC.step b5
  go_wp2_with fail
  refine (read_v R2.out _ (by omega) o3 k5).mono ?_
  rintro e w6 ⟨rfl, b6⟩
  have k6 := keepB b6 k5
  have hC := hC.step b6
  by_cases h0 : 0 < n
  · have HW := Lib.hid (show IntKind.u64.wrap ((time : Int) + n) = (now : Int) by rw [tick_wrap time n h0, ← NOW.out]; unfold nowOf; rw [if_pos h0])
    by_cases hle : cmp ≤ time
    · by_cases hle2 : cmp ≤ now
      · have L1' := Lib.hid (show linesOf s3 (i : Int) = 128 by rw [L1.out, if_pos hle])
        have L2' := Lib.hid (show linesOf s4 (i : Int) = 128 by rw [L2.out, if_pos hle2])
        go_wp2_with fail
        refine (lines_i (i := i) (by omega) L1'.out _ o3 k6).mono ?_
        rintro e w7 ⟨rfl, b7⟩
        have k7 := keepB b7 k6
        have hC := hC.step b7
        go_wp2_with fail
        refine (tick_v H4.out _ hn o3 k7).mono ?_
        rintro e w8 ⟨⟨v8, rfl⟩, k8, t8⟩
        have hC := t8.1 _ _ hb1.size hC
        go_wp2_with fail
        rw [HW.out]
        refine (time_v T1.out _ k8).mono ?_
        rintro e w9 ⟨rfl, rfl⟩
        go_wp2_with fail
        refine (lines_i (i := i) (by omega) L2'.out _ o4 k8).mono ?_
        rintro e w9 ⟨rfl, b9⟩
        have k9 := keepB b9 k8
        have hC := hC.step b9
        go_wp2_with fail
        refine (lines_i (i := i) (by omega) L2'.out _ o4 k9).mono ?_
        rintro e w10 ⟨rfl, b10⟩
        have k10 := keepB b10 k9
        have hC := hC.step b10
        have B1 : bits BinOp.and IntKind.u64 128 128 = 128 := by decide +kernel
        go_wp2_with fail
        refine (lines_i (i := i) (by omega) L2'.out _ o4 k10).mono ?_
        rintro e w11 ⟨rfl, b11⟩
        have hC := hC.step b11
        go_wp2_with fail
        refine (live15_any _).mono ?_
        rintro e w12 ⟨rfl, b12⟩
        go_wp2
        go_ret
        exact ⟨rfl, (hC.step b12).1⟩
      · have L1' := Lib.hid (show linesOf s3 (i : Int) = 128 by rw [L1.out, if_pos hle])
        have L2' := Lib.hid (show linesOf s4 (i : Int) = 0 by rw [L2.out, if_neg hle2])
        go_wp2_with fail
        refine (lines_i (i := i) (by omega) L1'.out _ o3 k6).mono ?_
        rintro e w7 ⟨rfl, b7⟩
        have k7 := keepB b7 k6
        have hC := hC.step b7
        go_wp2_with fail
        refine (tick_v H4.out _ hn o3 k7).mono ?_
        rintro e w8 ⟨⟨v8, rfl⟩, k8, t8⟩
        have hC := t8.1 _ _ hb1.size hC
        go_wp2_with fail
        rw [HW.out]
        refine (time_v T1.out _ k8).mono ?_
        rintro e w9 ⟨rfl, rfl⟩
        go_wp2_with fail
        refine (lines_i (i := i) (by omega) L2'.out _ o4 k8).mono ?_
        rintro e w9 ⟨rfl, b9⟩
        have k9 := keepB b9 k8
        have hC := hC.step b9
        go_wp2_with fail
        refine (lines_i (i := i) (by omega) L2'.out _ o4 k9).mono ?_
        rintro e w10 ⟨rfl, b10⟩
        have k10 := keepB b10 k9
        have hC := hC.step b10
        have B1 : bits BinOp.and IntKind.u64 0 128 = 0 := by decide +kernel
        go_wp2_with fail
        refine (lines_i (i := i) (by omega) L2'.out _ o4 k10).mono ?_
        rintro e w11 ⟨rfl, b11⟩
        have hC := hC.step b11
        go_wp2_with fail
        refine (live15_any _).mono ?_
        rintro e w12 ⟨rfl, b12⟩
        go_wp2
        go_ret
        exact ⟨rfl, (hC.step b12).1⟩
    · by_cases hle2 : cmp ≤ now
      · have L1' := Lib.hid (show linesOf s3 (i : Int) = 0 by rw [L1.out, if_neg hle])
        have L2' := Lib.hid (show linesOf s4 (i : Int) = 128 by rw [L2.out, if_pos hle2])
        go_wp2_with fail
        refine (lines_i (i := i) (by omega) L1'.out _ o3 k6).mono ?_
        rintro e w7 ⟨rfl, b7⟩
        have k7 := keepB b7 k6
        have hC := hC.step b7
        go_wp2_with fail
        refine (tick_v H4.out _ hn o3 k7).mono ?_
        rintro e w8 ⟨⟨v8, rfl⟩, k8, t8⟩
        have hC := t8.1 _ _ hb1.size hC
        go_wp2_with fail
        rw [HW.out]
        refine (time_v T1.out _ k8).mono ?_
        rintro e w9 ⟨rfl, rfl⟩
        go_wp2_with fail
        refine (lines_i (i := i) (by omega) L2'.out _ o4 k8).mono ?_
        rintro e w9 ⟨rfl, b9⟩
        have k9 := keepB b9 k8
        have hC := hC.step b9
        go_wp2_with fail
        refine (lines_i (i := i) (by omega) L2'.out _ o4 k9).mono ?_
        rintro e w10 ⟨rfl, b10⟩
        have k10 := keepB b10 k9
        have hC := hC.step b10
        have B1 : bits BinOp.and IntKind.u64 128 128 = 128 := by decide +kernel
        go_wp2_with fail
        refine (lines_i (i := i) (by omega) L2'.out _ o4 k10).mono ?_
        rintro e w11 ⟨rfl, b11⟩
        have hC := hC.step b11
        go_wp2_with fail
        refine (live15_any _).mono ?_
        rintro e w12 ⟨rfl, b12⟩
        go_wp2
        go_ret
        exact ⟨rfl, (hC.step b12).1⟩
      · have L1' := Lib.hid (show linesOf s3 (i : Int) = 0 by rw [L1.out, if_neg hle])
        have L2' := Lib.hid (show linesOf s4 (i : Int) = 0 by rw [L2.out, if_neg hle2])
        go_wp2_with fail
        refine (lines_i (i := i) (by omega) L1'.out _ o3 k6).mono ?_
        rintro e w7 ⟨rfl, b7⟩
        have k7 := keepB b7 k6
        have hC := hC.step b7
        go_wp2_with fail
        refine (tick_v H4.out _ hn o3 k7).mono ?_
        rintro e w8 ⟨⟨v8, rfl⟩, k8, t8⟩
        have hC := t8.1 _ _ hb1.size hC
        go_wp2_with fail
        rw [HW.out]
        refine (time_v T1.out _ k8).mono ?_
        rintro e w9 ⟨rfl, rfl⟩
        go_wp2_with fail
        refine (lines_i (i := i) (by omega) L2'.out _ o4 k8).mono ?_
        rintro e w9 ⟨rfl, b9⟩
        have k9 := keepB b9 k8
        have hC := hC.step b9
        go_wp2_with fail
        refine (lines_i (i := i) (by omega) L2'.out _ o4 k9).mono ?_
        rintro e w10 ⟨rfl, b10⟩
        have k10 := keepB b10 k9
        have hC := hC.step b10
        have B1 : bits BinOp.and IntKind.u64 0 128 = 0 := by decide +kernel
        go_wp2_with fail
        refine (lines_i (i := i) (by omega) L2'.out _ o4 k10).mono ?_
        rintro e w11 ⟨rfl, b11⟩
        have hC := hC.step b11
        go_wp2_with fail
        refine (live15_any _).mono ?_
        rintro e w12 ⟨rfl, b12⟩
        go_wp2
        go_ret
        exact ⟨rfl, (hC.step b12).1⟩
  · have hnt : now = time := by rw [← NOW.out]; unfold nowOf; rw [if_neg h0]
    subst hnt
    by_cases hle : cmp ≤ now
    · have hle2 := hle
      have L1' := Lib.hid (show linesOf s3 (i : Int) = 128 by rw [L1.out, if_pos hle])
      have L2' := Lib.hid (show linesOf s4 (i : Int) = 128 by rw [L2.out, if_pos hle2])
      go_wp2_with fail
      refine (lines_i (i := i) (by omega) L1'.out _ o3 k6).mono ?_
      rintro e w7 ⟨rfl, b7⟩
      have k7 := keepB b7 k6
      have hC := hC.step b7
      go_wp2_with fail
      refine (tick_v H4.out _ hn o3 k7).mono ?_
      rintro e w8 ⟨⟨v8, rfl⟩, k8, t8⟩
      have hC := t8.1 _ _ hb1.size hC
      go_wp2_with fail
      refine (time_v T1.out _ k8).mono ?_
      rintro e w9 ⟨rfl, rfl⟩
      go_wp2_with fail
      refine (lines_i (i := i) (by omega) L2'.out _ o4 k8).mono ?_
      rintro e w9 ⟨rfl, b9⟩
      have k9 := keepB b9 k8
      have hC := hC.step b9
      go_wp2_with fail
      refine (lines_i (i := i) (by omega) L2'.out _ o4 k9).mono ?_
      rintro e w10 ⟨rfl, b10⟩
      have k10 := keepB b10 k9
      have hC := hC.step b10
      have B1 : bits BinOp.and IntKind.u64 128 128 = 128 := by decide +kernel
      go_wp2_with fail
      refine (lines_i (i := i) (by omega) L2'.out _ o4 k10).mono ?_
      rintro e w11 ⟨rfl, b11⟩
      have hC := hC.step b11
      go_wp2_with fail
      refine (live15_any _).mono ?_
      rintro e w12 ⟨rfl, b12⟩
      go_wp2
      go_ret
      exact ⟨rfl, (hC.step b12).1⟩
    · have hle2 := hle
      have L1' := Lib.hid (show linesOf s3 (i : Int) = 0 by rw [L1.out, if_neg hle])
      have L2' := Lib.hid (show linesOf s4 (i : Int) = 0 by rw [L2.out, if_neg hle2])
      go_wp2_with fail
      refine (lines_i (i := i) (by omega) L1'.out _ o3 k6).mono ?_
      rintro e w7 ⟨rfl, b7⟩
      have k7 := keepB b7 k6
      have hC := hC.step b7
      go_wp2_with fail
      refine (tick_v H4.out _ hn o3 k7).mono ?_
      rintro e w8 ⟨⟨v8, rfl⟩, k8, t8⟩
      have hC := t8.1 _ _ hb1.size hC
      go_wp2_with fail
      refine (time_v T1.out _ k8).mono ?_
      rintro e w9 ⟨rfl, rfl⟩
      go_wp2_with fail
      refine (lines_i (i := i) (by omega) L2'.out _ o4 k8).mono ?_
      rintro e w9 ⟨rfl, b9⟩
      have k9 := keepB b9 k8
      have hC := hC.step b9
      go_wp2_with fail
      refine (lines_i (i := i) (by omega) L2'.out _ o4 k9).mono ?_
      rintro e w10 ⟨rfl, b10⟩
      have k10 := keepB b10 k9
      have hC := hC.step b10
      have B1 : bits BinOp.and IntKind.u64 0 128 = 0 := by decide +kernel
      go_wp2_with fail
      refine (lines_i (i := i) (by omega) L2'.out _ o4 k10).mono ?_
      rintro e w11 ⟨rfl, b11⟩
      have hC := hC.step b11
      go_wp2_with fail
      refine (live15_any _).mono ?_
      rintro e w12 ⟨rfl, b12⟩
      go_wp2
      go_ret
      exact ⟨rfl, (hC.step b12).1⟩

theorem clintTells_u8 (a : Int) (time cmp : Nat) (n : Int) (w : World) (ha : (Lit.int .u8 a).wf = true) (ht : time < 18446744073709551616) (hc : cmp < 18446744073709551616) (hn : n ≤ 9223372036854775807) :
    Calls Try.prog 4 #[.int .u8 a, .int .u64 (time : Int), .int .u64 (cmp : Int), .int .i64 n] w fun e w' => e = .returned (.bool true) ∧ Below w.heap.size w w' := by
  have hb : 0 ≤ a ∧ a ≤ 255 := by
    simp [Lit.wf, IntKind.min, IntKind.max, IntKind.signed, IntKind.bits] at ha
    omega
  obtain ⟨k, rfl⟩ := Int.eq_ofNat_of_zero_le hb.1
  exact clintTells_walk k time cmp n w (by omega) ht hc hn
end Go.Proofs.Ytgelpapjmlbgfaa
