/- clint's Read joined; Write, Tick, Time, Lines. -/
import Derived.Test.YtgelpapjmlbgfaaClC
namespace Go.Proofs.Ytgelpapjmlbgfaa
open Go.RowKit
set_option linter.unusedSimpArgs false
set_option linter.unusedVariables false

structure OkC (s : CS) : Prop where
  n0 : 0 ≤ s.n
  n8 : s.n ≤ 8
  t : s.t < 18446744073709551616
  c : ∀ i, s.c i < 18446744073709551616

theorem read_any (b : Nat) (s : CS) (off : Nat) (size : Int) (w : World) (hoff : off < 18446744073709551616) (ok : OkC s)
    (h : w.heap[b]? = some (.cells (cellsC s) 27)) :
    Calls Try.prog 9 #[.pointer (some ⟨b, 0, none⟩), .int .u64 (off : Int), .int .i64 size] w fun e w' => e = .returned (.tuple #[.int .u64 (((readOf s (spot s.n off size)).1 : Nat) : Int), .bool (readOf s (spot s.n off size)).2]) ∧ Below w.heap.size w w' := by
  have hk := spot_ok s.n off size
  have n8 := ok.n8
  cases hs : spot s.n off size with
  | no => exact read_no b s off size w hoff ok.n0 ok.n8 h hs
  | soft i => rw [hs] at hk; exact read_soft b s off size i _ w hoff ok.n0 ok.n8 h hs (by have := hk.1; omega) rfl
  | cmp i k =>
    rw [hs] at hk
    obtain ⟨hi, hk⟩ := hk
    rcases hk with ⟨rfl, rfl⟩ | ⟨rfl, rfl | rfl⟩
    · exact read_cmp0 b s off i w hoff ok.n0 ok.n8 h hs (by omega) _ rfl (ok.c i)
    · exact read_cmp1 b s off i w hoff ok.n0 ok.n8 h hs (by omega) _ rfl (ok.c i)
    · exact read_cmp2 b s off i w hoff ok.n0 ok.n8 h hs (by omega) _ rfl (ok.c i)
  | time k =>
    rw [hs] at hk
    rcases hk with ⟨rfl, rfl⟩ | ⟨rfl, rfl | rfl⟩
    · exact read_time0 b s off w hoff ok.n0 ok.n8 h hs _ rfl ok.t
    · exact read_time1 b s off w hoff ok.n0 ok.n8 h hs _ rfl ok.t
    · exact read_time2 b s off w hoff ok.n0 ok.n8 h hs _ rfl ok.t
theorem read_nil (off : Nat) (size : Int) (w : World) :
    Calls Try.prog 9 #[.pointer none, .int .u64 (off : Int), .int .i64 size] w fun e w' => e = .returned (.tuple #[.int .u64 0, .bool false]) ∧ w' = w := by
  go_enter Try.func9, Try.ntmps9
  go_wp2
  go_ret2
  exact ⟨rfl, rfl⟩
theorem write_nil (off : Nat) (size : Int) (v : Nat) (w : World) :
    Calls Try.prog 10 #[.pointer none, .int .u64 (off : Int), .int .i64 size, .int .u64 (v : Int)] w fun e w' => e = .returned (.bool false) ∧ w' = w := by
  go_enter Try.func10, Try.ntmps10
  go_wp2
  go_ret
  exact ⟨rfl, rfl⟩
theorem tick_nil (n : Int) (w : World) :
    Calls Try.prog 13 #[.pointer none, .int .i64 n] w fun e w' => (∃ v, e = .returned v) ∧ w' = w := by
  go_enter Try.func13, Try.ntmps13
  go_wp2
  all_goals (first | go_end0 | refine bodyPost_ret (results_none rfl _ _ _) rfl ?_)
  all_goals exact ⟨⟨_, rfl⟩, rfl⟩
theorem time_nil (w : World) :
    Calls Try.prog 11 #[.pointer none] w fun e w' => e = .returned (.int .u64 0) ∧ w' = w := by
  go_enter Try.func11, Try.ntmps11
  go_wp2
  go_ret
  exact ⟨rfl, rfl⟩
theorem lines_nil (n : Int) (w : World) :
    Calls Try.prog 12 #[.pointer none, .int .i64 n] w fun e w' => e = .returned (.int .u64 0) ∧ w' = w := by
  go_enter Try.func12, Try.ntmps12
  go_wp2
  go_ret
  exact ⟨rfl, rfl⟩
theorem time_any (b : Nat) (s : CS) (w : World) (h : w.heap[b]? = some (.cells (cellsC s) 27)) :
    Calls Try.prog 11 #[.pointer (some ⟨b, 0, none⟩)] w fun e w' => e = .returned (.int .u64 (s.t : Int)) ∧ w' = w := by
  obtain ⟨c0, c1, cl, cf⟩ := knownC h
  go_enter Try.func11, Try.ntmps11
  go_wp2
  go_ret
  exact ⟨rfl, rfl⟩

/-- Only block b has been written; what is new lies beyond. -/
def Wrote (b : Nat) (w w' : World) : Prop := (∀ B w0, B ≤ b → Fr B w0 w → Fr B w0 w') ∧ (∀ b' o, b' ≠ b → w.heap[b']? = some o → w'.heap[b']? = some o)
theorem Wrote.refl (b : Nat) (w : World) : Wrote b w w := ⟨fun _ _ _ h => h, fun _ _ _ h => h⟩
theorem Wrote.below {b : Nat} {w w1 w2 : World} (h : Wrote b w w1) (hb : Below w1.heap.size w1 w2) : Wrote b w w2 := ⟨fun B w0 hB hf => (h.1 B w0 hB hf).step hb, fun b' o hne ho => keepB hb (h.2 b' o hne ho)⟩
theorem Wrote.alloc {b : Nat} {w w1 : World} (h : Wrote b w w1) (o : Obj) : Wrote b w (w1.alloc o) := h.below ((Below.refl _ w1).alloc (Nat.le_refl _) o)
theorem Wrote.setCell {b : Nat} {w w1 : World} (h : Wrote b w w1) (o : Nat) (v : Value) : Wrote b w (w1.setCell ⟨b, o, none⟩ v) :=
  ⟨fun B w0 hB hf => (h.1 B w0 hB hf).setCell hB v, fun b' o' hne ho => keep_setCell (h.2 b' o' hne ho) (fun e => hne e.symm) v⟩
theorem Wrote.drew {b : Nat} {w w1 : World} (h : Wrote b w w1) : Wrote b w w1.drew := ⟨fun B w0 hB hf => (h.1 B w0 hB hf).drew, fun b' o hne ho => h.2 b' o hne ho⟩
theorem Wrote.drewN {b : Nat} {w w1 : World} (h : Wrote b w w1) (n : Nat) : Wrote b w (w1.drewN n) := ⟨fun B w0 hB hf => (h.1 B w0 hB hf).drewN n, fun b' o hne ho => h.2 b' o hne ho⟩

set_option maxRecDepth 100000 in
set_option maxHeartbeats 2000000 in
theorem write_no (b : Nat) (s : CS) (off : Nat) (size : Int) (v : Nat) (w : World) (hoff : off < 18446744073709551616) (hn0 : 0 ≤ s.n) (hn8 : s.n ≤ 8)
    (h : w.heap[b]? = some (.cells (cellsC s) 27)) (hs : spot s.n off size = .no) :
    Calls Try.prog 10 #[.pointer (some ⟨b, 0, none⟩), .int .u64 (off : Int), .int .i64 size, .int .u64 (v : Int)] w fun e w' => e = .returned (.bool false) ∧ w'.heap[b]? = some (.cells (cellsC s) 27) ∧ Wrote b w w' := by
  have HS := Lib.hid hs
  clear hs
  go_enter Try.func10, Try.ntmps10
  go_wp2_with fail
  refine (find_v HS.out _ hoff hn0 hn8 h).mono ?_
  rintro e w1 ⟨rfl, hb1⟩
  unfold findV
  go_wp2
  go_ret
  exact ⟨rfl, keep_alloc (keepB hb1 h) _, ((Wrote.refl b w).below hb1).alloc _⟩
set_option maxRecDepth 100000 in
set_option maxHeartbeats 2000000 in
theorem write_soft (b : Nat) (s : CS) (off : Nat) (size : Int) (v : Nat) (i : Nat) (q : Bool) (w : World) (hoff : off < 18446744073709551616) (hv : v < 18446744073709551616) (hn0 : 0 ≤ s.n) (hn8 : s.n ≤ 8)
    (h : w.heap[b]? = some (.cells (cellsC s) 27)) (hs : spot s.n off size = .soft i) (hi : i < 8) (hq : (v % 2 == 1) = q) :
    Calls Try.prog 10 #[.pointer (some ⟨b, 0, none⟩), .int .u64 (off : Int), .int .i64 size, .int .u64 (v : Int)] w fun e w' => e = .returned (.bool true) ∧ w'.heap[b]? = some (.cells (cellsC (setF s i q)) 27) ∧ Wrote b w w' := by
  have HS := Lib.hid hs
  clear hs
  have hbit : (bits BinOp.and IntKind.u64 (v : Int) 1 == 1) = q := by
    have h1 := u64_and_nat v 1 hv (by omega)
    have e1 : bits BinOp.and IntKind.u64 (v : Int) 1 = ((v % 2 : Nat) : Int) := by
      have e : v &&& 1 = v % 2 := Nat.and_one_is_mod v
      rw [e] at h1; exact h1
    rw [e1, ← hq, Bool.eq_iff_iff]
    simp only [beq_iff_eq]
    omega
  have HQ := Lib.hid hbit
  clear hbit
  go_enter Try.func10, Try.ntmps10
  go_wp2_with fail
  refine (find_v HS.out _ hoff hn0 hn8 h).mono ?_
  rintro e w1 ⟨rfl, hb1⟩
  have k1 := keepB hb1 h
  have k2 := keep_alloc k1 (Obj.cells #[Value.int .i64 (i : Int), .pointer none, .int .u64 0] 85)
  obtain ⟨c0, c1, cl, cf⟩ := knownC k1
  have ci := knownCf k1 hi
  unfold findV
  go_wp2_with fail
  go_region
  rw [HQ.out]
  go_wp2
  go_ret
  exact ⟨rfl, by
    rw [← cellsC_setF s hi q]
    exact keep_alloc (set_at k1 (10 + i) (.bool q)) _, ((((Wrote.refl b w).below hb1).setCell _ _).alloc _).drew⟩

theorem hi_part (x : Nat) (hx : x < 18446744073709551616) : x &&& 18446744069414584320 = 2 ^ 32 * (x / 2 ^ 32) := by
  apply Nat.eq_of_testBit_eq
  intro i
  rw [Nat.testBit_and, show (18446744069414584320 : Nat) = 2 ^ 32 * (2 ^ 32 - 1) from rfl, Nat.testBit_two_pow_mul, Nat.testBit_two_pow_mul, Nat.testBit_two_pow_sub_one, Nat.testBit_div_two_pow]
  by_cases h1 : 32 ≤ i
  · by_cases h2 : i < 64
    · have e : 32 + (i - 32) = i := by omega
      have e2 : i - 32 < 32 := by omega
      simp [h1, e, e2]
    · have hf : x.testBit i = false := Nat.testBit_lt_two_pow (Nat.lt_of_lt_of_le hx (by have : 2 ^ 64 ≤ 2 ^ i := Nat.pow_le_pow_right (by omega) (by omega); simpa using this))
      have e : 32 + (i - 32) = i := by omega
      simp [h1, e, hf]
  · simp [h1]
theorem with1 (x v : Nat) (hx : x < 18446744073709551616) (hv : v < 18446744073709551616) :
    bits BinOp.or IntKind.u64 (bits BinOp.andNot IntKind.u64 (x : Int) 4294967295) (bits BinOp.and IntKind.u64 (v : Int) 4294967295) = ((withOf x 1 v : Nat) : Int) := by
  have h1 := u64_andNot_nat x 4294967295 hx (by omega)
  have h2 := and32 v hv
  have e1 : x &&& (18446744073709551615 - 4294967295) = 2 ^ 32 * (x / 2 ^ 32) := hi_part x hx
  rw [e1] at h1
  have h1' : bits BinOp.andNot IntKind.u64 (x : Int) 4294967295 = ((2 ^ 32 * (x / 2 ^ 32) : Nat) : Int) := h1
  rw [h1', h2, u64_or_nat _ _ (by omega) (by omega), ← Nat.two_pow_add_eq_or_of_lt (by omega : v % 4294967296 < 2 ^ 32)]
  unfold withOf
  rw [if_pos rfl]
  congr 1
  omega
theorem with2 (x v y : Nat) (hx : x < 18446744073709551616) (hy : y = v % 4294967296 * 4294967296) :
    bits BinOp.or IntKind.u64 (bits BinOp.andNot IntKind.u64 (x : Int) 18446744069414584320) (bits BinOp.and IntKind.u64 (y : Int) 18446744069414584320) = ((withOf x 2 v : Nat) : Int) := by
  have hy' : y < 18446744073709551616 := by omega
  have h1 := u64_andNot_nat x 18446744069414584320 hx (by omega)
  have h2 := u64_and_nat y 18446744069414584320 hy' (by omega)
  have e1 : x &&& (18446744073709551615 - 18446744069414584320) = x % 2 ^ 32 := Nat.and_two_pow_sub_one_eq_mod (n := 32) x
  have e2 : y &&& 18446744069414584320 = 2 ^ 32 * (v % 4294967296) := by rw [hi_part y hy']; omega
  rw [e1] at h1
  rw [e2] at h2
  have h1' : bits BinOp.andNot IntKind.u64 (x : Int) 18446744069414584320 = ((x % 2 ^ 32 : Nat) : Int) := h1
  have h2' : bits BinOp.and IntKind.u64 (y : Int) 18446744069414584320 = ((2 ^ 32 * (v % 4294967296) : Nat) : Int) := h2
  rw [h1', h2', u64_or_nat _ _ (by omega) (by omega), Nat.or_comm, ← Nat.two_pow_add_eq_or_of_lt (by omega : x % 2 ^ 32 < 2 ^ 32)]
  unfold withOf
  rw [if_neg (by omega), if_pos rfl]
  congr 1
  omega
theorem wrapshl (v : Nat) : IntKind.u64.wrap ((v : Int) * 4294967296) = ((v % 4294967296 * 4294967296 : Nat) : Int) := by
  simp [IntKind.wrap, IntKind.bits, IntKind.signed]
  omega
theorem with2' (x v : Nat) (hx : x < 18446744073709551616) :
    bits BinOp.or IntKind.u64 (bits BinOp.andNot IntKind.u64 (x : Int) 18446744069414584320) (bits BinOp.and IntKind.u64 (IntKind.u64.wrap ((v : Int) * 4294967296)) 18446744069414584320) = ((withOf x 2 v : Nat) : Int) := by
  rw [wrapshl]; exact with2 x v _ hx rfl
theorem with0 (x v : Nat) : withOf x 0 v = v := rfl
set_option maxRecDepth 100000 in
set_option maxHeartbeats 2000000 in
theorem write_time0 (b : Nat) (s : CS) (off : Nat) (v : Nat) (w : World) (hoff : off < 18446744073709551616) (hv : v < 18446744073709551616) (hn0 : 0 ≤ s.n) (hn8 : s.n ≤ 8)
    (h : w.heap[b]? = some (.cells (cellsC s) 27)) (hs : spot s.n off 8 = .time 0) (x : Nat) (hsx : s.t = x) (hx : x < 18446744073709551616) :
    Calls Try.prog 10 #[.pointer (some ⟨b, 0, none⟩), .int .u64 (off : Int), .int .i64 8, .int .u64 (v : Int)] w fun e w' => e = .returned (.bool true) ∧ w'.heap[b]? = some (.cells (cellsC (setT s (withOf x 0 v))) 27) ∧ Wrote b w w' := by
  have HS := Lib.hid hs
  clear hs
  go_enter Try.func10, Try.ntmps10
  go_wp2_with fail
  refine (find_v HS.out _ hoff hn0 hn8 h).mono ?_
  rintro e w1 ⟨rfl, hb1⟩
  have k1 := keepB hb1 h
  obtain ⟨c0, c1, cl, cf⟩ := knownC k1
  rw [hsx] at c1
  unfold findV upOf
  go_wp2
  go_ret
  exact ⟨rfl, by
    rw [← cellsC_setT s (withOf x 0 v), with0]
    exact keep_alloc (set_at k1 1 _) _, (((Wrote.refl b w).below hb1).setCell _ _).alloc _⟩
set_option maxRecDepth 100000 in
set_option maxHeartbeats 2000000 in
theorem write_cmp0 (b : Nat) (s : CS) (off : Nat) (v : Nat) (i : Nat) (w : World) (hoff : off < 18446744073709551616) (hv : v < 18446744073709551616) (hn0 : 0 ≤ s.n) (hn8 : s.n ≤ 8)
    (h : w.heap[b]? = some (.cells (cellsC s) 27)) (hs : spot s.n off 8 = .cmp i 0) (hi : i < 8) (x : Nat) (hsx : s.c i = x) (hx : x < 18446744073709551616) :
    Calls Try.prog 10 #[.pointer (some ⟨b, 0, none⟩), .int .u64 (off : Int), .int .i64 8, .int .u64 (v : Int)] w fun e w' => e = .returned (.bool true) ∧ w'.heap[b]? = some (.cells (cellsC (setC s i (withOf x 0 v))) 27) ∧ Wrote b w w' := by
  have HS := Lib.hid hs
  clear hs
  go_enter Try.func10, Try.ntmps10
  go_wp2_with fail
  refine (find_v HS.out _ hoff hn0 hn8 h).mono ?_
  rintro e w1 ⟨rfl, hb1⟩
  have k1 := keepB hb1 h
  obtain ⟨c0, c1, cl, cf⟩ := knownC k1
  have ci := knownCc k1 hi
  rw [hsx] at ci
  unfold findV upOf
  go_wp2
  go_ret
  exact ⟨rfl, by
    rw [← cellsC_setC s hi (withOf x 0 v), with0]
    exact keep_alloc (set_at k1 (2 + i) _) _, (((Wrote.refl b w).below hb1).setCell _ _).alloc _⟩
set_option maxRecDepth 100000 in
set_option maxHeartbeats 2000000 in
theorem write_time1 (b : Nat) (s : CS) (off : Nat) (v : Nat) (w : World) (hoff : off < 18446744073709551616) (hv : v < 18446744073709551616) (hn0 : 0 ≤ s.n) (hn8 : s.n ≤ 8)
    (h : w.heap[b]? = some (.cells (cellsC s) 27)) (hs : spot s.n off 4 = .time 1) (x : Nat) (hsx : s.t = x) (hx : x < 18446744073709551616) :
    Calls Try.prog 10 #[.pointer (some ⟨b, 0, none⟩), .int .u64 (off : Int), .int .i64 4, .int .u64 (v : Int)] w fun e w' => e = .returned (.bool true) ∧ w'.heap[b]? = some (.cells (cellsC (setT s (withOf x 1 v))) 27) ∧ Wrote b w w' := by
  have HS := Lib.hid hs
  clear hs
  have HW := Lib.hid (with1 x v hx hv)
  go_enter Try.func10, Try.ntmps10
  go_wp2_with fail
  refine (find_v HS.out _ hoff hn0 hn8 h).mono ?_
  rintro e w1 ⟨rfl, hb1⟩
  have k1 := keepB hb1 h
  obtain ⟨c0, c1, cl, cf⟩ := knownC k1
  rw [hsx] at c1
  unfold findV upOf
  go_wp2_with fail
  go_region
  rw [HW.out]
  go_wp2
  go_ret
  exact ⟨rfl, by
    rw [← cellsC_setT s (withOf x 1 v)]
    exact keep_alloc (set_at k1 1 _) _, (((Wrote.refl b w).below hb1).setCell _ _).alloc _ |>.drew⟩
set_option maxRecDepth 100000 in
set_option maxHeartbeats 2000000 in
theorem write_cmp1 (b : Nat) (s : CS) (off : Nat) (v : Nat) (i : Nat) (w : World) (hoff : off < 18446744073709551616) (hv : v < 18446744073709551616) (hn0 : 0 ≤ s.n) (hn8 : s.n ≤ 8)
    (h : w.heap[b]? = some (.cells (cellsC s) 27)) (hs : spot s.n off 4 = .cmp i 1) (hi : i < 8) (x : Nat) (hsx : s.c i = x) (hx : x < 18446744073709551616) :
    Calls Try.prog 10 #[.pointer (some ⟨b, 0, none⟩), .int .u64 (off : Int), .int .i64 4, .int .u64 (v : Int)] w fun e w' => e = .returned (.bool true) ∧ w'.heap[b]? = some (.cells (cellsC (setC s i (withOf x 1 v))) 27) ∧ Wrote b w w' := by
  have HS := Lib.hid hs
  clear hs
  have HW := Lib.hid (with1 x v hx hv)
  go_enter Try.func10, Try.ntmps10
  go_wp2_with fail
  refine (find_v HS.out _ hoff hn0 hn8 h).mono ?_
  rintro e w1 ⟨rfl, hb1⟩
  have k1 := keepB hb1 h
  obtain ⟨c0, c1, cl, cf⟩ := knownC k1
  have ci := knownCc k1 hi
  rw [hsx] at ci
  unfold findV upOf
  go_wp2_with fail
  go_region
  rw [HW.out]
  go_wp2
  go_ret
  exact ⟨rfl, by
    rw [← cellsC_setC s hi (withOf x 1 v)]
    exact keep_alloc (set_at k1 (2 + i) _) _, (((Wrote.refl b w).below hb1).setCell _ _).alloc _ |>.drew⟩
set_option maxRecDepth 100000 in
set_option maxHeartbeats 2000000 in
theorem write_time2 (b : Nat) (s : CS) (off : Nat) (v : Nat) (w : World) (hoff : off < 18446744073709551616) (hv : v < 18446744073709551616) (hn0 : 0 ≤ s.n) (hn8 : s.n ≤ 8)
    (h : w.heap[b]? = some (.cells (cellsC s) 27)) (hs : spot s.n off 4 = .time 2) (x : Nat) (hsx : s.t = x) (hx : x < 18446744073709551616) :
    Calls Try.prog 10 #[.pointer (some ⟨b, 0, none⟩), .int .u64 (off : Int), .int .i64 4, .int .u64 (v : Int)] w fun e w' => e = .returned (.bool true) ∧ w'.heap[b]? = some (.cells (cellsC (setT s (withOf x 2 v))) 27) ∧ Wrote b w w' := by
  have HS := Lib.hid hs
  clear hs
  have HW := Lib.hid (with2' x v hx)
  go_enter Try.func10, Try.ntmps10
  go_wp2_with fail
  refine (find_v HS.out _ hoff hn0 hn8 h).mono ?_
  rintro e w1 ⟨rfl, hb1⟩
  have k1 := keepB hb1 h
  obtain ⟨c0, c1, cl, cf⟩ := knownC k1
  rw [hsx] at c1
  unfold findV upOf
  go_wp2_with fail
  go_region
  rw [HW.out]
  go_wp2
  go_ret
  exact ⟨rfl, by
    rw [← cellsC_setT s (withOf x 2 v)]
    exact keep_alloc (set_at k1 1 _) _, (((Wrote.refl b w).below hb1).setCell _ _).alloc _ |>.drew⟩
set_option maxRecDepth 100000 in
set_option maxHeartbeats 2000000 in
theorem write_cmp2 (b : Nat) (s : CS) (off : Nat) (v : Nat) (i : Nat) (w : World) (hoff : off < 18446744073709551616) (hv : v < 18446744073709551616) (hn0 : 0 ≤ s.n) (hn8 : s.n ≤ 8)
    (h : w.heap[b]? = some (.cells (cellsC s) 27)) (hs : spot s.n off 4 = .cmp i 2) (hi : i < 8) (x : Nat) (hsx : s.c i = x) (hx : x < 18446744073709551616) :
    Calls Try.prog 10 #[.pointer (some ⟨b, 0, none⟩), .int .u64 (off : Int), .int .i64 4, .int .u64 (v : Int)] w fun e w' => e = .returned (.bool true) ∧ w'.heap[b]? = some (.cells (cellsC (setC s i (withOf x 2 v))) 27) ∧ Wrote b w w' := by
  have HS := Lib.hid hs
  clear hs
  have HW := Lib.hid (with2' x v hx)
  go_enter Try.func10, Try.ntmps10
  go_wp2_with fail
  refine (find_v HS.out _ hoff hn0 hn8 h).mono ?_
  rintro e w1 ⟨rfl, hb1⟩
  have k1 := keepB hb1 h
  obtain ⟨c0, c1, cl, cf⟩ := knownC k1
  have ci := knownCc k1 hi
  rw [hsx] at ci
  unfold findV upOf
  go_wp2_with fail
  go_region
  rw [HW.out]
  go_wp2
  go_ret
  exact ⟨rfl, by
    rw [← cellsC_setC s hi (withOf x 2 v)]
    exact keep_alloc (set_at k1 (2 + i) _) _, (((Wrote.refl b w).below hb1).setCell _ _).alloc _ |>.drew⟩

theorem write_any (b : Nat) (s : CS) (off : Nat) (size : Int) (v : Nat) (w : World) (hoff : off < 18446744073709551616) (hv : v < 18446744073709551616) (ok : OkC s)
    (h : w.heap[b]? = some (.cells (cellsC s) 27)) :
    Calls Try.prog 10 #[.pointer (some ⟨b, 0, none⟩), .int .u64 (off : Int), .int .i64 size, .int .u64 (v : Int)] w fun e w' => e = .returned (.bool (writeOf s v (spot s.n off size)).2) ∧ w'.heap[b]? = some (.cells (cellsC (writeOf s v (spot s.n off size)).1) 27) ∧ Wrote b w w' := by
  have hk := spot_ok s.n off size
  have n8 := ok.n8
  cases hs : spot s.n off size with
  | no => exact write_no b s off size v w hoff ok.n0 ok.n8 h hs
  | soft i => rw [hs] at hk; exact write_soft b s off size v i _ w hoff hv ok.n0 ok.n8 h hs (by have := hk.1; omega) rfl
  | cmp i k =>
    rw [hs] at hk
    obtain ⟨hi, hk⟩ := hk
    rcases hk with ⟨rfl, rfl⟩ | ⟨rfl, rfl | rfl⟩
    · exact write_cmp0 b s off v i w hoff hv ok.n0 ok.n8 h hs (by omega) _ rfl (ok.c i)
    · exact write_cmp1 b s off v i w hoff hv ok.n0 ok.n8 h hs (by omega) _ rfl (ok.c i)
    · exact write_cmp2 b s off v i w hoff hv ok.n0 ok.n8 h hs (by omega) _ rfl (ok.c i)
  | time k =>
    rw [hs] at hk
    rcases hk with ⟨rfl, rfl⟩ | ⟨rfl, rfl | rfl⟩
    · exact write_time0 b s off v w hoff hv ok.n0 ok.n8 h hs _ rfl ok.t
    · exact write_time1 b s off v w hoff hv ok.n0 ok.n8 h hs _ rfl ok.t
    · exact write_time2 b s off v w hoff hv ok.n0 ok.n8 h hs _ rfl ok.t

theorem withOf_lt (x k v : Nat) (hx : x < 18446744073709551616) (hv : v < 18446744073709551616) : withOf x k v < 18446744073709551616 := by
  unfold withOf
  split
  · omega
  · split <;> omega
theorem OkC.write {s : CS} (ok : OkC s) (v : Nat) (hv : v < 18446744073709551616) (sp : Sp) : OkC (writeOf s v sp).1 := by
  cases sp with
  | no => exact ok
  | soft h => exact ⟨ok.n0, ok.n8, ok.t, ok.c⟩
  | cmp h k =>
    refine ⟨ok.n0, ok.n8, ok.t, fun i => ?_⟩
    show (if i = h then withOf (s.c h) k v else s.c i) < _
    split
    · exact withOf_lt _ _ _ (ok.c h) hv
    · exact ok.c i
  | time k => exact ⟨ok.n0, ok.n8, withOf_lt _ _ _ ok.t hv, ok.c⟩
end Go.Proofs.Ytgelpapjmlbgfaa
