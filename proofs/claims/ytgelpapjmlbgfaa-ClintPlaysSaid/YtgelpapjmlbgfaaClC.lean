/- clint's Read, Write, Tick, Time, Lines. -/
import Derived.Test.YtgelpapjmlbgfaaClB
import Derived.Test.YtgelpapjmlbgfaaHeld
import Derived.BigQuiet
namespace Go.Proofs.Ytgelpapjmlbgfaa
open Go.RowKit
set_option linter.unusedSimpArgs false
set_option linter.unusedVariables false

def partOf (x k : Nat) : Nat := if k = 1 then x % 4294967296 else if k = 2 then x / 4294967296 else x
def withOf (x k v : Nat) : Nat := if k = 1 then x - x % 4294967296 + v % 4294967296 else if k = 2 then x % 4294967296 + v % 4294967296 * 4294967296 else v
def readOf (s : CS) : Sp → Nat × Bool
  | .no => (0, false)
  | .soft h => ((s.f h).toNat, true)
  | .cmp h k => (partOf (s.c h) k, true)
  | .time k => (partOf s.t k, true)
def writeOf (s : CS) (v : Nat) : Sp → CS × Bool
  | .no => (s, false)
  | .soft h => (setF s h (v % 2 == 1), true)
  | .cmp h k => (setC s h (withOf (s.c h) k v), true)
  | .time k => (setT s (withOf s.t k v), true)
/-- What a spot may be. -/
def SpOk (n size : Int) : Sp → Prop
  | .no => True
  | .soft h => (h : Int) < n ∧ size = 4
  | .cmp h k => (h : Int) < n ∧ ((size = 8 ∧ k = 0) ∨ (size = 4 ∧ (k = 1 ∨ k = 2)))
  | .time k => (size = 8 ∧ k = 0) ∨ (size = 4 ∧ (k = 1 ∨ k = 2))
theorem kOf_ok (size : Int) (off : Nat) (h : size = 8 ∨ size = 4) : (size = 8 ∧ kOf size off = 0) ∨ (size = 4 ∧ (kOf size off = 1 ∨ kOf size off = 2)) := by
  unfold kOf
  rcases h with rfl | rfl
  · simp
  · right
    refine ⟨rfl, ?_⟩
    rw [if_neg (by omega)]
    split <;> simp
theorem spot_ok (n : Int) (off : Nat) (size : Int) : SpOk n size (spot n off size) := by
  unfold spot
  split
  · rename_i h; exact ⟨h.2.2, h.1⟩
  · split
    · rename_i h1 h
      have h84 : size = 8 ∨ size = 4 := by omega
      split
      · exact kOf_ok size off h84
      · split
        · rename_i h3
          refine ⟨?_, kOf_ok size off h84⟩
          omega
        · trivial
    · trivial
theorem find_v {b : Nat} {s : CS} {off : Nat} {size : Int} {sp : Sp} (hs : spot s.n off size = sp) (w : World) (hoff : off < 18446744073709551616) (hn0 : 0 ≤ s.n) (hn8 : s.n ≤ 8)
    (h : w.heap[b]? = some (.cells (cellsC s) 27)) :
    Calls Try.prog 37 #[.pointer (some ⟨b, 0, none⟩), .int .u64 (off : Int), .int .i64 size] w fun e w' => e = .returned (findV b sp) ∧ Below w.heap.size w w' := by
  rw [← hs]; exact find_any b s off size w hoff hn0 hn8 h
theorem part0 (x : Nat) : partOf x 0 = x := rfl
theorem part1 (x : Nat) : partOf x 1 = x % 4294967296 := rfl
theorem part2 (x : Nat) : partOf x 2 = x / 4294967296 := rfl
theorem and32 (x : Nat) (hx : x < 18446744073709551616) : bits BinOp.and IntKind.u64 (x : Int) 4294967295 = ((x % 4294967296 : Nat) : Int) := by
  have h := u64_and_nat x 4294967295 hx (by omega)
  have e : x &&& 4294967295 = x % 4294967296 := Nat.and_two_pow_sub_one_eq_mod (n := 32) x
  rw [e] at h
  exact h

theorem and32' (x : Nat) (hx : x < 18446744073709551616) : bits BinOp.and IntKind.u64 ((x : Int) / 4294967296) 4294967295 = ((x / 4294967296 : Nat) : Int) := by
  have h := and32 (x / 4294967296) (by omega)
  have e : x / 4294967296 % 4294967296 = x / 4294967296 := by omega
  rw [e] at h
  have e2 : ((x / 4294967296 : Nat) : Int) = (x : Int) / 4294967296 := by simp
  rw [e2] at h ⊢
  exact h
set_option maxRecDepth 100000 in
set_option maxHeartbeats 2000000 in
theorem read_no (b : Nat) (s : CS) (off : Nat) (size : Int) (w : World) (hoff : off < 18446744073709551616) (hn0 : 0 ≤ s.n) (hn8 : s.n ≤ 8)
    (h : w.heap[b]? = some (.cells (cellsC s) 27)) (hs : spot s.n off size = .no) :
    Calls Try.prog 9 #[.pointer (some ⟨b, 0, none⟩), .int .u64 (off : Int), .int .i64 size] w fun e w' => e = .returned (.tuple #[.int .u64 0, .bool false]) ∧ Below w.heap.size w w' := by
  have HS := Lib.hid hs
  clear hs
  go_enter Try.func9, Try.ntmps9
  go_wp2_with fail
  refine (find_v HS.out _ hoff hn0 hn8 h).mono ?_
  rintro e w1 ⟨rfl, hb1⟩
  unfold findV
  go_wp2
  go_ret2
  exact ⟨rfl, (((Fr.refl w).step hb1).alloc _).1⟩
set_option maxRecDepth 100000 in
set_option maxHeartbeats 2000000 in
theorem read_soft (b : Nat) (s : CS) (off : Nat) (size : Int) (i : Nat) (q : Bool) (w : World) (hoff : off < 18446744073709551616) (hn0 : 0 ≤ s.n) (hn8 : s.n ≤ 8)
    (h : w.heap[b]? = some (.cells (cellsC s) 27)) (hs : spot s.n off size = .soft i) (hi : i < 8) (hq : s.f i = q) :
    Calls Try.prog 9 #[.pointer (some ⟨b, 0, none⟩), .int .u64 (off : Int), .int .i64 size] w fun e w' => e = .returned (.tuple #[.int .u64 (q.toNat : Int), .bool true]) ∧ Below w.heap.size w w' := by
  have HS := Lib.hid hs
  clear hs
  go_enter Try.func9, Try.ntmps9
  go_wp2_with fail
  refine (find_v HS.out _ hoff hn0 hn8 h).mono ?_
  rintro e w1 ⟨rfl, hb1⟩
  have k1 := keepB hb1 h
  obtain ⟨c0, c1, cl, cf⟩ := knownC k1
  have ci := knownCf k1 hi
  rw [hq] at ci
  unfold findV
  cases q
  all_goals
    go_wp2_with fail
    go_quiet (fail)
    go_wp2
    go_ret2
    exact ⟨rfl, ((((Fr.refl w).step hb1).alloc _).drewN _).1⟩
set_option maxRecDepth 100000 in
set_option maxHeartbeats 2000000 in
theorem read_time0 (b : Nat) (s : CS) (off : Nat) (w : World) (hoff : off < 18446744073709551616) (hn0 : 0 ≤ s.n) (hn8 : s.n ≤ 8)
    (h : w.heap[b]? = some (.cells (cellsC s) 27)) (hs : spot s.n off 8 = .time 0) (x : Nat) (hsx : s.t = x) (hx : x < 18446744073709551616) :
    Calls Try.prog 9 #[.pointer (some ⟨b, 0, none⟩), .int .u64 (off : Int), .int .i64 8] w fun e w' => e = .returned (.tuple #[.int .u64 ((partOf x 0 : Nat) : Int), .bool true]) ∧ Below w.heap.size w w' := by
  have HS := Lib.hid hs
  clear hs
  go_enter Try.func9, Try.ntmps9
  go_wp2_with fail
  refine (find_v HS.out _ hoff hn0 hn8 h).mono ?_
  rintro e w1 ⟨rfl, hb1⟩
  have k1 := keepB hb1 h
  obtain ⟨c0, c1, cl, cf⟩ := knownC k1
  skip
  rw [hsx] at c1
  unfold findV upOf
  go_wp2
  go_ret2
  exact ⟨by rw [part0]; rfl, (((Fr.refl w).step hb1).alloc _).1⟩
set_option maxRecDepth 100000 in
set_option maxHeartbeats 2000000 in
theorem read_cmp0 (b : Nat) (s : CS) (off : Nat) (i : Nat) (w : World) (hoff : off < 18446744073709551616) (hn0 : 0 ≤ s.n) (hn8 : s.n ≤ 8)
    (h : w.heap[b]? = some (.cells (cellsC s) 27)) (hs : spot s.n off 8 = .cmp i 0) (hi : i < 8) (x : Nat) (hsx : s.c i = x) (hx : x < 18446744073709551616) :
    Calls Try.prog 9 #[.pointer (some ⟨b, 0, none⟩), .int .u64 (off : Int), .int .i64 8] w fun e w' => e = .returned (.tuple #[.int .u64 ((partOf x 0 : Nat) : Int), .bool true]) ∧ Below w.heap.size w w' := by
  have HS := Lib.hid hs
  clear hs
  go_enter Try.func9, Try.ntmps9
  go_wp2_with fail
  refine (find_v HS.out _ hoff hn0 hn8 h).mono ?_
  rintro e w1 ⟨rfl, hb1⟩
  have k1 := keepB hb1 h
  obtain ⟨c0, c1, cl, cf⟩ := knownC k1
  have ci := knownCc k1 hi
  rw [hsx] at ci
  unfold findV upOf
  go_wp2
  go_ret2
  exact ⟨by rw [part0]; rfl, (((Fr.refl w).step hb1).alloc _).1⟩
set_option maxRecDepth 100000 in
set_option maxHeartbeats 2000000 in
theorem read_time1 (b : Nat) (s : CS) (off : Nat) (w : World) (hoff : off < 18446744073709551616) (hn0 : 0 ≤ s.n) (hn8 : s.n ≤ 8)
    (h : w.heap[b]? = some (.cells (cellsC s) 27)) (hs : spot s.n off 4 = .time 1) (x : Nat) (hsx : s.t = x) (hx : x < 18446744073709551616) :
    Calls Try.prog 9 #[.pointer (some ⟨b, 0, none⟩), .int .u64 (off : Int), .int .i64 4] w fun e w' => e = .returned (.tuple #[.int .u64 ((partOf x 1 : Nat) : Int), .bool true]) ∧ Below w.heap.size w w' := by
  have HS := Lib.hid hs
  clear hs
  go_enter Try.func9, Try.ntmps9
  go_wp2_with fail
  refine (find_v HS.out _ hoff hn0 hn8 h).mono ?_
  rintro e w1 ⟨rfl, hb1⟩
  have k1 := keepB hb1 h
  obtain ⟨c0, c1, cl, cf⟩ := knownC k1
  skip
  rw [hsx] at c1
  unfold findV upOf
  go_wp2_with fail
  go_quiet (fail)
  go_wp2
  go_ret2
  exact ⟨by rw [part1, ← and32 x hx]; rfl, ((((Fr.refl w).step hb1).alloc _).drewN _).1⟩
set_option maxRecDepth 100000 in
set_option maxHeartbeats 2000000 in
theorem read_cmp1 (b : Nat) (s : CS) (off : Nat) (i : Nat) (w : World) (hoff : off < 18446744073709551616) (hn0 : 0 ≤ s.n) (hn8 : s.n ≤ 8)
    (h : w.heap[b]? = some (.cells (cellsC s) 27)) (hs : spot s.n off 4 = .cmp i 1) (hi : i < 8) (x : Nat) (hsx : s.c i = x) (hx : x < 18446744073709551616) :
    Calls Try.prog 9 #[.pointer (some ⟨b, 0, none⟩), .int .u64 (off : Int), .int .i64 4] w fun e w' => e = .returned (.tuple #[.int .u64 ((partOf x 1 : Nat) : Int), .bool true]) ∧ Below w.heap.size w w' := by
  have HS := Lib.hid hs
  clear hs
  go_enter Try.func9, Try.ntmps9
  go_wp2_with fail
  refine (find_v HS.out _ hoff hn0 hn8 h).mono ?_
  rintro e w1 ⟨rfl, hb1⟩
  have k1 := keepB hb1 h
  obtain ⟨c0, c1, cl, cf⟩ := knownC k1
  have ci := knownCc k1 hi
  rw [hsx] at ci
  unfold findV upOf
  go_wp2_with fail
  go_quiet (fail)
  go_wp2
  go_ret2
  exact ⟨by rw [part1, ← and32 x hx]; rfl, ((((Fr.refl w).step hb1).alloc _).drewN _).1⟩
set_option maxRecDepth 100000 in
set_option maxHeartbeats 2000000 in
theorem read_time2 (b : Nat) (s : CS) (off : Nat) (w : World) (hoff : off < 18446744073709551616) (hn0 : 0 ≤ s.n) (hn8 : s.n ≤ 8)
    (h : w.heap[b]? = some (.cells (cellsC s) 27)) (hs : spot s.n off 4 = .time 2) (x : Nat) (hsx : s.t = x) (hx : x < 18446744073709551616) :
    Calls Try.prog 9 #[.pointer (some ⟨b, 0, none⟩), .int .u64 (off : Int), .int .i64 4] w fun e w' => e = .returned (.tuple #[.int .u64 ((partOf x 2 : Nat) : Int), .bool true]) ∧ Below w.heap.size w w' := by
  have HS := Lib.hid hs
  clear hs
  go_enter Try.func9, Try.ntmps9
  go_wp2_with fail
  refine (find_v HS.out _ hoff hn0 hn8 h).mono ?_
  rintro e w1 ⟨rfl, hb1⟩
  have k1 := keepB hb1 h
  obtain ⟨c0, c1, cl, cf⟩ := knownC k1
  skip
  rw [hsx] at c1
  unfold findV upOf
  go_wp2_with fail
  go_quiet (fail)
  go_wp2
  go_ret2
  exact ⟨by rw [part2, ← and32' x hx]; rfl, ((((Fr.refl w).step hb1).alloc _).drewN _).1⟩
set_option maxRecDepth 100000 in
set_option maxHeartbeats 2000000 in
theorem read_cmp2 (b : Nat) (s : CS) (off : Nat) (i : Nat) (w : World) (hoff : off < 18446744073709551616) (hn0 : 0 ≤ s.n) (hn8 : s.n ≤ 8)
    (h : w.heap[b]? = some (.cells (cellsC s) 27)) (hs : spot s.n off 4 = .cmp i 2) (hi : i < 8) (x : Nat) (hsx : s.c i = x) (hx : x < 18446744073709551616) :
    Calls Try.prog 9 #[.pointer (some ⟨b, 0, none⟩), .int .u64 (off : Int), .int .i64 4] w fun e w' => e = .returned (.tuple #[.int .u64 ((partOf x 2 : Nat) : Int), .bool true]) ∧ Below w.heap.size w w' := by
  have HS := Lib.hid hs
  clear hs
  go_enter Try.func9, Try.ntmps9
  go_wp2_with fail
  refine (find_v HS.out _ hoff hn0 hn8 h).mono ?_
  rintro e w1 ⟨rfl, hb1⟩
  have k1 := keepB hb1 h
  obtain ⟨c0, c1, cl, cf⟩ := knownC k1
  have ci := knownCc k1 hi
  rw [hsx] at ci
  unfold findV upOf
  go_wp2_with fail
  go_quiet (fail)
  go_wp2
  go_ret2
  exact ⟨by rw [part2, ← and32' x hx]; rfl, ((((Fr.refl w).step hb1).alloc _).drewN _).1⟩
end Go.Proofs.Ytgelpapjmlbgfaa
