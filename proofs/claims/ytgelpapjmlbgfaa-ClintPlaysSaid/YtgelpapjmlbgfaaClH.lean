/- The document's part, with, Read, Lines, Tick, Write, New; clint.Fits. -/
import Derived.Test.YtgelpapjmlbgfaaClG
namespace Go.Proofs.Ytgelpapjmlbgfaa
open Go.RowKit
set_option linter.unusedSimpArgs false
set_option linter.unusedVariables false
attribute [local simp high] size27 zero27 size41 zero41

theorem rpart_any (x k : Nat) (w : World) (hx : x < 18446744073709551616) (hk : k < 3) :
    Calls Try.prog 38 #[.int .u64 (x : Int), .int .i64 (k : Int)] w fun e w' => e = .returned (.int .u64 ((partOf x k : Nat) : Int)) ∧ w' = w := by
  have : k = 0 ∨ k = 1 ∨ k = 2 := by omega
  rcases this with rfl | rfl | rfl
  all_goals
    go_enter Try.func38, Try.ntmps38
    go_wp2
    go_ret
    exact ⟨rfl, rfl⟩
theorem rwith_any (x k v : Nat) (w : World) (hx : x < 18446744073709551616) (hv : v < 18446744073709551616) (hk : k < 3) :
    Calls Try.prog 39 #[.int .u64 (x : Int), .int .i64 (k : Int), .int .u64 (v : Int)] w fun e w' => e = .returned (.int .u64 ((withOf x k v : Nat) : Int)) ∧ w' = w := by
  have hw1 : withOf x 1 v = x - x % 4294967296 + v % 4294967296 := rfl
  have hw2 : withOf x 2 v = x % 4294967296 + v % 4294967296 * 4294967296 := rfl
  have H1 : Hid (((withOf x 1 v : Nat) : Int) = (x : Int) - (x : Int) % 4294967296 + (v : Int) % 4294967296) := by show _ = _; rw [hw1]; omega
  have H2 : Hid (((withOf x 2 v : Nat) : Int) = (x : Int) % 4294967296 + (v : Int) % 4294967296 * 4294967296) := by show _ = _; rw [hw2]; omega
  clear hw1 hw2
  have : k = 0 ∨ k = 1 ∨ k = 2 := by omega
  rcases this with rfl | rfl | rfl
  · go_enter Try.func39, Try.ntmps39
    go_wp2
    go_ret
    exact ⟨rfl, rfl⟩
  · go_enter Try.func39, Try.ntmps39
    go_wp2
    go_ret
    exact ⟨by rw [H1.out]; rfl, rfl⟩
  · go_enter Try.func39, Try.ntmps39
    go_wp2
    go_ret
    exact ⟨by rw [H2.out]; rfl, rfl⟩

theorem at_v {n size : Int} {off : Nat} {sp : Sp} (hs : spot n off size = sp) (w : World) (hoff : off < 18446744073709551616) (hn0 : 0 ≤ n) (hn8 : n ≤ 8) :
    Calls Try.prog 17 #[.int .i64 n, .int .u64 (off : Int), .int .i64 size] w fun e w' => e = .returned (atV sp) ∧ w' = w := by
  rw [← hs]; exact at_any n size off w hoff hn0 hn8

set_option maxRecDepth 100000 in
set_option maxHeartbeats 2000000 in
theorem rread_any (s : CS) (off : Nat) (size : Int) (w : World) (hoff : off < 18446744073709551616) (ok : OkC s) :
    Calls Try.prog 19 #[.agg (cellsC s), .int .u64 (off : Int), .int .i64 size] w fun e w' => e = .returned (.tuple #[.int .u64 (((readOf s (spot s.n off size)).1 : Nat) : Int), .bool (readOf s (spot s.n off size)).2]) ∧ Below w.heap.size w w' := by
  have hk := spot_ok s.n off size
  have n8 := ok.n8
  have n0 := ok.n0
  obtain ⟨c0, c1, cl, cf⟩ := knownC (heap_alloc_new w (.cells (cellsC s) 41))
  have hB : Fr w.heap.size w (w.alloc (.cells (cellsC s) 41)) := (Fr.refl w).alloc _
  obtain ⟨sp, hs⟩ : ∃ sp, spot s.n off size = sp := ⟨_, rfl⟩
  rw [hs] at hk ⊢
  have HS := Lib.hid hs
  clear hs
  cases sp with
  | no =>
    go_enter Try.func19, Try.ntmps19
    go_wp2_with fail
    refine (at_v HS.out _ hoff n0 n8).mono ?_
    rintro e w1 ⟨rfl, rfl⟩
    unfold atV
    go_wp2
    go_ret2
    exact ⟨rfl, hB.1⟩
  | soft i =>
    have hi : i < 8 := by have := hk.1; omega
    have ci := knownCf (heap_alloc_new w (.cells (cellsC s) 41)) hi
    obtain ⟨q, hq⟩ : ∃ q, s.f i = q := ⟨_, rfl⟩
    rw [hq] at ci
    have HR : Hid (readOf s (.soft i) = (q.toNat, true)) := by show _ = _; rw [← hq]; rfl
    clear hq
    cases q
    all_goals
      go_enter Try.func19, Try.ntmps19
      go_wp2_with fail
      refine (at_v HS.out _ hoff n0 n8).mono ?_
      rintro e w1 ⟨rfl, rfl⟩
      unfold atV
      go_wp2
      go_ret2
      exact ⟨by rw [HR.out]; rfl, hB.1⟩
  | cmp i k =>
    have hi : i < 8 := by have := hk.1; omega
    have hk3 : k < 3 := by have := hk.2; omega
    have ci := knownCc (heap_alloc_new w (.cells (cellsC s) 41)) hi
    go_enter Try.func19, Try.ntmps19
    go_wp2_with fail
    refine (at_v HS.out _ hoff n0 n8).mono ?_
    rintro e w1 ⟨rfl, rfl⟩
    unfold atV
    go_wp2_with fail
    refine (rpart_any (s.c i) k _ (ok.c i) hk3).mono ?_
    rintro e w1 ⟨rfl, rfl⟩
    go_wp2
    go_ret2
    exact ⟨rfl, hB.1⟩
  | time k =>
    have hk3 : k < 3 := by have : SpOk s.n size (.time k) := hk; unfold SpOk at this; omega
    go_enter Try.func19, Try.ntmps19
    go_wp2_with fail
    refine (at_v HS.out _ hoff n0 n8).mono ?_
    rintro e w1 ⟨rfl, rfl⟩
    unfold atV
    go_wp2_with fail
    refine (rpart_any s.t k _ ok.t hk3).mono ?_
    rintro e w1 ⟨rfl, rfl⟩
    go_wp2
    go_ret2
    exact ⟨rfl, hB.1⟩
end Go.Proofs.Ytgelpapjmlbgfaa
