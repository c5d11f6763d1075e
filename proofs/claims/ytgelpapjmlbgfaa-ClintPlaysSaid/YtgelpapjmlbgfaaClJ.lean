/- The document's Write and New of the clint; clint.Fits. -/
import Derived.Test.YtgelpapjmlbgfaaClI
namespace Go.Proofs.Ytgelpapjmlbgfaa
open Go.RowKit
set_option linter.unusedSimpArgs false
set_option linter.unusedVariables false
attribute [local simp high] size27 zero27 size41 zero41

set_option maxRecDepth 100000 in
set_option maxHeartbeats 2000000 in
theorem rwrite_no (s : CS) (off : Nat) (size : Int) (v : Nat) (w : World) (hoff : off < 18446744073709551616) (hv : v < 18446744073709551616) (ok : OkC s) (hs : spot s.n off size = .no) :
    Calls Try.prog 20 #[.agg (cellsC s), .int .u64 (off : Int), .int .i64 size, .int .u64 (v : Int)] w fun e w' => e = .returned (.tuple #[.agg (cellsC (s)), .bool false]) ∧ Below w.heap.size w w' := by
  have n8 := ok.n8
  have n0 := ok.n0
  obtain ⟨w1, hw1, hf, k0, k1⟩ := two_blocks w s
  rw [hw1] at hf k0 k1
  obtain ⟨c0, c1, cl, cf⟩ := knownC k0
  have a3 := size_cellsC
  obtain ⟨g1, g2, g3, g4⟩ := two_facts w s
  have G3 := Lib.hid g3
  have G4 := Lib.hid g4
  clear g3 g4 k0 k1 hw1 hf
  have HS := Lib.hid hs
  clear hs
  go_enter Try.func20, Try.ntmps20
  go_wp2_with fail
  refine (at_v HS.out _ hoff n0 n8).mono ?_
  rintro e w1 ⟨rfl, rfl⟩
  unfold atV
  go_wp2
  exact bodyPost_ret (v := .tuple #[.agg (cellsC s), .bool false]) (by simp [results, Try.results20, asAddr, lv41 G3.out]) rfl ⟨rfl, G4.out⟩
set_option maxRecDepth 100000 in
set_option maxHeartbeats 2000000 in
theorem rwrite_soft (s : CS) (off : Nat) (size : Int) (v : Nat) (i : Nat) (s' : CS) (w : World) (hoff : off < 18446744073709551616) (hv : v < 18446744073709551616) (ok : OkC s) (hs : spot s.n off size = .soft i) (hi : i < 8) (hs' : setF s i (v % 2 == 1) = s') :
    Calls Try.prog 20 #[.agg (cellsC s), .int .u64 (off : Int), .int .i64 size, .int .u64 (v : Int)] w fun e w' => e = .returned (.tuple #[.agg (cellsC (s')), .bool true]) ∧ Below w.heap.size w w' := by
  have n8 := ok.n8
  have n0 := ok.n0
  obtain ⟨w1, hw1, hf, k0, k1⟩ := two_blocks w s
  rw [hw1] at hf k0 k1
  obtain ⟨c0, c1, cl, cf⟩ := knownC k0
  have a3 := size_cellsC
  have ci := knownCf k0 hi
  have HC := Lib.hid ((cellsC_setF s hi (v % 2 == 1)).trans (by rw [hs']))
  have HQ : Hid (((v : Int) % 2 == 1) = (v % 2 == 1)) := by show _ = _; rw [Bool.eq_iff_iff]; simp only [beq_iff_eq]; omega
  clear hs'
  obtain ⟨g1, g2, g3, g4⟩ := two_facts w s'
  have G3 := Lib.hid g3
  have G4 := Lib.hid g4
  clear g3 g4 k0 k1 hw1 hf
  have HS := Lib.hid hs
  clear hs
  go_enter Try.func20, Try.ntmps20
  go_wp2_with fail
  refine (at_v HS.out _ hoff n0 n8).mono ?_
  rintro e w1 ⟨rfl, rfl⟩
  unfold atV
  go_wp2
  rw [HQ.out, HC.out]
  simp only [g1, Result.andThen]
  rw [Oper.upon_value]
  go_wp2
  exact bodyPost_ret (v := .tuple #[.agg (cellsC s'), .bool true]) (by simp [results, Try.results20, asAddr, lv41 G3.out]) rfl ⟨rfl, G4.out⟩
set_option maxRecDepth 100000 in
set_option maxHeartbeats 2000000 in
theorem rwrite_cmp (s : CS) (off : Nat) (size : Int) (v : Nat) (i k : Nat) (s' : CS) (w : World) (hoff : off < 18446744073709551616) (hv : v < 18446744073709551616) (ok : OkC s) (hs : spot s.n off size = .cmp i k) (hi : i < 8) (hk : k < 3) (hs' : setC s i (withOf (s.c i) k v) = s') :
    Calls Try.prog 20 #[.agg (cellsC s), .int .u64 (off : Int), .int .i64 size, .int .u64 (v : Int)] w fun e w' => e = .returned (.tuple #[.agg (cellsC (s')), .bool true]) ∧ Below w.heap.size w w' := by
  have n8 := ok.n8
  have n0 := ok.n0
  obtain ⟨w1, hw1, hf, k0, k1⟩ := two_blocks w s
  rw [hw1] at hf k0 k1
  obtain ⟨c0, c1, cl, cf⟩ := knownC k0
  have a3 := size_cellsC
  have ci := knownCc k0 hi
  have HC := Lib.hid ((cellsC_setC s hi (withOf (s.c i) k v)).trans (by rw [hs']))
  clear hs'
  obtain ⟨g1, g2, g3, g4⟩ := two_facts w s'
  have G3 := Lib.hid g3
  have G4 := Lib.hid g4
  clear g3 g4 k0 k1 hw1 hf
  have HS := Lib.hid hs
  clear hs
  go_enter Try.func20, Try.ntmps20
  go_wp2_with fail
  refine (at_v HS.out _ hoff n0 n8).mono ?_
  rintro e w1 ⟨rfl, rfl⟩
  unfold atV
  go_wp2_with fail
  refine (rwith_any (s.c i) k v _ (ok.c i) hv hk).mono ?_
  rintro e w1 ⟨rfl, rfl⟩
  go_wp2
  rw [HC.out]
  simp only [g1, Result.andThen]
  rw [Oper.upon_value]
  go_wp2
  exact bodyPost_ret (v := .tuple #[.agg (cellsC s'), .bool true]) (by simp [results, Try.results20, asAddr, lv41 G3.out]) rfl ⟨rfl, G4.out⟩
set_option maxRecDepth 100000 in
set_option maxHeartbeats 2000000 in
theorem rwrite_time (s : CS) (off : Nat) (size : Int) (v : Nat) (k : Nat) (s' : CS) (w : World) (hoff : off < 18446744073709551616) (hv : v < 18446744073709551616) (ok : OkC s) (hs : spot s.n off size = .time k) (hk : k < 3) (hs' : setT s (withOf s.t k v) = s') :
    Calls Try.prog 20 #[.agg (cellsC s), .int .u64 (off : Int), .int .i64 size, .int .u64 (v : Int)] w fun e w' => e = .returned (.tuple #[.agg (cellsC (s')), .bool true]) ∧ Below w.heap.size w w' := by
  have n8 := ok.n8
  have n0 := ok.n0
  obtain ⟨w1, hw1, hf, k0, k1⟩ := two_blocks w s
  rw [hw1] at hf k0 k1
  obtain ⟨c0, c1, cl, cf⟩ := knownC k0
  have a3 := size_cellsC
  have HC := Lib.hid ((cellsC_setT s (withOf s.t k v)).trans (by rw [hs']))
  clear hs'
  obtain ⟨g1, g2, g3, g4⟩ := two_facts w s'
  have G3 := Lib.hid g3
  have G4 := Lib.hid g4
  clear g3 g4 k0 k1 hw1 hf
  have HS := Lib.hid hs
  clear hs
  go_enter Try.func20, Try.ntmps20
  go_wp2_with fail
  refine (at_v HS.out _ hoff n0 n8).mono ?_
  rintro e w1 ⟨rfl, rfl⟩
  unfold atV
  go_wp2_with fail
  refine (rwith_any s.t k v _ ok.t hv hk).mono ?_
  rintro e w1 ⟨rfl, rfl⟩
  go_wp2
  rw [HC.out]
  simp only [g1, Result.andThen]
  rw [Oper.upon_value]
  go_wp2
  exact bodyPost_ret (v := .tuple #[.agg (cellsC s'), .bool true]) (by simp [results, Try.results20, asAddr, lv41 G3.out]) rfl ⟨rfl, G4.out⟩
theorem rwrite_any (s : CS) (off : Nat) (size : Int) (v : Nat) (w : World) (hoff : off < 18446744073709551616) (hv : v < 18446744073709551616) (ok : OkC s) :
    Calls Try.prog 20 #[.agg (cellsC s), .int .u64 (off : Int), .int .i64 size, .int .u64 (v : Int)] w fun e w' => e = .returned (.tuple #[.agg (cellsC (writeOf s v (spot s.n off size)).1), .bool (writeOf s v (spot s.n off size)).2]) ∧ Below w.heap.size w w' := by
  have hk := spot_ok s.n off size
  have n8 := ok.n8
  cases hs : spot s.n off size with
  | no => exact rwrite_no s off size v w hoff hv ok hs
  | soft i => rw [hs] at hk; exact rwrite_soft s off size v i _ w hoff hv ok hs (by have := hk.1; omega) rfl
  | cmp i k => rw [hs] at hk; exact rwrite_cmp s off size v i k _ w hoff hv ok hs (by have := hk.1; omega) (by have := hk.2; omega) rfl
  | time k => rw [hs] at hk; exact rwrite_time s off size v k _ w hoff hv ok hs (by have : SpOk s.n size (.time k) := hk; unfold SpOk at this; omega) rfl
end Go.Proofs.Ytgelpapjmlbgfaa
