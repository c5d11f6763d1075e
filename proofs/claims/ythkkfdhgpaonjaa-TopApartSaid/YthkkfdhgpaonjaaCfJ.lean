/- The document's CSR file: Set. -/
import Derived.Test.YthkkfdhgpaonjaaCfK
namespace Go.Proofs.Ythkkfdhgpaonjaa
open Go.RowKit
set_option linter.unusedSimpArgs false
set_option linter.unusedVariables false

attribute [local simp high] sizeRv zeroRv
attribute [local go_sem ↓] Go.wp_at_zero Go.wp_at_succ
set_option maxRecDepth 100000 in
set_option maxHeartbeats 2000000 in
theorem rset_none (s : FS) (n : Int) (v : Nat) (w : World) (ok : OkF s) (hv : v < 18446744073709551616) (h : row19 n = none) :
    Calls Try.prog 84 #[.agg (cellsR s), .int .i64 n, .int .u64 (v : Int)] w fun e w' => e = .returned (.agg (cellsR (setOf s n v))) ∧ Below w.heap.size w w' := by
  have HO : Hid (setOf s n v = s) := by
    show _ = _
    unfold setOf
    have hh : ∀ m : Int, (row19 m).isSome = true → n ≠ m := fun m hm e => by rw [← e, h] at hm; cases hm
    rw [if_neg (hh 256 (by decide +kernel)), if_neg (hh 260 (by decide +kernel)), if_neg (hh 324 (by decide +kernel)), if_neg (hh 2816 (by decide +kernel)), if_neg (hh 2818 (by decide +kernel)), ownIx_none h]
  have HR := Lib.hid h
  clear h
  have k0 := keep_alloc (heap_alloc_new w (.cells (cellsR s) 34)) (.cells (cellsR zeroF) 34)
  have z0 : ((w.alloc (.cells (cellsR s) 34)).alloc (.cells (cellsR zeroF) 34)).heap[w.heap.size + 1]? = some (.cells (cellsR zeroF) 34) := by simpa using heap_alloc_new (w.alloc (.cells (cellsR s) 34)) (.cells (cellsR zeroF) 34)
  have F0 := ((Fr.refl w).alloc (.cells (cellsR s) 34)).alloc (.cells (cellsR zeroF) 34)
  have ls := ldR (P := Try.prog) k0
  have l1 := zeroRv
  have l2 := sizeRv
  have l3 := size_cellsR
  have fd := run_field1
  go_enter Try.func84, Try.ntmps84
  go_wp2_with fail
  refine (word_n nm_mideleg rfl _).mono ?_
  rintro e w1 ⟨rfl, hb1⟩
  have k1 := keepB hb1 k0
  have z1 := keepB hb1 z0
  have F1 := F0.step hb1
  go_wp2_with fail
  refine (rof_none HR.out _).mono ?_
  rintro e w4 ⟨rfl, hb4⟩
  have k4 := keepB hb4 k1
  have z4 := keepB hb4 z1
  have F4 := F1.step hb4
  clear ls k0 k1 z0 z1 F0 F1 hb1 hb4
  have ls := ldR (P := Try.prog) k4
  have ss := stR Try.prog z4 s
  have E2 := Lib.hid (lvR (row_at z4 (cellsR s)))
  have FF := Lib.hid (F4.row (Nat.le_succ _) (cellsR s))
  go_wp2
  refine bodyPost_ret (v := .agg (cellsR s)) (by simp [results, Try.results84, asAddr, E2.out]) rfl ⟨by rw [HO.out], FF.out.1⟩
set_option maxRecDepth 100000 in
set_option maxHeartbeats 2000000 in
theorem rset_1474 (s : FS) (v : Nat) (w : World) (ok : OkF s) (hv : v < 18446744073709551616) :
    Calls Try.prog 84 #[.agg (cellsR s), .int .i64 1474, .int .u64 (v : Int)] w fun e w' => e = .returned (.agg (cellsR (setOf s 1474 v))) ∧ Below w.heap.size w w' := by
  have HO : Hid (setOf s 1474 v = s) := rfl
  have HR : Hid (row19 1474 = some (1474, ⟨#[115, 104, 111, 111, 116]⟩, 1023)) := by show _ = _; decide +kernel
  have k0 := keep_alloc (heap_alloc_new w (.cells (cellsR s) 34)) (.cells (cellsR zeroF) 34)
  have z0 : ((w.alloc (.cells (cellsR s) 34)).alloc (.cells (cellsR zeroF) 34)).heap[w.heap.size + 1]? = some (.cells (cellsR zeroF) 34) := by simpa using heap_alloc_new (w.alloc (.cells (cellsR s) 34)) (.cells (cellsR zeroF) 34)
  have F0 := ((Fr.refl w).alloc (.cells (cellsR s) 34)).alloc (.cells (cellsR zeroF) 34)
  have ls := ldR (P := Try.prog) k0
  have l1 := zeroRv
  have l2 := sizeRv
  have l3 := size_cellsR
  have fd := run_field1
  go_enter Try.func84, Try.ntmps84
  go_wp2_with fail
  refine (word_n nm_mideleg rfl _).mono ?_
  rintro e w1 ⟨rfl, hb1⟩
  have k1 := keepB hb1 k0
  have z1 := keepB hb1 z0
  have F1 := F0.step hb1
  go_wp2_with fail
  refine (rof_some HR.out _).mono ?_
  rintro e w4 ⟨rfl, hb4⟩
  have k4 := keepB hb4 k1
  have z4 := keepB hb4 z1
  have F4 := F1.step hb4
  clear ls k0 k1 z0 z1 F0 F1 hb1 hb4
  have ls := ldR (P := Try.prog) k4
  have ss := stR Try.prog z4 s
  have E2 := Lib.hid (lvR (row_at z4 (cellsR s)))
  have FF := Lib.hid (F4.row (Nat.le_succ _) (cellsR s))
  go_wp2
  refine bodyPost_ret (v := .agg (cellsR s)) (by simp [results, Try.results84, asAddr, E2.out]) rfl ⟨by rw [HO.out], FF.out.1⟩
set_option maxRecDepth 100000 in
set_option maxHeartbeats 2000000 in
theorem rset_769 (s : FS) (v : Nat) (w : World) (ok : OkF s) (hv : v < 18446744073709551616) :
    Calls Try.prog 84 #[.agg (cellsR s), .int .i64 769, .int .u64 (v : Int)] w fun e w' => e = .returned (.agg (cellsR (setOf s 769 v))) ∧ Below w.heap.size w w' := by
  have HO : Hid (setOf s 769 v = s) := rfl
  have HR : Hid (row19 769 = some (769, ⟨#[109, 105, 115, 97]⟩, 0)) := by show _ = _; decide +kernel
  have k0 := keep_alloc (heap_alloc_new w (.cells (cellsR s) 34)) (.cells (cellsR zeroF) 34)
  have z0 : ((w.alloc (.cells (cellsR s) 34)).alloc (.cells (cellsR zeroF) 34)).heap[w.heap.size + 1]? = some (.cells (cellsR zeroF) 34) := by simpa using heap_alloc_new (w.alloc (.cells (cellsR s) 34)) (.cells (cellsR zeroF) 34)
  have F0 := ((Fr.refl w).alloc (.cells (cellsR s) 34)).alloc (.cells (cellsR zeroF) 34)
  have ls := ldR (P := Try.prog) k0
  have l1 := zeroRv
  have l2 := sizeRv
  have l3 := size_cellsR
  have fd := run_field1
  go_enter Try.func84, Try.ntmps84
  go_wp2_with fail
  refine (word_n nm_mideleg rfl _).mono ?_
  rintro e w1 ⟨rfl, hb1⟩
  have k1 := keepB hb1 k0
  have z1 := keepB hb1 z0
  have F1 := F0.step hb1
  go_wp2_with fail
  refine (rof_some HR.out _).mono ?_
  rintro e w4 ⟨rfl, hb4⟩
  have k4 := keepB hb4 k1
  have z4 := keepB hb4 z1
  have F4 := F1.step hb4
  clear ls k0 k1 z0 z1 F0 F1 hb1 hb4
  have ls := ldR (P := Try.prog) k4
  have ss := stR Try.prog z4 s
  have E2 := Lib.hid (lvR (row_at z4 (cellsR s)))
  have FF := Lib.hid (F4.row (Nat.le_succ _) (cellsR s))
  go_wp2
  refine bodyPost_ret (v := .agg (cellsR s)) (by simp [results, Try.results84, asAddr, E2.out]) rfl ⟨by rw [HO.out], FF.out.1⟩
set_option maxRecDepth 100000 in
set_option maxHeartbeats 2000000 in
theorem rset_3072 (s : FS) (v : Nat) (w : World) (ok : OkF s) (hv : v < 18446744073709551616) :
    Calls Try.prog 84 #[.agg (cellsR s), .int .i64 3072, .int .u64 (v : Int)] w fun e w' => e = .returned (.agg (cellsR (setOf s 3072 v))) ∧ Below w.heap.size w w' := by
  have HO : Hid (setOf s 3072 v = s) := rfl
  have HR : Hid (row19 3072 = some (3072, ⟨#[99, 121, 99, 108, 101]⟩, 0)) := by show _ = _; decide +kernel
  have k0 := keep_alloc (heap_alloc_new w (.cells (cellsR s) 34)) (.cells (cellsR zeroF) 34)
  have z0 : ((w.alloc (.cells (cellsR s) 34)).alloc (.cells (cellsR zeroF) 34)).heap[w.heap.size + 1]? = some (.cells (cellsR zeroF) 34) := by simpa using heap_alloc_new (w.alloc (.cells (cellsR s) 34)) (.cells (cellsR zeroF) 34)
  have F0 := ((Fr.refl w).alloc (.cells (cellsR s) 34)).alloc (.cells (cellsR zeroF) 34)
  have ls := ldR (P := Try.prog) k0
  have l1 := zeroRv
  have l2 := sizeRv
  have l3 := size_cellsR
  have fd := run_field1
  go_enter Try.func84, Try.ntmps84
  go_wp2_with fail
  refine (word_n nm_mideleg rfl _).mono ?_
  rintro e w1 ⟨rfl, hb1⟩
  have k1 := keepB hb1 k0
  have z1 := keepB hb1 z0
  have F1 := F0.step hb1
  go_wp2_with fail
  refine (rof_some HR.out _).mono ?_
  rintro e w4 ⟨rfl, hb4⟩
  have k4 := keepB hb4 k1
  have z4 := keepB hb4 z1
  have F4 := F1.step hb4
  clear ls k0 k1 z0 z1 F0 F1 hb1 hb4
  have ls := ldR (P := Try.prog) k4
  have ss := stR Try.prog z4 s
  have E2 := Lib.hid (lvR (row_at z4 (cellsR s)))
  have FF := Lib.hid (F4.row (Nat.le_succ _) (cellsR s))
  go_wp2
  refine bodyPost_ret (v := .agg (cellsR s)) (by simp [results, Try.results84, asAddr, E2.out]) rfl ⟨by rw [HO.out], FF.out.1⟩
set_option maxRecDepth 100000 in
set_option maxHeartbeats 2000000 in
theorem rset_3073 (s : FS) (v : Nat) (w : World) (ok : OkF s) (hv : v < 18446744073709551616) :
    Calls Try.prog 84 #[.agg (cellsR s), .int .i64 3073, .int .u64 (v : Int)] w fun e w' => e = .returned (.agg (cellsR (setOf s 3073 v))) ∧ Below w.heap.size w w' := by
  have HO : Hid (setOf s 3073 v = s) := rfl
  have HR : Hid (row19 3073 = some (3073, ⟨#[116, 105, 109, 101]⟩, 0)) := by show _ = _; decide +kernel
  have k0 := keep_alloc (heap_alloc_new w (.cells (cellsR s) 34)) (.cells (cellsR zeroF) 34)
  have z0 : ((w.alloc (.cells (cellsR s) 34)).alloc (.cells (cellsR zeroF) 34)).heap[w.heap.size + 1]? = some (.cells (cellsR zeroF) 34) := by simpa using heap_alloc_new (w.alloc (.cells (cellsR s) 34)) (.cells (cellsR zeroF) 34)
  have F0 := ((Fr.refl w).alloc (.cells (cellsR s) 34)).alloc (.cells (cellsR zeroF) 34)
  have ls := ldR (P := Try.prog) k0
  have l1 := zeroRv
  have l2 := sizeRv
  have l3 := size_cellsR
  have fd := run_field1
  go_enter Try.func84, Try.ntmps84
  go_wp2_with fail
  refine (word_n nm_mideleg rfl _).mono ?_
  rintro e w1 ⟨rfl, hb1⟩
  have k1 := keepB hb1 k0
  have z1 := keepB hb1 z0
  have F1 := F0.step hb1
  go_wp2_with fail
  refine (rof_some HR.out _).mono ?_
  rintro e w4 ⟨rfl, hb4⟩
  have k4 := keepB hb4 k1
  have z4 := keepB hb4 z1
  have F4 := F1.step hb4
  clear ls k0 k1 z0 z1 F0 F1 hb1 hb4
  have ls := ldR (P := Try.prog) k4
  have ss := stR Try.prog z4 s
  have E2 := Lib.hid (lvR (row_at z4 (cellsR s)))
  have FF := Lib.hid (F4.row (Nat.le_succ _) (cellsR s))
  go_wp2
  refine bodyPost_ret (v := .agg (cellsR s)) (by simp [results, Try.results84, asAddr, E2.out]) rfl ⟨by rw [HO.out], FF.out.1⟩
set_option maxRecDepth 100000 in
set_option maxHeartbeats 2000000 in
theorem rset_3074 (s : FS) (v : Nat) (w : World) (ok : OkF s) (hv : v < 18446744073709551616) :
    Calls Try.prog 84 #[.agg (cellsR s), .int .i64 3074, .int .u64 (v : Int)] w fun e w' => e = .returned (.agg (cellsR (setOf s 3074 v))) ∧ Below w.heap.size w w' := by
  have HO : Hid (setOf s 3074 v = s) := rfl
  have HR : Hid (row19 3074 = some (3074, ⟨#[105, 110, 115, 116, 114, 101, 116]⟩, 0)) := by show _ = _; decide +kernel
  have k0 := keep_alloc (heap_alloc_new w (.cells (cellsR s) 34)) (.cells (cellsR zeroF) 34)
  have z0 : ((w.alloc (.cells (cellsR s) 34)).alloc (.cells (cellsR zeroF) 34)).heap[w.heap.size + 1]? = some (.cells (cellsR zeroF) 34) := by simpa using heap_alloc_new (w.alloc (.cells (cellsR s) 34)) (.cells (cellsR zeroF) 34)
  have F0 := ((Fr.refl w).alloc (.cells (cellsR s) 34)).alloc (.cells (cellsR zeroF) 34)
  have ls := ldR (P := Try.prog) k0
  have l1 := zeroRv
  have l2 := sizeRv
  have l3 := size_cellsR
  have fd := run_field1
  go_enter Try.func84, Try.ntmps84
  go_wp2_with fail
  refine (word_n nm_mideleg rfl _).mono ?_
  rintro e w1 ⟨rfl, hb1⟩
  have k1 := keepB hb1 k0
  have z1 := keepB hb1 z0
  have F1 := F0.step hb1
  go_wp2_with fail
  refine (rof_some HR.out _).mono ?_
  rintro e w4 ⟨rfl, hb4⟩
  have k4 := keepB hb4 k1
  have z4 := keepB hb4 z1
  have F4 := F1.step hb4
  clear ls k0 k1 z0 z1 F0 F1 hb1 hb4
  have ls := ldR (P := Try.prog) k4
  have ss := stR Try.prog z4 s
  have E2 := Lib.hid (lvR (row_at z4 (cellsR s)))
  have FF := Lib.hid (F4.row (Nat.le_succ _) (cellsR s))
  go_wp2
  refine bodyPost_ret (v := .agg (cellsR s)) (by simp [results, Try.results84, asAddr, E2.out]) rfl ⟨by rw [HO.out], FF.out.1⟩
set_option maxRecDepth 100000 in
set_option maxHeartbeats 2000000 in
theorem rset_3857 (s : FS) (v : Nat) (w : World) (ok : OkF s) (hv : v < 18446744073709551616) :
    Calls Try.prog 84 #[.agg (cellsR s), .int .i64 3857, .int .u64 (v : Int)] w fun e w' => e = .returned (.agg (cellsR (setOf s 3857 v))) ∧ Below w.heap.size w w' := by
  have HO : Hid (setOf s 3857 v = s) := rfl
  have HR : Hid (row19 3857 = some (3857, ⟨#[109, 118, 101, 110, 100, 111, 114, 105, 100]⟩, 0)) := by show _ = _; decide +kernel
  have k0 := keep_alloc (heap_alloc_new w (.cells (cellsR s) 34)) (.cells (cellsR zeroF) 34)
  have z0 : ((w.alloc (.cells (cellsR s) 34)).alloc (.cells (cellsR zeroF) 34)).heap[w.heap.size + 1]? = some (.cells (cellsR zeroF) 34) := by simpa using heap_alloc_new (w.alloc (.cells (cellsR s) 34)) (.cells (cellsR zeroF) 34)
  have F0 := ((Fr.refl w).alloc (.cells (cellsR s) 34)).alloc (.cells (cellsR zeroF) 34)
  have ls := ldR (P := Try.prog) k0
  have l1 := zeroRv
  have l2 := sizeRv
  have l3 := size_cellsR
  have fd := run_field1
  go_enter Try.func84, Try.ntmps84
  go_wp2_with fail
  refine (word_n nm_mideleg rfl _).mono ?_
  rintro e w1 ⟨rfl, hb1⟩
  have k1 := keepB hb1 k0
  have z1 := keepB hb1 z0
  have F1 := F0.step hb1
  go_wp2_with fail
  refine (rof_some HR.out _).mono ?_
  rintro e w4 ⟨rfl, hb4⟩
  have k4 := keepB hb4 k1
  have z4 := keepB hb4 z1
  have F4 := F1.step hb4
  clear ls k0 k1 z0 z1 F0 F1 hb1 hb4
  have ls := ldR (P := Try.prog) k4
  have ss := stR Try.prog z4 s
  have E2 := Lib.hid (lvR (row_at z4 (cellsR s)))
  have FF := Lib.hid (F4.row (Nat.le_succ _) (cellsR s))
  go_wp2
  refine bodyPost_ret (v := .agg (cellsR s)) (by simp [results, Try.results84, asAddr, E2.out]) rfl ⟨by rw [HO.out], FF.out.1⟩
set_option maxRecDepth 100000 in
set_option maxHeartbeats 2000000 in
theorem rset_3858 (s : FS) (v : Nat) (w : World) (ok : OkF s) (hv : v < 18446744073709551616) :
    Calls Try.prog 84 #[.agg (cellsR s), .int .i64 3858, .int .u64 (v : Int)] w fun e w' => e = .returned (.agg (cellsR (setOf s 3858 v))) ∧ Below w.heap.size w w' := by
  have HO : Hid (setOf s 3858 v = s) := rfl
  have HR : Hid (row19 3858 = some (3858, ⟨#[109, 97, 114, 99, 104, 105, 100]⟩, 0)) := by show _ = _; decide +kernel
  have k0 := keep_alloc (heap_alloc_new w (.cells (cellsR s) 34)) (.cells (cellsR zeroF) 34)
  have z0 : ((w.alloc (.cells (cellsR s) 34)).alloc (.cells (cellsR zeroF) 34)).heap[w.heap.size + 1]? = some (.cells (cellsR zeroF) 34) := by simpa using heap_alloc_new (w.alloc (.cells (cellsR s) 34)) (.cells (cellsR zeroF) 34)
  have F0 := ((Fr.refl w).alloc (.cells (cellsR s) 34)).alloc (.cells (cellsR zeroF) 34)
  have ls := ldR (P := Try.prog) k0
  have l1 := zeroRv
  have l2 := sizeRv
  have l3 := size_cellsR
  have fd := run_field1
  go_enter Try.func84, Try.ntmps84
  go_wp2_with fail
  refine (word_n nm_mideleg rfl _).mono ?_
  rintro e w1 ⟨rfl, hb1⟩
  have k1 := keepB hb1 k0
  have z1 := keepB hb1 z0
  have F1 := F0.step hb1
  go_wp2_with fail
  refine (rof_some HR.out _).mono ?_
  rintro e w4 ⟨rfl, hb4⟩
  have k4 := keepB hb4 k1
  have z4 := keepB hb4 z1
  have F4 := F1.step hb4
  clear ls k0 k1 z0 z1 F0 F1 hb1 hb4
  have ls := ldR (P := Try.prog) k4
  have ss := stR Try.prog z4 s
  have E2 := Lib.hid (lvR (row_at z4 (cellsR s)))
  have FF := Lib.hid (F4.row (Nat.le_succ _) (cellsR s))
  go_wp2
  refine bodyPost_ret (v := .agg (cellsR s)) (by simp [results, Try.results84, asAddr, E2.out]) rfl ⟨by rw [HO.out], FF.out.1⟩
set_option maxRecDepth 100000 in
set_option maxHeartbeats 2000000 in
theorem rset_3859 (s : FS) (v : Nat) (w : World) (ok : OkF s) (hv : v < 18446744073709551616) :
    Calls Try.prog 84 #[.agg (cellsR s), .int .i64 3859, .int .u64 (v : Int)] w fun e w' => e = .returned (.agg (cellsR (setOf s 3859 v))) ∧ Below w.heap.size w w' := by
  have HO : Hid (setOf s 3859 v = s) := rfl
  have HR : Hid (row19 3859 = some (3859, ⟨#[109, 105, 109, 112, 105, 100]⟩, 0)) := by show _ = _; decide +kernel
  have k0 := keep_alloc (heap_alloc_new w (.cells (cellsR s) 34)) (.cells (cellsR zeroF) 34)
  have z0 : ((w.alloc (.cells (cellsR s) 34)).alloc (.cells (cellsR zeroF) 34)).heap[w.heap.size + 1]? = some (.cells (cellsR zeroF) 34) := by simpa using heap_alloc_new (w.alloc (.cells (cellsR s) 34)) (.cells (cellsR zeroF) 34)
  have F0 := ((Fr.refl w).alloc (.cells (cellsR s) 34)).alloc (.cells (cellsR zeroF) 34)
  have ls := ldR (P := Try.prog) k0
  have l1 := zeroRv
  have l2 := sizeRv
  have l3 := size_cellsR
  have fd := run_field1
  go_enter Try.func84, Try.ntmps84
  go_wp2_with fail
  refine (word_n nm_mideleg rfl _).mono ?_
  rintro e w1 ⟨rfl, hb1⟩
  have k1 := keepB hb1 k0
  have z1 := keepB hb1 z0
  have F1 := F0.step hb1
  go_wp2_with fail
  refine (rof_some HR.out _).mono ?_
  rintro e w4 ⟨rfl, hb4⟩
  have k4 := keepB hb4 k1
  have z4 := keepB hb4 z1
  have F4 := F1.step hb4
  clear ls k0 k1 z0 z1 F0 F1 hb1 hb4
  have ls := ldR (P := Try.prog) k4
  have ss := stR Try.prog z4 s
  have E2 := Lib.hid (lvR (row_at z4 (cellsR s)))
  have FF := Lib.hid (F4.row (Nat.le_succ _) (cellsR s))
  go_wp2
  refine bodyPost_ret (v := .agg (cellsR s)) (by simp [results, Try.results84, asAddr, E2.out]) rfl ⟨by rw [HO.out], FF.out.1⟩
set_option maxRecDepth 100000 in
set_option maxHeartbeats 2000000 in
theorem rset_3860 (s : FS) (v : Nat) (w : World) (ok : OkF s) (hv : v < 18446744073709551616) :
    Calls Try.prog 84 #[.agg (cellsR s), .int .i64 3860, .int .u64 (v : Int)] w fun e w' => e = .returned (.agg (cellsR (setOf s 3860 v))) ∧ Below w.heap.size w w' := by
  have HO : Hid (setOf s 3860 v = s) := rfl
  have HR : Hid (row19 3860 = some (3860, ⟨#[109, 104, 97, 114, 116, 105, 100]⟩, 0)) := by show _ = _; decide +kernel
  have k0 := keep_alloc (heap_alloc_new w (.cells (cellsR s) 34)) (.cells (cellsR zeroF) 34)
  have z0 : ((w.alloc (.cells (cellsR s) 34)).alloc (.cells (cellsR zeroF) 34)).heap[w.heap.size + 1]? = some (.cells (cellsR zeroF) 34) := by simpa using heap_alloc_new (w.alloc (.cells (cellsR s) 34)) (.cells (cellsR zeroF) 34)
  have F0 := ((Fr.refl w).alloc (.cells (cellsR s) 34)).alloc (.cells (cellsR zeroF) 34)
  have ls := ldR (P := Try.prog) k0
  have l1 := zeroRv
  have l2 := sizeRv
  have l3 := size_cellsR
  have fd := run_field1
  go_enter Try.func84, Try.ntmps84
  go_wp2_with fail
  refine (word_n nm_mideleg rfl _).mono ?_
  rintro e w1 ⟨rfl, hb1⟩
  have k1 := keepB hb1 k0
  have z1 := keepB hb1 z0
  have F1 := F0.step hb1
  go_wp2_with fail
  refine (rof_some HR.out _).mono ?_
  rintro e w4 ⟨rfl, hb4⟩
  have k4 := keepB hb4 k1
  have z4 := keepB hb4 z1
  have F4 := F1.step hb4
  clear ls k0 k1 z0 z1 F0 F1 hb1 hb4
  have ls := ldR (P := Try.prog) k4
  have ss := stR Try.prog z4 s
  have E2 := Lib.hid (lvR (row_at z4 (cellsR s)))
  have FF := Lib.hid (F4.row (Nat.le_succ _) (cellsR s))
  go_wp2
  refine bodyPost_ret (v := .agg (cellsR s)) (by simp [results, Try.results84, asAddr, E2.out]) rfl ⟨by rw [HO.out], FF.out.1⟩
set_option maxRecDepth 100000 in
set_option maxHeartbeats 4000000 in
theorem rset_256 (s : FS) (v : Nat) (w : World) (ok : OkF s) (hv : v < 18446744073709551616) :
    Calls Try.prog 84 #[.agg (cellsR s), .int .i64 256, .int .u64 (v : Int)] w fun e w' => e = .returned (.agg (cellsR (setOf s 256 v))) ∧ Below w.heap.size w w' := by
  have HR : Hid (row19 256 = some (256, ⟨#[115, 115, 116, 97, 116, 117, 115]⟩, 786722)) := by show _ = _; decide +kernel
  obtain ⟨y, hy⟩ : ∃ y, legalOf 256 (s.g 7) v = y := ⟨_, rfl⟩
  obtain ⟨s', hs'⟩ : ∃ s', setG s 7 y = s' := ⟨_, rfl⟩
  have HO : Hid (setOf s 256 v = s') := by show _ = _; rw [← hs', ← hy]; rfl
  have HY := Lib.hid hy
  have HS := Lib.hid hs'
  have h7 := ok.g 7
  clear hy hs'
  have lsA : ∀ w' : World, w'.heap[w.heap.size]? = some (.cells (cellsR s) 34) → (loadCellsFrom ⟨w.heap.size, 0, none⟩ 0 szR #[]).run Try.prog w' = .ok (cellsR s) w' := fun w' h => ldR h
  have stA : ∀ w' : World, w'.heap[w.heap.size + 1]? = some (.cells (cellsR zeroF) 34) → (storeCells ⟨w.heap.size + 1, 0, none⟩ (cellsR s').toList).run Try.prog w' = .ok () (w'.setRow (w.heap.size + 1) (cellsR s')) := fun w' h => stR _ h s'
  have k0 := keep_alloc (heap_alloc_new w (.cells (cellsR s) 34)) (.cells (cellsR zeroF) 34)
  have z0 : ((w.alloc (.cells (cellsR s) 34)).alloc (.cells (cellsR zeroF) 34)).heap[w.heap.size + 1]? = some (.cells (cellsR zeroF) 34) := by simpa using heap_alloc_new (w.alloc (.cells (cellsR s) 34)) (.cells (cellsR zeroF) 34)
  have F0 := ((Fr.refl w).alloc (.cells (cellsR s) 34)).alloc (.cells (cellsR zeroF) 34)
  have ls := ldR (P := Try.prog) k0
  have l1 := zeroRv
  have l2 := sizeRv
  have l3 := size_cellsR
  have fd := run_field1
  go_enter Try.func84, Try.ntmps84
  go_wp2_with fail
  refine (word_n nm_mideleg rfl _).mono ?_
  rintro e w1 ⟨rfl, hb1⟩
  have k1 := keepB hb1 k0
  have z1 := keepB hb1 z0
  have F1 := F0.step hb1
  go_wp2_with fail
  refine (rof_some HR.out _).mono ?_
  rintro e w4 ⟨rfl, hb4⟩
  have k4 := keepB hb4 k1
  have z4 := keepB hb4 z1
  have F4 := F1.step hb4
  clear ls k0 k1 z0 z1 F0 F1 hb1 hb4
  have ls := ldR (P := Try.prog) k4
  clear ls
  go_wp2_with fail
  obtain ⟨W5, hW5⟩ : ∃ W5, w4 = W5 := ⟨_, rfl⟩
  rw [hW5] at F4 k4 z4 ⊢
  clear hW5
  have hS5 : (Fr w.heap.size w W5.drew ∧ W5.drew.heap[w.heap.size]? = some (.cells (cellsR s) 34)) ∧ W5.drew.heap[w.heap.size + 1]? = some (.cells (cellsR zeroF) 34) := ⟨⟨F4.drew, k4⟩, z4⟩
  have ls5 := ldR (P := Try.prog) hS5.1.2
  clear F4 k4 z4
  go_region_with (first
      | (go_at_call 90; refine (word_n nm_mstatus rfl _).mono ?_; rintro e w' ⟨rfl, hb⟩; have hS := heldR2 hb ‹_›)
      | (go_at_call 113; refine (rlay_v HY.out _ h7 hv).mono ?_; rintro e w' ⟨rfl, hb⟩; have hS := heldR2 hb ‹_›)
      | (go_at_call 83; refine (with_n nm_mstatus HS.out _).mono ?_; rintro e w' ⟨rfl, hb⟩; have hS := heldR2 hb ‹_›))
  all_goals
    have E2 := Lib.hid (lvR (row_at hS.2 (cellsR s')))
    have FF := Lib.hid (hS.1.1.row (Nat.le_succ _) (cellsR s'))
    clear lsA stA ls5
    go_wp2
    refine bodyPost_ret (v := .agg (cellsR s')) (by simp [results, Try.results84, asAddr, E2.out]) rfl ⟨by rw [HO.out], FF.out.1⟩
theorem sip_on (x v d : Nat) (hx : x < 18446744073709551616) (h : d.testBit 1 = true) : blend x v (d &&& 2) = setB x 1 (v.testBit 1) := by
  refine ext64 (blend_lt _ _ _) (setB_lt _ _ _) fun i hi => ?_
  rw [bblend_bit _ _ _ i hi, setB_bit]
  have h2 : Nat.testBit 2 i = decide (i = 1) := by
    have := Nat.testBit_two_pow (n := 1) (m := i)
    simp at this
    rw [this]
    by_cases hh : i = 1 <;> simp [hh] <;> omega
  rw [Nat.testBit_and, h2]
  by_cases hh : i = 1
  · subst hh; simp [h]
  · simp [hh, hi]
theorem sip_off (x v d : Nat) (hx : x < 18446744073709551616) (h : d.testBit 1 = false) : blend x v (d &&& 2) = x := by
  refine ext64 (blend_lt _ _ _) hx fun i hi => ?_
  rw [bblend_bit _ _ _ i hi]
  have h2 : Nat.testBit 2 i = decide (i = 1) := by
    have := Nat.testBit_two_pow (n := 1) (m := i)
    simp at this
    rw [this]
    by_cases hh : i = 1 <;> simp [hh] <;> omega
  rw [Nat.testBit_and, h2]
  by_cases hh : i = 1
  · subst hh; simp [h]
  · simp [hh]
theorem one_b : IntB 1 := by unfold IntB; omega
theorem put1_v {x y : Nat} {b : Bool} (h : setB x 1 b = y) (w : World) (hx : x < 18446744073709551616) :
    Calls Try.prog 77 #[.int .u64 (x : Int), .int .i64 1, .int .i64 1, .int .u64 ((b.toNat : Nat) : Int)] w fun e w' => e = .returned (.int .u64 (y : Int)) ∧ Below w.heap.size w w' := by
  have := put_any x b.toNat 1 1 w hx (ones_lt b) one_b one_b
  rw [show W64 (putF x b.toNat (1 : Int) 1) = setB x 1 b from put_one x 1 b (by omega), h] at this
  exact this
set_option maxRecDepth 100000 in
set_option maxHeartbeats 4000000 in
theorem rset_324on (s : FS) (v : Nat) (w : World) (ok : OkF s) (hv : v < 18446744073709551616) (hd : (s.g 9).testBit 1 = true) :
    Calls Try.prog 84 #[.agg (cellsR s), .int .i64 324, .int .u64 (v : Int)] w fun e w' => e = .returned (.agg (cellsR (setOf s 324 v))) ∧ Below w.heap.size w w' := by
  have HR : Hid (row19 324 = some (324, ⟨#[115, 105, 112]⟩, 2)) := by show _ = _; decide +kernel
  obtain ⟨y, hy⟩ : ∃ y, blend (s.g 17) v (s.g 9 &&& 2) = y := ⟨_, rfl⟩
  obtain ⟨s', hs'⟩ : ∃ s', setG s 17 y = s' := ⟨_, rfl⟩
  have h9 := ok.g 9
  have h17 := ok.g 17
  have HO : Hid (setOf s 324 v = s') := by show _ = _; rw [← hs', ← hy]; rfl
  have HD : Hid (bitN (s.g 9) 1 = 1) := by show _ = _; rw [show (1 : Int) = ((1 : Nat) : Int) from rfl, bitv _ 1 h9 (by omega), hd]; rfl
  have HV : Hid (bitN v 1 = (v.testBit 1).toNat) := by show _ = _; exact bitv v 1 hv (by omega)
  have HP : Hid (setB (s.g 17) 1 (v.testBit 1) = y) := by show _ = _; rw [← hy, sip_on _ _ _ h17 hd]
  have HS := Lib.hid hs'
  clear hy hs' hd 
  have k0 := keep_alloc (heap_alloc_new w (.cells (cellsR s) 34)) (.cells (cellsR zeroF) 34)
  have z0 : ((w.alloc (.cells (cellsR s) 34)).alloc (.cells (cellsR zeroF) 34)).heap[w.heap.size + 1]? = some (.cells (cellsR zeroF) 34) := by simpa using heap_alloc_new (w.alloc (.cells (cellsR s) 34)) (.cells (cellsR zeroF) 34)
  have F0 := ((Fr.refl w).alloc (.cells (cellsR s) 34)).alloc (.cells (cellsR zeroF) 34)
  have ls := ldR (P := Try.prog) k0
  have l1 := zeroRv
  have l2 := sizeRv
  have l3 := size_cellsR
  have fd := run_field1
  go_enter Try.func84, Try.ntmps84
  go_wp2_with fail
  refine (word_n nm_mideleg rfl _).mono ?_
  rintro e w1 ⟨rfl, hb1⟩
  have k1 := keepB hb1 k0
  have z1 := keepB hb1 z0
  have F1 := F0.step hb1
  go_wp2_with fail
  refine (rof_some HR.out _).mono ?_
  rintro e w4 ⟨rfl, hb4⟩
  have k4 := keepB hb4 k1
  have z4 := keepB hb4 z1
  have F4 := F1.step hb4
  clear ls k0 k1 z0 z1 F0 F1 hb1 hb4
  have ls := ldR (P := Try.prog) k4
  go_wp2_with fail
  refine (word_n nm_mip rfl _).mono ?_
  rintro e w5 ⟨rfl, hb5⟩
  have k5 := keepB hb5 k4
  have z5 := keepB hb5 z4
  have F5 := F4.step hb5
  clear F4 k4 z4 hb5 ls
  have ls := ldR (P := Try.prog) k5
  go_wp2_with fail
  refine (bit_v HD.out _ h9).mono ?_
  rintro e w6 ⟨rfl, rfl⟩
  go_wp2_with fail
  refine (bit_v HV.out _ hv).mono ?_
  rintro e w6 ⟨rfl, rfl⟩
  go_wp2_with fail
  refine (put1_v HP.out _ h17).mono ?_
  rintro e w6 ⟨rfl, hb6⟩
  have k6 := keepB hb6 k5
  have z6 := keepB hb6 z5
  have F6 := F5.step hb6
  clear F5 k5 z5 hb6 ls
  have ls := ldR (P := Try.prog) k6
  go_wp2_with fail
  refine (with_n nm_mip HS.out _).mono ?_
  rintro e w7 ⟨rfl, hb7⟩
  have z7 := keepB hb7 z6
  have F7 := F6.step hb7
  have ss := stR Try.prog z7 s'
  have E2 := Lib.hid (lvR (row_at z7 (cellsR s')))
  have FF := Lib.hid (F7.row (Nat.le_succ _) (cellsR s'))
  go_wp2
  refine bodyPost_ret (v := .agg (cellsR s')) (by simp [results, Try.results84, asAddr, E2.out]) rfl ⟨by rw [HO.out], FF.out.1⟩
set_option maxRecDepth 100000 in
set_option maxHeartbeats 4000000 in
theorem rset_324off (s : FS) (v : Nat) (w : World) (ok : OkF s) (hv : v < 18446744073709551616) (hd : (s.g 9).testBit 1 = false) :
    Calls Try.prog 84 #[.agg (cellsR s), .int .i64 324, .int .u64 (v : Int)] w fun e w' => e = .returned (.agg (cellsR (setOf s 324 v))) ∧ Below w.heap.size w w' := by
  have HR : Hid (row19 324 = some (324, ⟨#[115, 105, 112]⟩, 2)) := by show _ = _; decide +kernel
  obtain ⟨y, hy⟩ : ∃ y, blend (s.g 17) v (s.g 9 &&& 2) = y := ⟨_, rfl⟩
  obtain ⟨s', hs'⟩ : ∃ s', setG s 17 y = s' := ⟨_, rfl⟩
  have h9 := ok.g 9
  have h17 := ok.g 17
  have HO : Hid (setOf s 324 v = s') := by show _ = _; rw [← hs', ← hy]; rfl
  have HD : Hid (bitN (s.g 9) 1 = 0) := by show _ = _; rw [show (1 : Int) = ((1 : Nat) : Int) from rfl, bitv _ 1 h9 (by omega), hd]; rfl
  have HV : Hid (bitN v 1 = (v.testBit 1).toNat) := by show _ = _; exact bitv v 1 hv (by omega)
  have hP : s.g 17 = y := by rw [← hy, sip_off _ _ _ h17 hd]
  have HS : Hid (setG s 17 (s.g 17) = s') := by show _ = _; rw [hP]; exact hs'
  clear hy hs' hd hP
  have k0 := keep_alloc (heap_alloc_new w (.cells (cellsR s) 34)) (.cells (cellsR zeroF) 34)
  have z0 : ((w.alloc (.cells (cellsR s) 34)).alloc (.cells (cellsR zeroF) 34)).heap[w.heap.size + 1]? = some (.cells (cellsR zeroF) 34) := by simpa using heap_alloc_new (w.alloc (.cells (cellsR s) 34)) (.cells (cellsR zeroF) 34)
  have F0 := ((Fr.refl w).alloc (.cells (cellsR s) 34)).alloc (.cells (cellsR zeroF) 34)
  have ls := ldR (P := Try.prog) k0
  have l1 := zeroRv
  have l2 := sizeRv
  have l3 := size_cellsR
  have fd := run_field1
  go_enter Try.func84, Try.ntmps84
  go_wp2_with fail
  refine (word_n nm_mideleg rfl _).mono ?_
  rintro e w1 ⟨rfl, hb1⟩
  have k1 := keepB hb1 k0
  have z1 := keepB hb1 z0
  have F1 := F0.step hb1
  go_wp2_with fail
  refine (rof_some HR.out _).mono ?_
  rintro e w4 ⟨rfl, hb4⟩
  have k4 := keepB hb4 k1
  have z4 := keepB hb4 z1
  have F4 := F1.step hb4
  clear ls k0 k1 z0 z1 F0 F1 hb1 hb4
  have ls := ldR (P := Try.prog) k4
  go_wp2_with fail
  refine (word_n nm_mip rfl _).mono ?_
  rintro e w5 ⟨rfl, hb5⟩
  have k5 := keepB hb5 k4
  have z5 := keepB hb5 z4
  have F5 := F4.step hb5
  clear F4 k4 z4 hb5 ls
  have ls := ldR (P := Try.prog) k5
  go_wp2_with fail
  refine (bit_v HD.out _ h9).mono ?_
  rintro e w6 ⟨rfl, rfl⟩
  have k6 := k5
  have z6 := z5
  have F6 := F5
  go_wp2_with fail
  refine (with_n nm_mip HS.out _).mono ?_
  rintro e w7 ⟨rfl, hb7⟩
  have z7 := keepB hb7 z6
  have F7 := F6.step hb7
  have ss := stR Try.prog z7 s'
  have E2 := Lib.hid (lvR (row_at z7 (cellsR s')))
  have FF := Lib.hid (F7.row (Nat.le_succ _) (cellsR s'))
  go_wp2
  refine bodyPost_ret (v := .agg (cellsR s')) (by simp [results, Try.results84, asAddr, E2.out]) rfl ⟨by rw [HO.out], FF.out.1⟩
set_option maxRecDepth 100000 in
set_option maxHeartbeats 4000000 in
theorem rset_2816 (s : FS) (v : Nat) (w : World) (ok : OkF s) (hv : v < 18446744073709551616) :
    Calls Try.prog 84 #[.agg (cellsR s), .int .i64 2816, .int .u64 (v : Int)] w fun e w' => e = .returned (.agg (cellsR (setOf s 2816 v))) ∧ Below w.heap.size w w' := by
  have HR : Hid (row19 2816 = some (2816, ⟨#[109, 99, 121, 99, 108, 101]⟩, 18446744073709551615)) := by show _ = _; decide +kernel
  obtain ⟨y, hy⟩ : ∃ y, legalOf 2816 (s.g 20) v = y := ⟨_, rfl⟩
  obtain ⟨s1, hs1⟩ : ∃ s1, setCy s true = s1 := ⟨_, rfl⟩
  obtain ⟨s', hs'⟩ : ∃ s', setG s1 20 y = s' := ⟨_, rfl⟩
  have HO : Hid (setOf s 2816 v = s') := by show _ = _; rw [← hs', ← hy, ← hs1]; rfl
  have hg1 : s1.g 20 = s.g 20 := by rw [← hs1]; rfl
  have HG1 := Lib.hid hg1
  have HY := Lib.hid hy
  have HS := Lib.hid hs'
  have HS1 := Lib.hid hs1
  have h7 := ok.g 20
  clear hy hs' hs1 hg1
  have lsA : ∀ w' : World, w'.heap[w.heap.size]? = some (.cells (cellsR s1) 34) → (loadCellsFrom ⟨w.heap.size, 0, none⟩ 0 szR #[]).run Try.prog w' = .ok (cellsR s1) w' := fun w' h => ldR h
  have stA : ∀ w' : World, w'.heap[w.heap.size + 1]? = some (.cells (cellsR zeroF) 34) → (storeCells ⟨w.heap.size + 1, 0, none⟩ (cellsR s').toList).run Try.prog w' = .ok () (w'.setRow (w.heap.size + 1) (cellsR s')) := fun w' h => stR _ h s'
  have k0 := keep_alloc (heap_alloc_new w (.cells (cellsR s) 34)) (.cells (cellsR zeroF) 34)
  have z0 : ((w.alloc (.cells (cellsR s) 34)).alloc (.cells (cellsR zeroF) 34)).heap[w.heap.size + 1]? = some (.cells (cellsR zeroF) 34) := by simpa using heap_alloc_new (w.alloc (.cells (cellsR s) 34)) (.cells (cellsR zeroF) 34)
  have F0 := ((Fr.refl w).alloc (.cells (cellsR s) 34)).alloc (.cells (cellsR zeroF) 34)
  have ls := ldR (P := Try.prog) k0
  have l1 := zeroRv
  have l2 := sizeRv
  have l3 := size_cellsR
  have fd := run_field1
  go_enter Try.func84, Try.ntmps84
  go_wp2_with fail
  refine (word_n nm_mideleg rfl _).mono ?_
  rintro e w1 ⟨rfl, hb1⟩
  have k1 := keepB hb1 k0
  have z1 := keepB hb1 z0
  have F1 := F0.step hb1
  go_wp2_with fail
  refine (rof_some HR.out _).mono ?_
  rintro e w4 ⟨rfl, hb4⟩
  have k4 := keepB hb4 k1
  have z4 := keepB hb4 z1
  have F4 := F1.step hb4
  clear ls k0 k1 z0 z1 F0 F1 hb1 hb4
  have ls := ldR (P := Try.prog) k4
  obtain ⟨-, p1, p2, pl, pf⟩ := knownR k4
  have k5 := set_at k4 35 (.bool true)
  rw [cellsR_setCy, HS1.out] at k5
  have z5 := keep_setCell z4 (p := ⟨w.heap.size, 35, none⟩) (by simp) (.bool true)
  have F5 := F4.setCell (p := ⟨w.heap.size, 35, none⟩) (Nat.le_refl _) (.bool true)
  have K5 := Lib.hid k5
  have Z5 := Lib.hid z5
  have FF5 := Lib.hid F5
  clear k5 z5 F5
  go_wp2_with fail
  have k5 := K5.out
  have z5 := Z5.out
  have F5 := FF5.out
  clear K5 Z5 FF5 p1 p2 pl pf k4 z4 F4
  clear ls
  obtain ⟨W5, hW5⟩ : ∃ W5, (w4.setCell ⟨w.heap.size, 35, none⟩ (.bool true)) = W5 := ⟨_, rfl⟩
  rw [hW5] at F5 k5 z5 ⊢
  clear hW5
  have hS5 : (Fr w.heap.size w W5.drew ∧ W5.drew.heap[w.heap.size]? = some (.cells (cellsR s1) 34)) ∧ W5.drew.heap[w.heap.size + 1]? = some (.cells (cellsR zeroF) 34) := ⟨⟨F5.drew, k5⟩, z5⟩
  have ls5 := ldR (P := Try.prog) hS5.1.2
  clear F5 k5 z5
  go_region_with (first
      | (go_at_call 90; refine (word_n nm_mcycle HG1.out _).mono ?_; rintro e w' ⟨rfl, hb⟩; have hS := heldR2 hb ‹_›)
      | (go_at_call 22; refine (rlegal_v HY.out _ h7 hv).mono ?_; rintro e w' ⟨rfl, hb⟩; have hS := heldR2 hb ‹_›)
      | (go_at_call 83; refine (with_n nm_mcycle HS.out _).mono ?_; rintro e w' ⟨rfl, hb⟩; have hS := heldR2 hb ‹_›))
  all_goals
    have E2 := Lib.hid (lvR (row_at hS.2 (cellsR s')))
    have FF := Lib.hid (hS.1.1.row (Nat.le_succ _) (cellsR s'))
    clear lsA stA ls5
    go_wp2
    refine bodyPost_ret (v := .agg (cellsR s')) (by simp [results, Try.results84, asAddr, E2.out]) rfl ⟨by rw [HO.out], FF.out.1⟩
set_option maxRecDepth 100000 in
set_option maxHeartbeats 4000000 in
theorem rset_2818 (s : FS) (v : Nat) (w : World) (ok : OkF s) (hv : v < 18446744073709551616) :
    Calls Try.prog 84 #[.agg (cellsR s), .int .i64 2818, .int .u64 (v : Int)] w fun e w' => e = .returned (.agg (cellsR (setOf s 2818 v))) ∧ Below w.heap.size w w' := by
  have HR : Hid (row19 2818 = some (2818, ⟨#[109, 105, 110, 115, 116, 114, 101, 116]⟩, 18446744073709551615)) := by show _ = _; decide +kernel
  obtain ⟨y, hy⟩ : ∃ y, legalOf 2818 (s.g 21) v = y := ⟨_, rfl⟩
  obtain ⟨s1, hs1⟩ : ∃ s1, setIl s true = s1 := ⟨_, rfl⟩
  obtain ⟨s', hs'⟩ : ∃ s', setG s1 21 y = s' := ⟨_, rfl⟩
  have HO : Hid (setOf s 2818 v = s') := by show _ = _; rw [← hs', ← hy, ← hs1]; rfl
  have hg1 : s1.g 21 = s.g 21 := by rw [← hs1]; rfl
  have HG1 := Lib.hid hg1
  have HY := Lib.hid hy
  have HS := Lib.hid hs'
  have HS1 := Lib.hid hs1
  have h7 := ok.g 21
  clear hy hs' hs1 hg1
  have lsA : ∀ w' : World, w'.heap[w.heap.size]? = some (.cells (cellsR s1) 34) → (loadCellsFrom ⟨w.heap.size, 0, none⟩ 0 szR #[]).run Try.prog w' = .ok (cellsR s1) w' := fun w' h => ldR h
  have stA : ∀ w' : World, w'.heap[w.heap.size + 1]? = some (.cells (cellsR zeroF) 34) → (storeCells ⟨w.heap.size + 1, 0, none⟩ (cellsR s').toList).run Try.prog w' = .ok () (w'.setRow (w.heap.size + 1) (cellsR s')) := fun w' h => stR _ h s'
  have k0 := keep_alloc (heap_alloc_new w (.cells (cellsR s) 34)) (.cells (cellsR zeroF) 34)
  have z0 : ((w.alloc (.cells (cellsR s) 34)).alloc (.cells (cellsR zeroF) 34)).heap[w.heap.size + 1]? = some (.cells (cellsR zeroF) 34) := by simpa using heap_alloc_new (w.alloc (.cells (cellsR s) 34)) (.cells (cellsR zeroF) 34)
  have F0 := ((Fr.refl w).alloc (.cells (cellsR s) 34)).alloc (.cells (cellsR zeroF) 34)
  have ls := ldR (P := Try.prog) k0
  have l1 := zeroRv
  have l2 := sizeRv
  have l3 := size_cellsR
  have fd := run_field1
  go_enter Try.func84, Try.ntmps84
  go_wp2_with fail
  refine (word_n nm_mideleg rfl _).mono ?_
  rintro e w1 ⟨rfl, hb1⟩
  have k1 := keepB hb1 k0
  have z1 := keepB hb1 z0
  have F1 := F0.step hb1
  go_wp2_with fail
  refine (rof_some HR.out _).mono ?_
  rintro e w4 ⟨rfl, hb4⟩
  have k4 := keepB hb4 k1
  have z4 := keepB hb4 z1
  have F4 := F1.step hb4
  clear ls k0 k1 z0 z1 F0 F1 hb1 hb4
  have ls := ldR (P := Try.prog) k4
  obtain ⟨-, p1, p2, pl, pf⟩ := knownR k4
  have k5 := set_at k4 36 (.bool true)
  rw [cellsR_setIl, HS1.out] at k5
  have z5 := keep_setCell z4 (p := ⟨w.heap.size, 36, none⟩) (by simp) (.bool true)
  have F5 := F4.setCell (p := ⟨w.heap.size, 36, none⟩) (Nat.le_refl _) (.bool true)
  have K5 := Lib.hid k5
  have Z5 := Lib.hid z5
  have FF5 := Lib.hid F5
  clear k5 z5 F5
  go_wp2_with fail
  have k5 := K5.out
  have z5 := Z5.out
  have F5 := FF5.out
  clear K5 Z5 FF5 p1 p2 pl pf k4 z4 F4
  clear ls
  obtain ⟨W5, hW5⟩ : ∃ W5, (w4.setCell ⟨w.heap.size, 36, none⟩ (.bool true)) = W5 := ⟨_, rfl⟩
  rw [hW5] at F5 k5 z5 ⊢
  clear hW5
  have hS5 : (Fr w.heap.size w W5.drew ∧ W5.drew.heap[w.heap.size]? = some (.cells (cellsR s1) 34)) ∧ W5.drew.heap[w.heap.size + 1]? = some (.cells (cellsR zeroF) 34) := ⟨⟨F5.drew, k5⟩, z5⟩
  have ls5 := ldR (P := Try.prog) hS5.1.2
  clear F5 k5 z5
  go_region_with (first
      | (go_at_call 90; refine (word_n nm_minstret HG1.out _).mono ?_; rintro e w' ⟨rfl, hb⟩; have hS := heldR2 hb ‹_›)
      | (go_at_call 22; refine (rlegal_v HY.out _ h7 hv).mono ?_; rintro e w' ⟨rfl, hb⟩; have hS := heldR2 hb ‹_›)
      | (go_at_call 83; refine (with_n nm_minstret HS.out _).mono ?_; rintro e w' ⟨rfl, hb⟩; have hS := heldR2 hb ‹_›))
  all_goals
    have E2 := Lib.hid (lvR (row_at hS.2 (cellsR s')))
    have FF := Lib.hid (hS.1.1.row (Nat.le_succ _) (cellsR s'))
    clear lsA stA ls5
    go_wp2
    refine bodyPost_ret (v := .agg (cellsR s')) (by simp [results, Try.results84, asAddr, E2.out]) rfl ⟨by rw [HO.out], FF.out.1⟩
/-- What a row that is written plainly is called by none of these. -/
def SetPlain (nm : ByteArray) : Prop := nm.toList.isEmpty = false ∧ (nm.toList == [115, 104, 111, 111, 116]) = false ∧ (nm.toList == [109, 105, 115, 97]) = false ∧ (nm.toList == [99, 121, 99, 108, 101]) = false ∧ (nm.toList == [116, 105, 109, 101]) = false ∧ (nm.toList == [105, 110, 115, 116, 114, 101, 116]) = false ∧ (nm.toList == [109, 118, 101, 110, 100, 111, 114, 105, 100]) = false ∧ (nm.toList == [109, 97, 114, 99, 104, 105, 100]) = false ∧ (nm.toList == [109, 105, 109, 112, 105, 100]) = false ∧ (nm.toList == [109, 104, 97, 114, 116, 105, 100]) = false ∧ (nm.toList == [115, 115, 116, 97, 116, 117, 115]) = false ∧ (nm.toList == [115, 105, 101]) = false ∧ (nm.toList == [115, 105, 112]) = false ∧ (nm.toList == [109, 99, 121, 99, 108, 101]) = false ∧ (nm.toList == [109, 105, 110, 115, 116, 114, 101, 116]) = false
def setSp : List Int := [1474, 769, 3072, 3073, 3074, 3857, 3858, 3859, 3860, 256, 260, 324, 2816, 2818]
def plainS (r : Int × ByteArray × Nat) : Bool := setSp.contains r.1 || (!r.2.1.data.toList.isEmpty && !(r.2.1.data.toList == [115, 104, 111, 111, 116]) && !(r.2.1.data.toList == [109, 105, 115, 97]) && !(r.2.1.data.toList == [99, 121, 99, 108, 101]) && !(r.2.1.data.toList == [116, 105, 109, 101]) && !(r.2.1.data.toList == [105, 110, 115, 116, 114, 101, 116]) && !(r.2.1.data.toList == [109, 118, 101, 110, 100, 111, 114, 105, 100]) && !(r.2.1.data.toList == [109, 97, 114, 99, 104, 105, 100]) && !(r.2.1.data.toList == [109, 105, 109, 112, 105, 100]) && !(r.2.1.data.toList == [109, 104, 97, 114, 116, 105, 100]) && !(r.2.1.data.toList == [115, 115, 116, 97, 116, 117, 115]) && !(r.2.1.data.toList == [115, 105, 101]) && !(r.2.1.data.toList == [115, 105, 112]) && !(r.2.1.data.toList == [109, 99, 121, 99, 108, 101]) && !(r.2.1.data.toList == [109, 105, 110, 115, 116, 114, 101, 116]) && (match ownIx r.1, atN r.1 with | some i, some j => rowIx.getD j none == some i && numOf r.2.1.data.toList == r.1 | _, _ => false))
theorem plainS_all : ∀ r ∈ tab19, plainS r = true := by decide +kernel
theorem plainS_of {n : Int} {r : Int × ByteArray × Nat} (h : row19 n = some r) (hn : setSp.contains n = false) : SetPlain r.2.1 ∧ ∃ i j, ownIx n = some i ∧ NameOk r.2.1 n i j := by
  have h1 := (row19_some h).1
  have h2 := plainS_all r (List.mem_of_find?_eq_some h)
  unfold plainS at h2
  rw [h1, hn, Bool.false_or] at h2
  simp only [Bool.and_eq_true, Bool.not_eq_true'] at h2
  obtain ⟨⟨⟨⟨⟨⟨⟨⟨⟨⟨⟨⟨⟨⟨⟨h0, a1⟩, a2⟩, a3⟩, a4⟩, a5⟩, a6⟩, a7⟩, a8⟩, a9⟩, a10⟩, a11⟩, a12⟩, a13⟩, a14⟩, h3⟩ := h2
  refine ⟨?_, ?_⟩
  · unfold SetPlain
    rw [ByteArray.toList_eq]
    exact ⟨h0, a1, a2, a3, a4, a5, a6, a7, a8, a9, a10, a11, a12, a13, a14⟩
  · cases ho : ownIx n with
    | none => rw [ho] at h3; cases h3
    | some i =>
      cases ha : atN n with
      | none => rw [ho, ha] at h3; cases h3
      | some j =>
        rw [ho, ha] at h3
        simp only [Bool.and_eq_true, beq_iff_eq] at h3
        exact ⟨i, j, rfl, by rw [ByteArray.toList_eq]; exact h3.2, ha, h3.1⟩
set_option maxRecDepth 100000 in
set_option maxHeartbeats 4000000 in
theorem rset_plain (s : FS) (n : Int) (v : Nat) (w : World) (ok : OkF s) (hv : v < 18446744073709551616) (r : Int × ByteArray × Nat) (h : row19 n = some r) (hn : setSp.contains n = false) :
    Calls Try.prog 84 #[.agg (cellsR s), .int .i64 n, .int .u64 (v : Int)] w fun e w' => e = .returned (.agg (cellsR (setOf s n v))) ∧ Below w.heap.size w w' := by
  obtain ⟨hp, i, j, ho, hok⟩ := plainS_of h hn
  obtain ⟨n1, nm, mk⟩ := r
  obtain ⟨y, hy⟩ : ∃ y, legalOf n (s.g i) v = y := ⟨_, rfl⟩
  obtain ⟨s', hs'⟩ : ∃ s', setG s i y = s' := ⟨_, rfl⟩
  have HO : Hid (setOf s n v = s') := by
    show _ = _
    unfold setOf
    have hh : ∀ m : Int, setSp.contains m = true → n ≠ m := fun m hm e => by rw [← e, hn] at hm; cases hm
    rw [if_neg (hh 256 (by decide)), if_neg (hh 260 (by decide)), if_neg (hh 324 (by decide)), if_neg (hh 2816 (by decide)), if_neg (hh 2818 (by decide)), ho, ← hs', ← hy]
  have HR := Lib.hid h
  have HY := Lib.hid hy
  have HS := Lib.hid hs'
  have h7 := ok.g i
  unfold SetPlain at hp
  obtain ⟨p0, p1, p2, p3, p4, p5, p6, p7, p8, p9, p10, p11, p12, p13, p14⟩ := hp
  have NM : NameOk nm n i j := hok
  clear h ho hn hy hs' hok
  have lsA : ∀ w' : World, w'.heap[w.heap.size]? = some (.cells (cellsR s) 34) → (loadCellsFrom ⟨w.heap.size, 0, none⟩ 0 szR #[]).run Try.prog w' = .ok (cellsR s) w' := fun w' h => ldR h
  have stA : ∀ w' : World, w'.heap[w.heap.size + 1]? = some (.cells (cellsR zeroF) 34) → (storeCells ⟨w.heap.size + 1, 0, none⟩ (cellsR s').toList).run Try.prog w' = .ok () (w'.setRow (w.heap.size + 1) (cellsR s')) := fun w' h => stR _ h s'
  have k0 := keep_alloc (heap_alloc_new w (.cells (cellsR s) 34)) (.cells (cellsR zeroF) 34)
  have z0 : ((w.alloc (.cells (cellsR s) 34)).alloc (.cells (cellsR zeroF) 34)).heap[w.heap.size + 1]? = some (.cells (cellsR zeroF) 34) := by simpa using heap_alloc_new (w.alloc (.cells (cellsR s) 34)) (.cells (cellsR zeroF) 34)
  have F0 := ((Fr.refl w).alloc (.cells (cellsR s) 34)).alloc (.cells (cellsR zeroF) 34)
  have ls := ldR (P := Try.prog) k0
  have l1 := zeroRv
  have l2 := sizeRv
  have l3 := size_cellsR
  have fd := run_field1
  go_enter Try.func84, Try.ntmps84
  go_wp2_with fail
  refine (word_n nm_mideleg rfl _).mono ?_
  rintro e w1 ⟨rfl, hb1⟩
  have k1 := keepB hb1 k0
  have z1 := keepB hb1 z0
  have F1 := F0.step hb1
  go_wp2_with fail
  refine (rof_some HR.out _).mono ?_
  rintro e w4 ⟨rfl, hb4⟩
  have k4 := keepB hb4 k1
  have z4 := keepB hb4 z1
  have F4 := F1.step hb4
  clear ls k0 k1 z0 z1 F0 F1 hb1 hb4
  have ls := ldR (P := Try.prog) k4
  clear ls
  go_wp2_with fail
  obtain ⟨W5, hW5⟩ : ∃ W5, w4 = W5 := ⟨_, rfl⟩
  rw [hW5] at F4 k4 z4 ⊢
  clear hW5
  have hS5 : (Fr w.heap.size w W5.drew ∧ W5.drew.heap[w.heap.size]? = some (.cells (cellsR s) 34)) ∧ W5.drew.heap[w.heap.size + 1]? = some (.cells (cellsR zeroF) 34) := ⟨⟨F4.drew, k4⟩, z4⟩
  have ls5 := ldR (P := Try.prog) hS5.1.2
  clear F4 k4 z4
  go_region_with (first
      | (go_at_call 90; refine (word_n NM rfl _).mono ?_; rintro e w' ⟨rfl, hb⟩; have hS := heldR2 hb ‹_›)
      | (go_at_call 22; refine (rlegal_v HY.out _ h7 hv).mono ?_; rintro e w' ⟨rfl, hb⟩; have hS := heldR2 hb ‹_›)
      | (go_at_call 83; refine (with_n NM HS.out _).mono ?_; rintro e w' ⟨rfl, hb⟩; have hS := heldR2 hb ‹_›))
  all_goals
    have E2 := Lib.hid (lvR (row_at hS.2 (cellsR s')))
    have FF := Lib.hid (hS.1.1.row (Nat.le_succ _) (cellsR s'))
    clear lsA stA ls5
    go_wp2
    refine bodyPost_ret (v := .agg (cellsR s')) (by simp [results, Try.results84, asAddr, E2.out]) rfl ⟨by rw [HO.out], FF.out.1⟩
theorem rset_any (s : FS) (n : Int) (v : Nat) (w : World) (ok : OkF s) (hv : v < 18446744073709551616) :
    Calls Try.prog 84 #[.agg (cellsR s), .int .i64 n, .int .u64 (v : Int)] w fun e w' => e = .returned (.agg (cellsR (setOf s n v))) ∧ Below w.heap.size w w' := by
  cases h : row19 n with
  | none => exact rset_none s n v w ok hv h
  | some r =>
    cases hn : setSp.contains n with
    | false => exact rset_plain s n v w ok hv r h hn
    | true =>
      simp [setSp] at hn
      rcases hn with rfl | rfl | rfl | rfl | rfl | rfl | rfl | rfl | rfl | rfl | rfl | rfl | rfl | rfl
      · exact rset_1474 s v w ok hv
      · exact rset_769 s v w ok hv
      · exact rset_3072 s v w ok hv
      · exact rset_3073 s v w ok hv
      · exact rset_3074 s v w ok hv
      · exact rset_3857 s v w ok hv
      · exact rset_3858 s v w ok hv
      · exact rset_3859 s v w ok hv
      · exact rset_3860 s v w ok hv
      · exact rset_256 s v w ok hv
      · exact rset_260 s v w ok hv
      · cases hd : (s.g 9).testBit 1
        · exact rset_324off s v w ok hv hd
        · exact rset_324on s v w ok hv hd
      · exact rset_2816 s v w ok hv
      · exact rset_2818 s v w ok hv
theorem rset_v {s s' : FS} {n : Int} {v : Nat} (hs : setOf s n v = s') (w : World) (ok : OkF s) (hv : v < 18446744073709551616) :
    Calls Try.prog 84 #[.agg (cellsR s), .int .i64 n, .int .u64 (v : Int)] w fun e w' => e = .returned (.agg (cellsR s')) ∧ Below w.heap.size w w' := by
  rw [← hs]; exact rset_any s n v w ok hv
end Go.Proofs.Ythkkfdhgpaonjaa
