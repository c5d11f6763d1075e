/- The document's CSR file: Writes, Do. -/
import Derived.Test.YthkkfdhgpaonjaaCfL
namespace Go.Proofs.Ythkkfdhgpaonjaa
open Go.RowKit
set_option linter.unusedSimpArgs false
set_option linter.unusedVariables false

attribute [local simp high] sizeRv zeroRv
attribute [local go_sem ↓] Go.wp_at_zero Go.wp_at_succ
theorem rclass_v {op : Int} (h : isCsrOp op = true) (w : World) :
    Calls Try.prog 88 #[.int .i64 op] w fun e w' => e = .returned (.int .i64 8) ∧ Below w.heap.size w w' := by
  have hop : 89 ≤ op ∧ op ≤ 94 := by unfold isCsrOp at h; simpa using h
  obtain ⟨k, rfl⟩ := Int.eq_ofNat_of_zero_le (show 0 ≤ op by omega)
  exact rclass_csr k w (by omega) (by omega)
/-- What the names of CSR ops are. -/
theorem csr_names : ∀ k, k < 99 → ((nameAt k).data.toList == [99, 115, 114, 114, 119]) = decide (k = 89) ∧ ((nameAt k).data.toList == [99, 115, 114, 114, 119, 105]) = decide (k = 92) ∧ ((nameAt k).data.toList == [99, 115, 114, 114, 115]) = decide (k = 90)
    ∧ ((nameAt k).data.toList == [99, 115, 114, 114, 115, 105]) = decide (k = 93) ∧ ((nameAt k).data.toList == [99, 115, 114, 114, 99]) = decide (k = 91) ∧ ((nameAt k).data.toList == [99, 115, 114, 114, 99, 105]) = decide (k = 94) := by decide +kernel
theorem rwrites_any (op rs1 : Int) (w : World) :
    Calls Try.prog 45 #[.int .i64 op, .int .i64 rs1] w fun e w' => e = .returned (.bool (writesB op rs1)) ∧ Below w.heap.size w w' := by
  cases h : isCsrOp op
  · have HW : Hid (writesB op rs1 = false) := by
      show _ = _
      have h' := h
      unfold isCsrOp at h'
      simp at h'
      unfold writesB; rw [h]; simp; omega
    have H := Lib.hid h
    clear h
    go_enter Try.func45, Try.ntmps45
    go_wp2_with fail
    refine (rclass_other op _ H.out).mono ?_
    rintro e w1 ⟨c, rfl, hc8, hc9, hb⟩
    go_wp2
    go_ret
    exact ⟨by rw [HW.out]; rfl, hb⟩
  · have hop : 89 ≤ op ∧ op ≤ 94 := by unfold isCsrOp at h; simpa using h
    obtain ⟨k, rfl⟩ := Int.eq_ofNat_of_zero_le (show 0 ≤ op by omega)
    have hk99 : k < 99 := by omega
    obtain ⟨n1, n2, -⟩ := csr_names k hk99
    have HW : Hid (writesB (k : Int) rs1 = (decide (k = 89) || decide (k = 92) || (rs1 != 0))) := by
      show _ = _
      unfold writesB; rw [h]
      have a1 : decide ((k : Int) = 89) = decide (k = 89) := by simp; omega
      have a2 : decide ((k : Int) = 92) = decide (k = 92) := by simp; omega
      rw [a1, a2]; simp
    obtain ⟨q1, hq1⟩ : ∃ q, decide (k = 89) = q := ⟨_, rfl⟩
    obtain ⟨q2, hq2⟩ : ∃ q, decide (k = 92) = q := ⟨_, rfl⟩
    obtain ⟨q3, hq3⟩ : ∃ q, (rs1 != 0) = q := ⟨_, rfl⟩
    rw [hq1, hq2, hq3] at HW
    rw [hq1] at n1
    rw [hq2] at n2
    have H := Lib.hid h
    clear h hop hq1 hq2
    obtain ⟨s, hs⟩ : ∃ s, nameAt k = s := ⟨_, rfl⟩
    rw [hs] at n1 n2
    have m1 : (s.toList == [99, 115, 114, 114, 119]) = q1 := by rw [ByteArray.toList_eq]; exact n1
    have m2 : (s.toList == [99, 115, 114, 114, 119, 105]) = q2 := by rw [ByteArray.toList_eq]; exact n2
    have HS := Lib.hid hs
    clear n1 n2 hs
    go_enter Try.func45, Try.ntmps45
    go_wp2_with fail
    refine (rclass_v H.out _).mono ?_
    rintro e w1 ⟨rfl, hb1⟩
    go_wp2_with fail
    refine (names_any _).mono ?_
    rintro e w2 ⟨rfl, rfl⟩
    have hc := cells04_at (heap_alloc_new w1 (.cells cells04 9)) k hk99
    rw [HS.out] at hc
    have HF := Lib.hid (((Fr.refl w).step hb1).alloc (.cells cells04 9)).1
    cases q1 <;> cases q2 <;> cases q3
    all_goals
      go_wp2
      go_ret
      exact ⟨by rw [HW.out]; rfl, HF.out⟩
theorem rwrites_v {op rs1 : Int} {q : Bool} (h : writesB op rs1 = q) (w : World) :
    Calls Try.prog 45 #[.int .i64 op, .int .i64 rs1] w fun e w' => e = .returned (.bool q) ∧ Below w.heap.size w w' := by
  rw [← h]; exact rwrites_any op rs1 w
set_option maxRecDepth 100000 in
set_option maxHeartbeats 4000000 in
theorem rdo_other (s : FS) (op n rs1 : Int) (v L : Nat) (w : World) (ok : OkF s) (hv : v < 18446744073709551616) (hL : L < 18446744073709551616) (hc : isCsrOp op = false) :
    Calls Try.prog 85 #[.agg (cellsR s), .int .i64 op, .int .i64 n, .int .i64 rs1, .int .u64 (v : Int), .int .u64 (L : Int)] w fun e w' => e = .returned (.tuple #[.agg (cellsR (doS s op n rs1 v)), .int .u64 (doR s op n L : Int)]) ∧ Below w.heap.size w w' := by
  have HR : Hid (doR s op n L = 0) := by show _ = _; unfold doR; rw [hc]; rfl
  have HO : Hid (doS s op n rs1 v = s) := by show _ = _; unfold doS; rw [hc]; rfl
  have HC := Lib.hid hc
  clear hc
  have k0 := keep_alloc (heap_alloc_new w (.cells (cellsR s) 34)) (.cells (cellsR zeroF) 34)
  have z0 : ((w.alloc (.cells (cellsR s) 34)).alloc (.cells (cellsR zeroF) 34)).heap[w.heap.size + 1]? = some (.cells (cellsR zeroF) 34) := by simpa using heap_alloc_new (w.alloc (.cells (cellsR s) 34)) (.cells (cellsR zeroF) 34)
  have F0 := ((Fr.refl w).alloc (.cells (cellsR s) 34)).alloc (.cells (cellsR zeroF) 34)
  have l1 := zeroRv
  have l2 := sizeRv
  have l3 := size_cellsR
  go_enter Try.func85, Try.ntmps85
  go_wp2_with fail
  refine (rclass_other op _ HC.out).mono ?_
  rintro e w1 ⟨c, rfl, hc8, hc9, hb1⟩
  have k1 := keepB hb1 k0
  have z1 := keepB hb1 z0
  have F1 := F0.step hb1
  have ls := ldR (P := Try.prog) k1
  have ss := stR Try.prog z1 s
  have E2 := Lib.hid (lvR (row_at z1 (cellsR s)))
  have FF := Lib.hid (F1.row (Nat.le_succ _) (cellsR s))
  go_wp2
  refine bodyPost_ret (v := .tuple #[.agg (cellsR s), .int .u64 0]) (by simp [results, Try.results85, asAddr, Act.put, E2.out]) rfl ⟨by rw [HO.out, HR.out] <;> rfl, FF.out.1⟩
set_option maxRecDepth 100000 in
set_option maxHeartbeats 4000000 in
theorem rdo_only (s : FS) (op n rs1 : Int) (v L : Nat) (w : World) (ok : OkF s) (hv : v < 18446744073709551616) (hL : L < 18446744073709551616) (hc : isCsrOp op = true) (hw : writesB op rs1 = false) :
    Calls Try.prog 85 #[.agg (cellsR s), .int .i64 op, .int .i64 n, .int .i64 rs1, .int .u64 (v : Int), .int .u64 (L : Int)] w fun e w' => e = .returned (.tuple #[.agg (cellsR (doS s op n rs1 v)), .int .u64 (doR s op n L : Int)]) ∧ Below w.heap.size w w' := by
  obtain ⟨y, hy⟩ : ∃ y, getOf s n L = y := ⟨_, rfl⟩
  have HR : Hid (doR s op n L = y) := by show _ = _; unfold doR; rw [hc, hy]; rfl
  have HO : Hid (doS s op n rs1 v = s) := by show _ = _; unfold doS; rw [hc, hw]; rfl
  have HC := Lib.hid hc
  have HW := Lib.hid hw
  have HY := Lib.hid hy
  clear hc hw hy
  have k0 := keep_alloc (heap_alloc_new w (.cells (cellsR s) 34)) (.cells (cellsR zeroF) 34)
  have z0 : ((w.alloc (.cells (cellsR s) 34)).alloc (.cells (cellsR zeroF) 34)).heap[w.heap.size + 1]? = some (.cells (cellsR zeroF) 34) := by simpa using heap_alloc_new (w.alloc (.cells (cellsR s) 34)) (.cells (cellsR zeroF) 34)
  have F0 := ((Fr.refl w).alloc (.cells (cellsR s) 34)).alloc (.cells (cellsR zeroF) 34)
  have l1 := zeroRv
  have l2 := sizeRv
  have l3 := size_cellsR
  go_enter Try.func85, Try.ntmps85
  go_wp2_with fail
  refine (rclass_v HC.out _).mono ?_
  rintro e w1 ⟨rfl, hb1⟩
  have k1 := keepB hb1 k0
  have z1 := keepB hb1 z0
  have F1 := F0.step hb1
  have ls := ldR (P := Try.prog) k1
  go_wp2_with fail
  refine (rget_v HY.out _ ok hL).mono ?_
  rintro e w2 ⟨rfl, hb2⟩
  have k2 := keepB hb2 k1
  have z2 := keepB hb2 z1
  have F2 := F1.step hb2
  have ls := ldR (P := Try.prog) k2
  go_wp2_with fail
  refine (rwrites_v HW.out _).mono ?_
  rintro e w3 ⟨rfl, hb3⟩
  have k3 := keepB hb3 k2
  have z3 := keepB hb3 z2
  have F3 := F2.step hb3
  have ls := ldR (P := Try.prog) k3
  have ss := stR Try.prog z3 s
  have E2 := Lib.hid (lvR (row_at z3 (cellsR s)))
  have FF := Lib.hid (F3.row (Nat.le_succ _) (cellsR s))
  go_wp2
  refine bodyPost_ret (v := .tuple #[.agg (cellsR s), .int .u64 (y : Int)]) (by simp [results, Try.results85, asAddr, Act.put, E2.out]) rfl ⟨by rw [HO.out, HR.out] <;> rfl, FF.out.1⟩
set_option maxRecDepth 100000 in
set_option maxHeartbeats 4000000 in
theorem rdo_or (s : FS) (op n rs1 : Int) (v L : Nat) (w : World) (ok : OkF s) (hv : v < 18446744073709551616) (hL : L < 18446744073709551616) (ho : op = 90 ∨ op = 93) (hw : writesB op rs1 = true) :
    Calls Try.prog 85 #[.agg (cellsR s), .int .i64 op, .int .i64 n, .int .i64 rs1, .int .u64 (v : Int), .int .u64 (L : Int)] w fun e w' => e = .returned (.tuple #[.agg (cellsR (doS s op n rs1 v)), .int .u64 (doR s op n L : Int)]) ∧ Below w.heap.size w w' := by
  have hc : isCsrOp op = true := by rcases ho with rfl | rfl <;> rfl
  obtain ⟨k, hk, hk99⟩ : ∃ k : Nat, op = (k : Int) ∧ k < 99 := by rcases ho with rfl | rfl; exact ⟨90, rfl, by omega⟩; exact ⟨93, rfl, by omega⟩
  obtain ⟨n1, n2, n3, n4, n5, n6⟩ := csr_names k hk99
  obtain ⟨y, hy⟩ : ∃ y, getOf s n L = y := ⟨_, rfl⟩
  obtain ⟨z, hz⟩ : ∃ z, getOf s n 0 = z := ⟨_, rfl⟩
  obtain ⟨u, hu⟩ : ∃ u, doV s op n v = u := ⟨_, rfl⟩
  obtain ⟨s', hs'⟩ : ∃ s', setOf s n u = s' := ⟨_, rfl⟩
  have hu64 : u < 18446744073709551616 := by rw [← hu]; exact doV_lt ok op n v hv
  have hz64 : z < 18446744073709551616 := by rw [← hz]; exact getOf_lt ok n 0 (by omega)
  have HR : Hid (doR s op n L = y) := by show _ = _; unfold doR; rw [hc, hy]; rfl
  have HO : Hid (doS s op n rs1 v = s') := by show _ = _; unfold doS; rw [hc, hw, hu, hs']; rfl
  have HU : Hid (z ||| v = u) := by show _ = _; rw [← hu]; unfold doV; rw [if_pos ho, hz, Nat.or_comm]
  have HW := Lib.hid hw
  have HY := Lib.hid hy
  have HZ := Lib.hid hz
  have HS := Lib.hid hs'
  have HC := Lib.hid hc
  obtain ⟨nm, hnm⟩ : ∃ nm, nameAt k = nm := ⟨_, rfl⟩
  have HN := Lib.hid hnm
  rw [hnm] at n3 n4 n5 n6
  have m3 : (nm.toList == [99, 115, 114, 114, 115]) = decide (k = 90) := by rw [ByteArray.toList_eq]; exact n3
  have m4 : (nm.toList == [99, 115, 114, 114, 115, 105]) = decide (k = 93) := by rw [ByteArray.toList_eq]; exact n4
  have m5 : (nm.toList == [99, 115, 114, 114, 99]) = decide (k = 91) := by rw [ByteArray.toList_eq]; exact n5
  have m6 : (nm.toList == [99, 115, 114, 114, 99, 105]) = decide (k = 94) := by rw [ByteArray.toList_eq]; exact n6
  have hkk : k = 90 ∨ k = 93 := by rcases ho with h | h <;> omega
  clear hw hy hz hu hs' hc hnm n1 n2 n3 n4 n5 n6 ho
  subst hk
  rcases hkk with rfl | rfl
  all_goals
    simp only [Nat.reduceEqDiff, decide_true, decide_false, Nat.reduceEqDiff] at m3 m4 m5 m6
    have lsA : ∀ w' : World, w'.heap[w.heap.size]? = some (.cells (cellsR s) 34) → (loadCellsFrom ⟨w.heap.size, 0, none⟩ 0 szR #[]).run Try.prog w' = .ok (cellsR s) w' := fun w' h => ldR h
    have stA : ∀ w' : World, w'.heap[w.heap.size + 1]? = some (.cells (cellsR zeroF) 34) → (storeCells ⟨w.heap.size + 1, 0, none⟩ (cellsR s').toList).run Try.prog w' = .ok () (w'.setRow (w.heap.size + 1) (cellsR s')) := fun w' h => stR _ h s'
    have k0 := keep_alloc (heap_alloc_new w (.cells (cellsR s) 34)) (.cells (cellsR zeroF) 34)
    have z0 : ((w.alloc (.cells (cellsR s) 34)).alloc (.cells (cellsR zeroF) 34)).heap[w.heap.size + 1]? = some (.cells (cellsR zeroF) 34) := by simpa using heap_alloc_new (w.alloc (.cells (cellsR s) 34)) (.cells (cellsR zeroF) 34)
    have F0 := ((Fr.refl w).alloc (.cells (cellsR s) 34)).alloc (.cells (cellsR zeroF) 34)
    have l1 := zeroRv
    have l2 := sizeRv
    have l3 := size_cellsR
    go_enter Try.func85, Try.ntmps85
    go_wp2_with fail
    refine (rclass_v HC.out _).mono ?_
    rintro e w1 ⟨rfl, hb1⟩
    have k1 := keepB hb1 k0
    have z1 := keepB hb1 z0
    have F1 := F0.step hb1
    have ls := ldR (P := Try.prog) k1
    go_wp2_with fail
    refine (rget_v HY.out _ ok hL).mono ?_
    rintro e w2 ⟨rfl, hb2⟩
    have k2 := keepB hb2 k1
    have z2 := keepB hb2 z1
    have F2 := F1.step hb2
    have ls := ldR (P := Try.prog) k2
    go_wp2_with fail
    refine (rwrites_v HW.out _).mono ?_
    rintro e w3 ⟨rfl, hb3⟩
    have k3 := keepB hb3 k2
    have z3 := keepB hb3 z2
    have F3 := F2.step hb3
    have ls := ldR (P := Try.prog) k3
    go_wp2_with fail
    refine (rget_v (L := 0) HZ.out _ ok (by omega)).mono ?_
    rintro e w4 ⟨rfl, hb4⟩
    have k4 := keepB hb4 k3
    have z4 := keepB hb4 z3
    have F4 := F3.step hb4
    have ls := ldR (P := Try.prog) k4
    go_wp2_with fail
    refine (names_any _).mono ?_
    rintro e w5 ⟨rfl, rfl⟩
    have hcn := cells04_at (heap_alloc_new w4 (.cells cells04 9)) _ hk99
    rw [HN.out] at hcn
    have k5 := keep_alloc k4 (.cells cells04 9)
    have z5 := keep_alloc z4 (.cells cells04 9)
    have F5 := F4.alloc (.cells cells04 9)
    clear hb1 hb2 hb3 hb4 k0 k1 k2 k3 k4 z0 z1 z2 z3 z4 F0 F1 F2 F3 F4
    have ls := ldR (P := Try.prog) k5
    go_wp2_with fail
    obtain ⟨W5, hW5⟩ : ∃ W5, (w4.alloc (.cells cells04 9)) = W5 := ⟨_, rfl⟩
    rw [hW5] at F5 k5 z5 hcn ls ⊢
    clear hW5 ls
    have hS5 : (Fr w.heap.size w W5.drew ∧ W5.drew.heap[w.heap.size]? = some (.cells (cellsR s) 34)) ∧ W5.drew.heap[w.heap.size + 1]? = some (.cells (cellsR zeroF) 34) := ⟨⟨F5.drew, k5⟩, z5⟩
    have ls5 := ldR (P := Try.prog) hS5.1.2
    clear F5 k5 z5
    go_region_with (first
        | (go_at_call 115; refine (or_v HU.out _ hz64 hv).mono ?_; rintro e w' ⟨rfl, hb⟩; have hS := heldR2 hb ‹_›)
        | (go_at_call 84; refine (rset_v HS.out _ ok hu64).mono ?_; rintro e w' ⟨rfl, hb⟩; have hS := heldR2 hb ‹_›))
    all_goals
      have E2 := Lib.hid (lvR (row_at hS.2 (cellsR s')))
      have FF := Lib.hid (hS.1.1.row (Nat.le_succ _) (cellsR s'))
      clear lsA stA ls5
      go_wp2
      refine bodyPost_ret (v := .tuple #[.agg (cellsR s'), .int .u64 (y : Int)]) (by simp [results, Try.results85, asAddr, Act.put, E2.out]) rfl ⟨by rw [HO.out, HR.out], FF.out.1⟩
set_option maxRecDepth 100000 in
set_option maxHeartbeats 4000000 in
theorem rdo_clr (s : FS) (op n rs1 : Int) (v L : Nat) (w : World) (ok : OkF s) (hv : v < 18446744073709551616) (hL : L < 18446744073709551616) (ho : op = 91 ∨ op = 94) (hw : writesB op rs1 = true) :
    Calls Try.prog 85 #[.agg (cellsR s), .int .i64 op, .int .i64 n, .int .i64 rs1, .int .u64 (v : Int), .int .u64 (L : Int)] w fun e w' => e = .returned (.tuple #[.agg (cellsR (doS s op n rs1 v)), .int .u64 (doR s op n L : Int)]) ∧ Below w.heap.size w w' := by
  have hc : isCsrOp op = true := by rcases ho with rfl | rfl <;> rfl
  obtain ⟨k, hk, hk99⟩ : ∃ k : Nat, op = (k : Int) ∧ k < 99 := by rcases ho with rfl | rfl; exact ⟨91, rfl, by omega⟩; exact ⟨94, rfl, by omega⟩
  obtain ⟨n1, n2, n3, n4, n5, n6⟩ := csr_names k hk99
  obtain ⟨y, hy⟩ : ∃ y, getOf s n L = y := ⟨_, rfl⟩
  obtain ⟨z, hz⟩ : ∃ z, getOf s n 0 = z := ⟨_, rfl⟩
  obtain ⟨u, hu⟩ : ∃ u, doV s op n v = u := ⟨_, rfl⟩
  obtain ⟨s', hs'⟩ : ∃ s', setOf s n u = s' := ⟨_, rfl⟩
  have hu64 : u < 18446744073709551616 := by rw [← hu]; exact doV_lt ok op n v hv
  have hz64 : z < 18446744073709551616 := by rw [← hz]; exact getOf_lt ok n 0 (by omega)
  have HR : Hid (doR s op n L = y) := by show _ = _; unfold doR; rw [hc, hy]; rfl
  have HO : Hid (doS s op n rs1 v = s') := by show _ = _; unfold doS; rw [hc, hw, hu, hs']; rfl
  obtain ⟨a, ha⟩ : ∃ a, z &&& v = a := ⟨_, rfl⟩
  have hle : a ≤ z := by rw [← ha]; exact Nat.and_le_left
  have hza : z - a = u := by rw [← hu, ← ha]; unfold doV; rw [if_neg (by omega), if_pos ho, hz]; exact sub_and z v hz64 hv
  have HU : Hid (IntKind.u64.wrap ((z : Int) - (a : Int)) = (u : Int)) := by show _ = _; rw [IntKind.wrap_u64]; omega
  have HA := Lib.hid ha
  clear ha hle hza
  have HW := Lib.hid hw
  have HY := Lib.hid hy
  have HZ := Lib.hid hz
  have HS := Lib.hid hs'
  have HC := Lib.hid hc
  obtain ⟨nm, hnm⟩ : ∃ nm, nameAt k = nm := ⟨_, rfl⟩
  have HN := Lib.hid hnm
  rw [hnm] at n3 n4 n5 n6
  have m3 : (nm.toList == [99, 115, 114, 114, 115]) = decide (k = 90) := by rw [ByteArray.toList_eq]; exact n3
  have m4 : (nm.toList == [99, 115, 114, 114, 115, 105]) = decide (k = 93) := by rw [ByteArray.toList_eq]; exact n4
  have m5 : (nm.toList == [99, 115, 114, 114, 99]) = decide (k = 91) := by rw [ByteArray.toList_eq]; exact n5
  have m6 : (nm.toList == [99, 115, 114, 114, 99, 105]) = decide (k = 94) := by rw [ByteArray.toList_eq]; exact n6
  have hkk : k = 91 ∨ k = 94 := by rcases ho with h | h <;> omega
  clear hw hy hz hu hs' hc hnm n1 n2 n3 n4 n5 n6 ho
  subst hk
  rcases hkk with rfl | rfl
  all_goals
    simp only [Nat.reduceEqDiff, decide_true, decide_false, Nat.reduceEqDiff] at m3 m4 m5 m6
    have lsA : ∀ w' : World, w'.heap[w.heap.size]? = some (.cells (cellsR s) 34) → (loadCellsFrom ⟨w.heap.size, 0, none⟩ 0 szR #[]).run Try.prog w' = .ok (cellsR s) w' := fun w' h => ldR h
    have stA : ∀ w' : World, w'.heap[w.heap.size + 1]? = some (.cells (cellsR zeroF) 34) → (storeCells ⟨w.heap.size + 1, 0, none⟩ (cellsR s').toList).run Try.prog w' = .ok () (w'.setRow (w.heap.size + 1) (cellsR s')) := fun w' h => stR _ h s'
    have k0 := keep_alloc (heap_alloc_new w (.cells (cellsR s) 34)) (.cells (cellsR zeroF) 34)
    have z0 : ((w.alloc (.cells (cellsR s) 34)).alloc (.cells (cellsR zeroF) 34)).heap[w.heap.size + 1]? = some (.cells (cellsR zeroF) 34) := by simpa using heap_alloc_new (w.alloc (.cells (cellsR s) 34)) (.cells (cellsR zeroF) 34)
    have F0 := ((Fr.refl w).alloc (.cells (cellsR s) 34)).alloc (.cells (cellsR zeroF) 34)
    have l1 := zeroRv
    have l2 := sizeRv
    have l3 := size_cellsR
    go_enter Try.func85, Try.ntmps85
    go_wp2_with fail
    refine (rclass_v HC.out _).mono ?_
    rintro e w1 ⟨rfl, hb1⟩
    have k1 := keepB hb1 k0
    have z1 := keepB hb1 z0
    have F1 := F0.step hb1
    have ls := ldR (P := Try.prog) k1
    go_wp2_with fail
    refine (rget_v HY.out _ ok hL).mono ?_
    rintro e w2 ⟨rfl, hb2⟩
    have k2 := keepB hb2 k1
    have z2 := keepB hb2 z1
    have F2 := F1.step hb2
    have ls := ldR (P := Try.prog) k2
    go_wp2_with fail
    refine (rwrites_v HW.out _).mono ?_
    rintro e w3 ⟨rfl, hb3⟩
    have k3 := keepB hb3 k2
    have z3 := keepB hb3 z2
    have F3 := F2.step hb3
    have ls := ldR (P := Try.prog) k3
    go_wp2_with fail
    refine (rget_v (L := 0) HZ.out _ ok (by omega)).mono ?_
    rintro e w4 ⟨rfl, hb4⟩
    have k4 := keepB hb4 k3
    have z4 := keepB hb4 z3
    have F4 := F3.step hb4
    have ls := ldR (P := Try.prog) k4
    go_wp2_with fail
    refine (names_any _).mono ?_
    rintro e w5 ⟨rfl, rfl⟩
    have hcn := cells04_at (heap_alloc_new w4 (.cells cells04 9)) _ hk99
    rw [HN.out] at hcn
    have k5 := keep_alloc k4 (.cells cells04 9)
    have z5 := keep_alloc z4 (.cells cells04 9)
    have F5 := F4.alloc (.cells cells04 9)
    clear hb1 hb2 hb3 hb4 k0 k1 k2 k3 k4 z0 z1 z2 z3 z4 F0 F1 F2 F3 F4
    have ls := ldR (P := Try.prog) k5
    go_wp2_with fail
    obtain ⟨W5, hW5⟩ : ∃ W5, (w4.alloc (.cells cells04 9)) = W5 := ⟨_, rfl⟩
    rw [hW5] at F5 k5 z5 hcn ls ⊢
    clear hW5 ls
    have hS5 : (Fr w.heap.size w W5.drew ∧ W5.drew.heap[w.heap.size]? = some (.cells (cellsR s) 34)) ∧ W5.drew.heap[w.heap.size + 1]? = some (.cells (cellsR zeroF) 34) := ⟨⟨F5.drew, k5⟩, z5⟩
    have ls5 := ldR (P := Try.prog) hS5.1.2
    clear F5 k5 z5
    go_region_with (first
        | (go_at_call 114; refine (and_v HA.out _ hz64 hv).mono ?_; rintro e w' ⟨rfl, hb⟩; have hS := heldR2 hb ‹_›)
        | (go_at_call 84; rw [HU.out]; refine (rset_v HS.out _ ok hu64).mono ?_; rintro e w' ⟨rfl, hb⟩; have hS := heldR2 hb ‹_›))
    all_goals
      have E2 := Lib.hid (lvR (row_at hS.2 (cellsR s')))
      have FF := Lib.hid (hS.1.1.row (Nat.le_succ _) (cellsR s'))
      clear lsA stA ls5
      go_wp2
      refine bodyPost_ret (v := .tuple #[.agg (cellsR s'), .int .u64 (y : Int)]) (by simp [results, Try.results85, asAddr, Act.put, E2.out]) rfl ⟨by rw [HO.out, HR.out], FF.out.1⟩
set_option maxRecDepth 100000 in
set_option maxHeartbeats 4000000 in
theorem rdo_put (s : FS) (op n rs1 : Int) (v L : Nat) (w : World) (ok : OkF s) (hv : v < 18446744073709551616) (hL : L < 18446744073709551616) (ho : op = 89 ∨ op = 92) (hw : writesB op rs1 = true) :
    Calls Try.prog 85 #[.agg (cellsR s), .int .i64 op, .int .i64 n, .int .i64 rs1, .int .u64 (v : Int), .int .u64 (L : Int)] w fun e w' => e = .returned (.tuple #[.agg (cellsR (doS s op n rs1 v)), .int .u64 (doR s op n L : Int)]) ∧ Below w.heap.size w w' := by
  have hc : isCsrOp op = true := by rcases ho with rfl | rfl <;> rfl
  obtain ⟨k, hk, hk99⟩ : ∃ k : Nat, op = (k : Int) ∧ k < 99 := by rcases ho with rfl | rfl; exact ⟨89, rfl, by omega⟩; exact ⟨92, rfl, by omega⟩
  obtain ⟨n1, n2, n3, n4, n5, n6⟩ := csr_names k hk99
  obtain ⟨y, hy⟩ : ∃ y, getOf s n L = y := ⟨_, rfl⟩
  obtain ⟨z, hz⟩ : ∃ z, getOf s n 0 = z := ⟨_, rfl⟩
  obtain ⟨u, hu⟩ : ∃ u, doV s op n v = u := ⟨_, rfl⟩
  obtain ⟨s', hs'⟩ : ∃ s', setOf s n u = s' := ⟨_, rfl⟩
  have hu64 : u < 18446744073709551616 := by rw [← hu]; exact doV_lt ok op n v hv
  have hz64 : z < 18446744073709551616 := by rw [← hz]; exact getOf_lt ok n 0 (by omega)
  have HR : Hid (doR s op n L = y) := by show _ = _; unfold doR; rw [hc, hy]; rfl
  have HO : Hid (doS s op n rs1 v = s') := by show _ = _; unfold doS; rw [hc, hw, hu, hs']; rfl
  have HU : Hid (v = u) := by show _ = _; rw [← hu]; unfold doV; rw [if_neg (by omega), if_neg (by omega)]
  obtain rfl := HU.out
  clear HU
  have HW := Lib.hid hw
  have HY := Lib.hid hy
  have HZ := Lib.hid hz
  have HS := Lib.hid hs'
  have HC := Lib.hid hc
  obtain ⟨nm, hnm⟩ : ∃ nm, nameAt k = nm := ⟨_, rfl⟩
  have HN := Lib.hid hnm
  rw [hnm] at n3 n4 n5 n6
  have m3 : (nm.toList == [99, 115, 114, 114, 115]) = decide (k = 90) := by rw [ByteArray.toList_eq]; exact n3
  have m4 : (nm.toList == [99, 115, 114, 114, 115, 105]) = decide (k = 93) := by rw [ByteArray.toList_eq]; exact n4
  have m5 : (nm.toList == [99, 115, 114, 114, 99]) = decide (k = 91) := by rw [ByteArray.toList_eq]; exact n5
  have m6 : (nm.toList == [99, 115, 114, 114, 99, 105]) = decide (k = 94) := by rw [ByteArray.toList_eq]; exact n6
  have hkk : k = 89 ∨ k = 92 := by rcases ho with h | h <;> omega
  clear hw hy hz hu hs' hc hnm n1 n2 n3 n4 n5 n6 ho
  subst hk
  rcases hkk with rfl | rfl
  all_goals
    simp only [Nat.reduceEqDiff, decide_true, decide_false, Nat.reduceEqDiff] at m3 m4 m5 m6
    have lsA : ∀ w' : World, w'.heap[w.heap.size]? = some (.cells (cellsR s) 34) → (loadCellsFrom ⟨w.heap.size, 0, none⟩ 0 szR #[]).run Try.prog w' = .ok (cellsR s) w' := fun w' h => ldR h
    have stA : ∀ w' : World, w'.heap[w.heap.size + 1]? = some (.cells (cellsR zeroF) 34) → (storeCells ⟨w.heap.size + 1, 0, none⟩ (cellsR s').toList).run Try.prog w' = .ok () (w'.setRow (w.heap.size + 1) (cellsR s')) := fun w' h => stR _ h s'
    have k0 := keep_alloc (heap_alloc_new w (.cells (cellsR s) 34)) (.cells (cellsR zeroF) 34)
    have z0 : ((w.alloc (.cells (cellsR s) 34)).alloc (.cells (cellsR zeroF) 34)).heap[w.heap.size + 1]? = some (.cells (cellsR zeroF) 34) := by simpa using heap_alloc_new (w.alloc (.cells (cellsR s) 34)) (.cells (cellsR zeroF) 34)
    have F0 := ((Fr.refl w).alloc (.cells (cellsR s) 34)).alloc (.cells (cellsR zeroF) 34)
    have l1 := zeroRv
    have l2 := sizeRv
    have l3 := size_cellsR
    go_enter Try.func85, Try.ntmps85
    go_wp2_with fail
    refine (rclass_v HC.out _).mono ?_
    rintro e w1 ⟨rfl, hb1⟩
    have k1 := keepB hb1 k0
    have z1 := keepB hb1 z0
    have F1 := F0.step hb1
    have ls := ldR (P := Try.prog) k1
    go_wp2_with fail
    refine (rget_v HY.out _ ok hL).mono ?_
    rintro e w2 ⟨rfl, hb2⟩
    have k2 := keepB hb2 k1
    have z2 := keepB hb2 z1
    have F2 := F1.step hb2
    have ls := ldR (P := Try.prog) k2
    go_wp2_with fail
    refine (rwrites_v HW.out _).mono ?_
    rintro e w3 ⟨rfl, hb3⟩
    have k3 := keepB hb3 k2
    have z3 := keepB hb3 z2
    have F3 := F2.step hb3
    have ls := ldR (P := Try.prog) k3
    go_wp2_with fail
    refine (rget_v (L := 0) HZ.out _ ok (by omega)).mono ?_
    rintro e w4 ⟨rfl, hb4⟩
    have k4 := keepB hb4 k3
    have z4 := keepB hb4 z3
    have F4 := F3.step hb4
    have ls := ldR (P := Try.prog) k4
    go_wp2_with fail
    refine (names_any _).mono ?_
    rintro e w5 ⟨rfl, rfl⟩
    have hcn := cells04_at (heap_alloc_new w4 (.cells cells04 9)) _ hk99
    rw [HN.out] at hcn
    have k5 := keep_alloc k4 (.cells cells04 9)
    have z5 := keep_alloc z4 (.cells cells04 9)
    have F5 := F4.alloc (.cells cells04 9)
    clear hb1 hb2 hb3 hb4 k0 k1 k2 k3 k4 z0 z1 z2 z3 z4 F0 F1 F2 F3 F4
    have ls := ldR (P := Try.prog) k5
    go_wp2_with fail
    refine (rset_v HS.out _ ok hu64).mono ?_
    rintro e w6 ⟨rfl, hb6⟩
    have k6 := keepB hb6 k5
    have z6 := keepB hb6 z5
    have F6 := F5.step hb6
    have ss := stR Try.prog z6 s'
    have E2 := Lib.hid (lvR (row_at z6 (cellsR s')))
    have FF := Lib.hid (F6.row (Nat.le_succ _) (cellsR s'))
    go_wp2
    refine bodyPost_ret (v := .tuple #[.agg (cellsR s'), .int .u64 (y : Int)]) (by simp [results, Try.results85, asAddr, Act.put, E2.out]) rfl ⟨by rw [HO.out, HR.out], FF.out.1⟩
theorem rdo_any (s : FS) (op n rs1 : Int) (v L : Nat) (w : World) (ok : OkF s) (hv : v < 18446744073709551616) (hL : L < 18446744073709551616) :
    Calls Try.prog 85 #[.agg (cellsR s), .int .i64 op, .int .i64 n, .int .i64 rs1, .int .u64 (v : Int), .int .u64 (L : Int)] w fun e w' => e = .returned (.tuple #[.agg (cellsR (doS s op n rs1 v)), .int .u64 (doR s op n L : Int)]) ∧ Below w.heap.size w w' := by
  cases hc : isCsrOp op
  · exact rdo_other s op n rs1 v L w ok hv hL hc
  cases hw : writesB op rs1
  · exact rdo_only s op n rs1 v L w ok hv hL hc hw
  have hop : 89 ≤ op ∧ op ≤ 94 := by unfold isCsrOp at hc; simpa using hc
  have h6 : op = 89 ∨ op = 90 ∨ op = 91 ∨ op = 92 ∨ op = 93 ∨ op = 94 := by omega
  rcases h6 with h6 | h6 | h6 | h6 | h6 | h6
  · exact rdo_put s op n rs1 v L w ok hv hL (Or.inl h6) hw
  · exact rdo_or s op n rs1 v L w ok hv hL (Or.inl h6) hw
  · exact rdo_clr s op n rs1 v L w ok hv hL (Or.inl h6) hw
  · exact rdo_put s op n rs1 v L w ok hv hL (Or.inr h6) hw
  · exact rdo_or s op n rs1 v L w ok hv hL (Or.inr h6) hw
  · exact rdo_clr s op n rs1 v L w ok hv hL (Or.inr h6) hw
theorem rdo_v {s s' : FS} {op n rs1 : Int} {v L y : Nat} (hs : doS s op n rs1 v = s') (hy : doR s op n L = y) (w : World) (ok : OkF s) (hv : v < 18446744073709551616) (hL : L < 18446744073709551616) :
    Calls Try.prog 85 #[.agg (cellsR s), .int .i64 op, .int .i64 n, .int .i64 rs1, .int .u64 (v : Int), .int .u64 (L : Int)] w fun e w' => e = .returned (.tuple #[.agg (cellsR s'), .int .u64 (y : Int)]) ∧ Below w.heap.size w w' := by
  rw [← hs, ← hy]; exact rdo_any s op n rs1 v L w ok hv hL
end Go.Proofs.Ythkkfdhgpaonjaa
