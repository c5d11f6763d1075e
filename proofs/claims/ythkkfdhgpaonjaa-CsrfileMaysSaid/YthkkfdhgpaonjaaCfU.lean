/- The document's May. -/
import Derived.Test.YthkkfdhgpaonjaaCfT
namespace Go.Proofs.Ythkkfdhgpaonjaa
open Go.RowKit
set_option linter.unusedSimpArgs false
set_option linter.unusedVariables false

theorem get_tvm {x : Nat} {q : Bool} (hq : x.testBit 20 = q) (w : World) (hx : x < 18446744073709551616) :
    Calls Try.prog 93 #[.int .u64 (x : Int), .string ⟨#[116, 118, 109]⟩] w fun e w' => e = .returned (.int .u64 ((q.toNat : Nat) : Int)) ∧ w = w' := by
  rw [← hq]; exact get_at (c := 20) (by omega) (fun w => at_tvm w) x hx w
set_option maxRecDepth 100000 in
set_option maxHeartbeats 2000000 in
theorem rpmay_no (s : FS) (n : Int) (p : Int) (wr : Bool) (w : World) (ok : OkF s) (hm : mayB n p wr = false) :
    Calls Try.prog 57 #[.agg (cellsR s), .int .i64 n, .int .i64 p, .bool wr] w fun e w' => e = .returned (.bool (mayF s n p wr)) ∧ Below w.heap.size w w' := by
  have HO : Hid (mayF s n p wr = false) := mayF_no hm
  have HM := Lib.hid hm
  clear hm
  have hk0 := heap_alloc_new w (.cells (cellsR s) 34)
  have F0 := (Fr.refl w).alloc (.cells (cellsR s) 34)
  have l2 := sizeRv
  go_enter Try.func57, Try.ntmps57
  go_wp2_with fail
  refine (rmay_v HM.out _).mono ?_
  rintro e w1 ⟨rfl, hb1⟩
  have k1 := keepB hb1 hk0
  have F1 := F0.step hb1
  have ls := ldR (P := Try.prog) k1
  clear hk0 F0
  have FE := Lib.hid F1.1
  clear F1
  go_wp2
  go_ret
  exact ⟨by rw [HO.out]; rfl, FE.out⟩
set_option maxRecDepth 100000 in
set_option maxHeartbeats 2000000 in
theorem rpmay_else (s : FS) (n : Int) (p : Int) (wr : Bool) (w : World) (ok : OkF s) (hm : mayB n p wr = true) (h0 : n ≠ 384) (h1 : ¬ (3072 ≤ n ∧ n ≤ 3074)) :
    Calls Try.prog 57 #[.agg (cellsR s), .int .i64 n, .int .i64 p, .bool wr] w fun e w' => e = .returned (.bool (mayF s n p wr)) ∧ Below w.heap.size w w' := by
  have HO : Hid (mayF s n p wr = true) := mayF_else hm h0 h1
  have HM := Lib.hid hm
  have b0 : (n == 384) = false := by simpa using h0
  by_cases h2 : 3072 ≤ n
  · have h3 : 3074 < n := by omega
    clear hm h0 h1
    have hk0 := heap_alloc_new w (.cells (cellsR s) 34)
    have F0 := (Fr.refl w).alloc (.cells (cellsR s) 34)
    have l2 := sizeRv
    go_enter Try.func57, Try.ntmps57
    go_wp2_with fail
    refine (rmay_v HM.out _).mono ?_
    rintro e w1 ⟨rfl, hb1⟩
    have k1 := keepB hb1 hk0
    have F1 := F0.step hb1
    have ls := ldR (P := Try.prog) k1
    clear hk0 F0
    have FE := Lib.hid F1.1
    clear F1
    go_wp2
    go_ret
    exact ⟨by rw [HO.out]; rfl, FE.out⟩
  · clear hm h0 h1
    have hk0 := heap_alloc_new w (.cells (cellsR s) 34)
    have F0 := (Fr.refl w).alloc (.cells (cellsR s) 34)
    have l2 := sizeRv
    go_enter Try.func57, Try.ntmps57
    go_wp2_with fail
    refine (rmay_v HM.out _).mono ?_
    rintro e w1 ⟨rfl, hb1⟩
    have k1 := keepB hb1 hk0
    have F1 := F0.step hb1
    have ls := ldR (P := Try.prog) k1
    clear hk0 F0
    have FE := Lib.hid F1.1
    clear F1
    go_wp2
    go_ret
    exact ⟨by rw [HO.out]; rfl, FE.out⟩
set_option maxRecDepth 100000 in
set_option maxHeartbeats 2000000 in
theorem rpmay_384x (s : FS) (p : Int) (wr : Bool) (w : World) (ok : OkF s) (hm : mayB 384 p wr = true) (h1 : p ≠ 1) :
    Calls Try.prog 57 #[.agg (cellsR s), .int .i64 384, .int .i64 p, .bool wr] w fun e w' => e = .returned (.bool (mayF s 384 p wr)) ∧ Below w.heap.size w w' := by
  have HO : Hid (mayF s 384 p wr = true) := by show _ = _; rw [mayF_384 hm]; simp [h1]
  have HM := Lib.hid hm
  have b1 : (p == 1) = false := by simpa using h1
  clear hm h1
  have hk0 := heap_alloc_new w (.cells (cellsR s) 34)
  have F0 := (Fr.refl w).alloc (.cells (cellsR s) 34)
  have l2 := sizeRv
  go_enter Try.func57, Try.ntmps57
  go_wp2_with fail
  refine (rmay_v HM.out _).mono ?_
  rintro e w1 ⟨rfl, hb1⟩
  have k1 := keepB hb1 hk0
  have F1 := F0.step hb1
  have ls := ldR (P := Try.prog) k1
  clear hk0 F0
  have FE := Lib.hid F1.1
  clear F1
  go_wp2
  go_ret
  exact ⟨by rw [HO.out]; rfl, FE.out⟩
set_option maxRecDepth 100000 in
set_option maxHeartbeats 2000000 in
theorem rpmay_384s (s : FS) (wr : Bool) (w : World) (ok : OkF s) (hm : mayB 384 1 wr = true) :
    Calls Try.prog 57 #[.agg (cellsR s), .int .i64 384, .int .i64 1, .bool wr] w fun e w' => e = .returned (.bool (mayF s 384 1 wr)) ∧ Below w.heap.size w w' := by
  obtain ⟨q, hq⟩ : ∃ q, (s.g 7).testBit 20 = q := ⟨_, rfl⟩
  have HO : Hid (mayF s 384 1 wr = !q) := by show _ = _; rw [mayF_384 hm, hq]; simp
  have HM := Lib.hid hm
  have HQ := Lib.hid hq
  have h7 := ok.g 7
  clear hm hq
  have hk0 := heap_alloc_new w (.cells (cellsR s) 34)
  have F0 := (Fr.refl w).alloc (.cells (cellsR s) 34)
  have l2 := sizeRv
  go_enter Try.func57, Try.ntmps57
  go_wp2_with fail
  refine (rmay_v HM.out _).mono ?_
  rintro e w1 ⟨rfl, hb1⟩
  have k1 := keepB hb1 hk0
  have F1 := F0.step hb1
  have ls := ldR (P := Try.prog) k1
  clear hk0 F0
  go_wp2_with fail
  refine (word_n nm_mstatus rfl _).mono ?_
  rintro e w2 ⟨rfl, hb2⟩
  have FE := Lib.hid (F1.step hb2).1
  go_wp2_with fail
  refine (get_tvm HQ.out _ h7).mono ?_
  rintro e w3 ⟨rfl, rfl⟩
  clear F1
  cases q
  all_goals
    go_wp2
    go_ret
    exact ⟨by rw [HO.out]; rfl, FE.out⟩
set_option maxRecDepth 100000 in
set_option maxHeartbeats 2000000 in
theorem rpmay_3072_3 (s : FS) (wr : Bool) (w : World) (ok : OkF s) (hm : mayB 3072 3 wr = true) :
    Calls Try.prog 57 #[.agg (cellsR s), .int .i64 3072, .int .i64 3, .bool wr] w fun e w' => e = .returned (.bool (mayF s 3072 3 wr)) ∧ Below w.heap.size w w' := by
  obtain ⟨q1, hq1⟩ : ∃ q, (s.g 12).testBit 0 = q := ⟨_, rfl⟩
  obtain ⟨q2, hq2⟩ : ∃ q, (s.g 1).testBit 0 = q := ⟨_, rfl⟩
  have h12 := ok.g 12
  have h1 := ok.g 1
  have HO : Hid (mayF s 3072 3 wr = true) := by
    show _ = _
    rw [mayF_ctr hm (by omega) (by omega), show ((3072 : Int) - 3072).toNat = 0 from rfl, hq1, hq2]
    simp
  have HM := Lib.hid hm
  have HQ1 : Hid (bitN (s.g 12) 0 = q1.toNat) := by show _ = _; rw [← hq1]; exact bitv _ 0 h12 (by omega)
  have HQ2 : Hid (bitN (s.g 1) 0 = q2.toNat) := by show _ = _; rw [← hq2]; exact bitv _ 0 h1 (by omega)
  clear hm hq1 hq2
  have hk0 := heap_alloc_new w (.cells (cellsR s) 34)
  have F0 := (Fr.refl w).alloc (.cells (cellsR s) 34)
  have l2 := sizeRv
  go_enter Try.func57, Try.ntmps57
  go_wp2_with fail
  refine (rmay_v HM.out _).mono ?_
  rintro e w1 ⟨rfl, hb1⟩
  have k1 := keepB hb1 hk0
  have F1 := F0.step hb1
  have ls := ldR (P := Try.prog) k1
  clear hk0 F0
  have FE := Lib.hid F1.1
  clear F1
  go_wp2
  go_ret
  exact ⟨by rw [HO.out]; rfl, FE.out⟩
set_option maxRecDepth 100000 in
set_option maxHeartbeats 2000000 in
theorem rpmay_3072_0 (s : FS) (wr : Bool) (w : World) (ok : OkF s) (hm : mayB 3072 0 wr = true) :
    Calls Try.prog 57 #[.agg (cellsR s), .int .i64 3072, .int .i64 0, .bool wr] w fun e w' => e = .returned (.bool (mayF s 3072 0 wr)) ∧ Below w.heap.size w w' := by
  obtain ⟨q1, hq1⟩ : ∃ q, (s.g 12).testBit 0 = q := ⟨_, rfl⟩
  obtain ⟨q2, hq2⟩ : ∃ q, (s.g 1).testBit 0 = q := ⟨_, rfl⟩
  have h12 := ok.g 12
  have h1 := ok.g 1
  have HO : Hid (mayF s 3072 0 wr = (q1 && q2)) := by
    show _ = _
    rw [mayF_ctr hm (by omega) (by omega), show ((3072 : Int) - 3072).toNat = 0 from rfl, hq1, hq2]
    simp
  have HM := Lib.hid hm
  have HQ1 : Hid (bitN (s.g 12) 0 = q1.toNat) := by show _ = _; rw [← hq1]; exact bitv _ 0 h12 (by omega)
  have HQ2 : Hid (bitN (s.g 1) 0 = q2.toNat) := by show _ = _; rw [← hq2]; exact bitv _ 0 h1 (by omega)
  clear hm hq1 hq2
  have hk0 := heap_alloc_new w (.cells (cellsR s) 34)
  have F0 := (Fr.refl w).alloc (.cells (cellsR s) 34)
  have l2 := sizeRv
  go_enter Try.func57, Try.ntmps57
  go_wp2_with fail
  refine (rmay_v HM.out _).mono ?_
  rintro e w1 ⟨rfl, hb1⟩
  have k1 := keepB hb1 hk0
  have F1 := F0.step hb1
  have ls := ldR (P := Try.prog) k1
  clear hk0 F0
  go_wp2_with fail
  refine (word_n nm_mcounteren rfl _).mono ?_
  rintro e w2 ⟨rfl, hb2⟩
  have k2 := keepB hb2 k1
  have F2 := F1.step hb2
  clear ls
  have ls := ldR (P := Try.prog) k2
  go_wp2_with fail
  refine (bit_v HQ1.out _ h12).mono ?_
  rintro e w3 ⟨rfl, rfl⟩
  cases q1
  · have FE := Lib.hid F2.1
    clear F2 F1
    go_wp2
    go_ret
    exact ⟨by rw [HO.out]; rfl, FE.out⟩
  · go_wp2_with fail
    refine (word_n nm_scounteren rfl _).mono ?_
    rintro e w4 ⟨rfl, hb4⟩
    have FE := Lib.hid (F2.step hb4).1
    go_wp2_with fail
    refine (bit_v HQ2.out _ h1).mono ?_
    rintro e w5 ⟨rfl, rfl⟩
    clear F2 F1
    cases q2
    all_goals
      go_wp2
      go_ret
      exact ⟨by rw [HO.out]; rfl, FE.out⟩
set_option maxRecDepth 100000 in
set_option maxHeartbeats 2000000 in
theorem rpmay_3072_1 (s : FS) (wr : Bool) (w : World) (ok : OkF s) (hm : mayB 3072 1 wr = true) :
    Calls Try.prog 57 #[.agg (cellsR s), .int .i64 3072, .int .i64 1, .bool wr] w fun e w' => e = .returned (.bool (mayF s 3072 1 wr)) ∧ Below w.heap.size w w' := by
  obtain ⟨q1, hq1⟩ : ∃ q, (s.g 12).testBit 0 = q := ⟨_, rfl⟩
  obtain ⟨q2, hq2⟩ : ∃ q, (s.g 1).testBit 0 = q := ⟨_, rfl⟩
  have h12 := ok.g 12
  have h1 := ok.g 1
  have HO : Hid (mayF s 3072 1 wr = q1) := by
    show _ = _
    rw [mayF_ctr hm (by omega) (by omega), show ((3072 : Int) - 3072).toNat = 0 from rfl, hq1, hq2]
    simp
  have HM := Lib.hid hm
  have HQ1 : Hid (bitN (s.g 12) 0 = q1.toNat) := by show _ = _; rw [← hq1]; exact bitv _ 0 h12 (by omega)
  have HQ2 : Hid (bitN (s.g 1) 0 = q2.toNat) := by show _ = _; rw [← hq2]; exact bitv _ 0 h1 (by omega)
  clear hm hq1 hq2
  have hk0 := heap_alloc_new w (.cells (cellsR s) 34)
  have F0 := (Fr.refl w).alloc (.cells (cellsR s) 34)
  have l2 := sizeRv
  go_enter Try.func57, Try.ntmps57
  go_wp2_with fail
  refine (rmay_v HM.out _).mono ?_
  rintro e w1 ⟨rfl, hb1⟩
  have k1 := keepB hb1 hk0
  have F1 := F0.step hb1
  have ls := ldR (P := Try.prog) k1
  clear hk0 F0
  go_wp2_with fail
  refine (word_n nm_mcounteren rfl _).mono ?_
  rintro e w2 ⟨rfl, hb2⟩
  have k2 := keepB hb2 k1
  have F2 := F1.step hb2
  clear ls
  have ls := ldR (P := Try.prog) k2
  go_wp2_with fail
  refine (bit_v HQ1.out _ h12).mono ?_
  rintro e w3 ⟨rfl, rfl⟩
  have FE := Lib.hid F2.1
  clear F2 F1
  cases q1
  all_goals
    go_wp2
    go_ret
    exact ⟨by rw [HO.out]; rfl, FE.out⟩
set_option maxRecDepth 100000 in
set_option maxHeartbeats 2000000 in
theorem rpmay_3073_3 (s : FS) (wr : Bool) (w : World) (ok : OkF s) (hm : mayB 3073 3 wr = true) :
    Calls Try.prog 57 #[.agg (cellsR s), .int .i64 3073, .int .i64 3, .bool wr] w fun e w' => e = .returned (.bool (mayF s 3073 3 wr)) ∧ Below w.heap.size w w' := by
  obtain ⟨q1, hq1⟩ : ∃ q, (s.g 12).testBit 1 = q := ⟨_, rfl⟩
  obtain ⟨q2, hq2⟩ : ∃ q, (s.g 1).testBit 1 = q := ⟨_, rfl⟩
  have h12 := ok.g 12
  have h1 := ok.g 1
  have HO : Hid (mayF s 3073 3 wr = true) := by
    show _ = _
    rw [mayF_ctr hm (by omega) (by omega), show ((3073 : Int) - 3072).toNat = 1 from rfl, hq1, hq2]
    simp
  have HM := Lib.hid hm
  have HQ1 : Hid (bitN (s.g 12) 1 = q1.toNat) := by show _ = _; rw [← hq1]; exact bitv _ 1 h12 (by omega)
  have HQ2 : Hid (bitN (s.g 1) 1 = q2.toNat) := by show _ = _; rw [← hq2]; exact bitv _ 1 h1 (by omega)
  clear hm hq1 hq2
  have hk0 := heap_alloc_new w (.cells (cellsR s) 34)
  have F0 := (Fr.refl w).alloc (.cells (cellsR s) 34)
  have l2 := sizeRv
  go_enter Try.func57, Try.ntmps57
  go_wp2_with fail
  refine (rmay_v HM.out _).mono ?_
  rintro e w1 ⟨rfl, hb1⟩
  have k1 := keepB hb1 hk0
  have F1 := F0.step hb1
  have ls := ldR (P := Try.prog) k1
  clear hk0 F0
  have FE := Lib.hid F1.1
  clear F1
  go_wp2
  go_ret
  exact ⟨by rw [HO.out]; rfl, FE.out⟩
set_option maxRecDepth 100000 in
set_option maxHeartbeats 2000000 in
theorem rpmay_3073_0 (s : FS) (wr : Bool) (w : World) (ok : OkF s) (hm : mayB 3073 0 wr = true) :
    Calls Try.prog 57 #[.agg (cellsR s), .int .i64 3073, .int .i64 0, .bool wr] w fun e w' => e = .returned (.bool (mayF s 3073 0 wr)) ∧ Below w.heap.size w w' := by
  obtain ⟨q1, hq1⟩ : ∃ q, (s.g 12).testBit 1 = q := ⟨_, rfl⟩
  obtain ⟨q2, hq2⟩ : ∃ q, (s.g 1).testBit 1 = q := ⟨_, rfl⟩
  have h12 := ok.g 12
  have h1 := ok.g 1
  have HO : Hid (mayF s 3073 0 wr = (q1 && q2)) := by
    show _ = _
    rw [mayF_ctr hm (by omega) (by omega), show ((3073 : Int) - 3072).toNat = 1 from rfl, hq1, hq2]
    simp
  have HM := Lib.hid hm
  have HQ1 : Hid (bitN (s.g 12) 1 = q1.toNat) := by show _ = _; rw [← hq1]; exact bitv _ 1 h12 (by omega)
  have HQ2 : Hid (bitN (s.g 1) 1 = q2.toNat) := by show _ = _; rw [← hq2]; exact bitv _ 1 h1 (by omega)
  clear hm hq1 hq2
  have hk0 := heap_alloc_new w (.cells (cellsR s) 34)
  have F0 := (Fr.refl w).alloc (.cells (cellsR s) 34)
  have l2 := sizeRv
  go_enter Try.func57, Try.ntmps57
  go_wp2_with fail
  refine (rmay_v HM.out _).mono ?_
  rintro e w1 ⟨rfl, hb1⟩
  have k1 := keepB hb1 hk0
  have F1 := F0.step hb1
  have ls := ldR (P := Try.prog) k1
  clear hk0 F0
  go_wp2_with fail
  refine (word_n nm_mcounteren rfl _).mono ?_
  rintro e w2 ⟨rfl, hb2⟩
  have k2 := keepB hb2 k1
  have F2 := F1.step hb2
  clear ls
  have ls := ldR (P := Try.prog) k2
  go_wp2_with fail
  refine (bit_v HQ1.out _ h12).mono ?_
  rintro e w3 ⟨rfl, rfl⟩
  cases q1
  · have FE := Lib.hid F2.1
    clear F2 F1
    go_wp2
    go_ret
    exact ⟨by rw [HO.out]; rfl, FE.out⟩
  · go_wp2_with fail
    refine (word_n nm_scounteren rfl _).mono ?_
    rintro e w4 ⟨rfl, hb4⟩
    have FE := Lib.hid (F2.step hb4).1
    go_wp2_with fail
    refine (bit_v HQ2.out _ h1).mono ?_
    rintro e w5 ⟨rfl, rfl⟩
    clear F2 F1
    cases q2
    all_goals
      go_wp2
      go_ret
      exact ⟨by rw [HO.out]; rfl, FE.out⟩
set_option maxRecDepth 100000 in
set_option maxHeartbeats 2000000 in
theorem rpmay_3073_1 (s : FS) (wr : Bool) (w : World) (ok : OkF s) (hm : mayB 3073 1 wr = true) :
    Calls Try.prog 57 #[.agg (cellsR s), .int .i64 3073, .int .i64 1, .bool wr] w fun e w' => e = .returned (.bool (mayF s 3073 1 wr)) ∧ Below w.heap.size w w' := by
  obtain ⟨q1, hq1⟩ : ∃ q, (s.g 12).testBit 1 = q := ⟨_, rfl⟩
  obtain ⟨q2, hq2⟩ : ∃ q, (s.g 1).testBit 1 = q := ⟨_, rfl⟩
  have h12 := ok.g 12
  have h1 := ok.g 1
  have HO : Hid (mayF s 3073 1 wr = q1) := by
    show _ = _
    rw [mayF_ctr hm (by omega) (by omega), show ((3073 : Int) - 3072).toNat = 1 from rfl, hq1, hq2]
    simp
  have HM := Lib.hid hm
  have HQ1 : Hid (bitN (s.g 12) 1 = q1.toNat) := by show _ = _; rw [← hq1]; exact bitv _ 1 h12 (by omega)
  have HQ2 : Hid (bitN (s.g 1) 1 = q2.toNat) := by show _ = _; rw [← hq2]; exact bitv _ 1 h1 (by omega)
  clear hm hq1 hq2
  have hk0 := heap_alloc_new w (.cells (cellsR s) 34)
  have F0 := (Fr.refl w).alloc (.cells (cellsR s) 34)
  have l2 := sizeRv
  go_enter Try.func57, Try.ntmps57
  go_wp2_with fail
  refine (rmay_v HM.out _).mono ?_
  rintro e w1 ⟨rfl, hb1⟩
  have k1 := keepB hb1 hk0
  have F1 := F0.step hb1
  have ls := ldR (P := Try.prog) k1
  clear hk0 F0
  go_wp2_with fail
  refine (word_n nm_mcounteren rfl _).mono ?_
  rintro e w2 ⟨rfl, hb2⟩
  have k2 := keepB hb2 k1
  have F2 := F1.step hb2
  clear ls
  have ls := ldR (P := Try.prog) k2
  go_wp2_with fail
  refine (bit_v HQ1.out _ h12).mono ?_
  rintro e w3 ⟨rfl, rfl⟩
  have FE := Lib.hid F2.1
  clear F2 F1
  cases q1
  all_goals
    go_wp2
    go_ret
    exact ⟨by rw [HO.out]; rfl, FE.out⟩
set_option maxRecDepth 100000 in
set_option maxHeartbeats 2000000 in
theorem rpmay_3074_3 (s : FS) (wr : Bool) (w : World) (ok : OkF s) (hm : mayB 3074 3 wr = true) :
    Calls Try.prog 57 #[.agg (cellsR s), .int .i64 3074, .int .i64 3, .bool wr] w fun e w' => e = .returned (.bool (mayF s 3074 3 wr)) ∧ Below w.heap.size w w' := by
  obtain ⟨q1, hq1⟩ : ∃ q, (s.g 12).testBit 2 = q := ⟨_, rfl⟩
  obtain ⟨q2, hq2⟩ : ∃ q, (s.g 1).testBit 2 = q := ⟨_, rfl⟩
  have h12 := ok.g 12
  have h1 := ok.g 1
  have HO : Hid (mayF s 3074 3 wr = true) := by
    show _ = _
    rw [mayF_ctr hm (by omega) (by omega), show ((3074 : Int) - 3072).toNat = 2 from rfl, hq1, hq2]
    simp
  have HM := Lib.hid hm
  have HQ1 : Hid (bitN (s.g 12) 2 = q1.toNat) := by show _ = _; rw [← hq1]; exact bitv _ 2 h12 (by omega)
  have HQ2 : Hid (bitN (s.g 1) 2 = q2.toNat) := by show _ = _; rw [← hq2]; exact bitv _ 2 h1 (by omega)
  clear hm hq1 hq2
  have hk0 := heap_alloc_new w (.cells (cellsR s) 34)
  have F0 := (Fr.refl w).alloc (.cells (cellsR s) 34)
  have l2 := sizeRv
  go_enter Try.func57, Try.ntmps57
  go_wp2_with fail
  refine (rmay_v HM.out _).mono ?_
  rintro e w1 ⟨rfl, hb1⟩
  have k1 := keepB hb1 hk0
  have F1 := F0.step hb1
  have ls := ldR (P := Try.prog) k1
  clear hk0 F0
  have FE := Lib.hid F1.1
  clear F1
  go_wp2
  go_ret
  exact ⟨by rw [HO.out]; rfl, FE.out⟩
set_option maxRecDepth 100000 in
set_option maxHeartbeats 2000000 in
theorem rpmay_3074_0 (s : FS) (wr : Bool) (w : World) (ok : OkF s) (hm : mayB 3074 0 wr = true) :
    Calls Try.prog 57 #[.agg (cellsR s), .int .i64 3074, .int .i64 0, .bool wr] w fun e w' => e = .returned (.bool (mayF s 3074 0 wr)) ∧ Below w.heap.size w w' := by
  obtain ⟨q1, hq1⟩ : ∃ q, (s.g 12).testBit 2 = q := ⟨_, rfl⟩
  obtain ⟨q2, hq2⟩ : ∃ q, (s.g 1).testBit 2 = q := ⟨_, rfl⟩
  have h12 := ok.g 12
  have h1 := ok.g 1
  have HO : Hid (mayF s 3074 0 wr = (q1 && q2)) := by
    show _ = _
    rw [mayF_ctr hm (by omega) (by omega), show ((3074 : Int) - 3072).toNat = 2 from rfl, hq1, hq2]
    simp
  have HM := Lib.hid hm
  have HQ1 : Hid (bitN (s.g 12) 2 = q1.toNat) := by show _ = _; rw [← hq1]; exact bitv _ 2 h12 (by omega)
  have HQ2 : Hid (bitN (s.g 1) 2 = q2.toNat) := by show _ = _; rw [← hq2]; exact bitv _ 2 h1 (by omega)
  clear hm hq1 hq2
  have hk0 := heap_alloc_new w (.cells (cellsR s) 34)
  have F0 := (Fr.refl w).alloc (.cells (cellsR s) 34)
  have l2 := sizeRv
  go_enter Try.func57, Try.ntmps57
  go_wp2_with fail
  refine (rmay_v HM.out _).mono ?_
  rintro e w1 ⟨rfl, hb1⟩
  have k1 := keepB hb1 hk0
  have F1 := F0.step hb1
  have ls := ldR (P := Try.prog) k1
  clear hk0 F0
  go_wp2_with fail
  refine (word_n nm_mcounteren rfl _).mono ?_
  rintro e w2 ⟨rfl, hb2⟩
  have k2 := keepB hb2 k1
  have F2 := F1.step hb2
  clear ls
  have ls := ldR (P := Try.prog) k2
  go_wp2_with fail
  refine (bit_v HQ1.out _ h12).mono ?_
  rintro e w3 ⟨rfl, rfl⟩
  cases q1
  · have FE := Lib.hid F2.1
    clear F2 F1
    go_wp2
    go_ret
    exact ⟨by rw [HO.out]; rfl, FE.out⟩
  · go_wp2_with fail
    refine (word_n nm_scounteren rfl _).mono ?_
    rintro e w4 ⟨rfl, hb4⟩
    have FE := Lib.hid (F2.step hb4).1
    go_wp2_with fail
    refine (bit_v HQ2.out _ h1).mono ?_
    rintro e w5 ⟨rfl, rfl⟩
    clear F2 F1
    cases q2
    all_goals
      go_wp2
      go_ret
      exact ⟨by rw [HO.out]; rfl, FE.out⟩
set_option maxRecDepth 100000 in
set_option maxHeartbeats 2000000 in
theorem rpmay_3074_1 (s : FS) (wr : Bool) (w : World) (ok : OkF s) (hm : mayB 3074 1 wr = true) :
    Calls Try.prog 57 #[.agg (cellsR s), .int .i64 3074, .int .i64 1, .bool wr] w fun e w' => e = .returned (.bool (mayF s 3074 1 wr)) ∧ Below w.heap.size w w' := by
  obtain ⟨q1, hq1⟩ : ∃ q, (s.g 12).testBit 2 = q := ⟨_, rfl⟩
  obtain ⟨q2, hq2⟩ : ∃ q, (s.g 1).testBit 2 = q := ⟨_, rfl⟩
  have h12 := ok.g 12
  have h1 := ok.g 1
  have HO : Hid (mayF s 3074 1 wr = q1) := by
    show _ = _
    rw [mayF_ctr hm (by omega) (by omega), show ((3074 : Int) - 3072).toNat = 2 from rfl, hq1, hq2]
    simp
  have HM := Lib.hid hm
  have HQ1 : Hid (bitN (s.g 12) 2 = q1.toNat) := by show _ = _; rw [← hq1]; exact bitv _ 2 h12 (by omega)
  have HQ2 : Hid (bitN (s.g 1) 2 = q2.toNat) := by show _ = _; rw [← hq2]; exact bitv _ 2 h1 (by omega)
  clear hm hq1 hq2
  have hk0 := heap_alloc_new w (.cells (cellsR s) 34)
  have F0 := (Fr.refl w).alloc (.cells (cellsR s) 34)
  have l2 := sizeRv
  go_enter Try.func57, Try.ntmps57
  go_wp2_with fail
  refine (rmay_v HM.out _).mono ?_
  rintro e w1 ⟨rfl, hb1⟩
  have k1 := keepB hb1 hk0
  have F1 := F0.step hb1
  have ls := ldR (P := Try.prog) k1
  clear hk0 F0
  go_wp2_with fail
  refine (word_n nm_mcounteren rfl _).mono ?_
  rintro e w2 ⟨rfl, hb2⟩
  have k2 := keepB hb2 k1
  have F2 := F1.step hb2
  clear ls
  have ls := ldR (P := Try.prog) k2
  go_wp2_with fail
  refine (bit_v HQ1.out _ h12).mono ?_
  rintro e w3 ⟨rfl, rfl⟩
  have FE := Lib.hid F2.1
  clear F2 F1
  cases q1
  all_goals
    go_wp2
    go_ret
    exact ⟨by rw [HO.out]; rfl, FE.out⟩
theorem rpmay_any (s : FS) (n p : Int) (wr : Bool) (w : World) (ok : OkF s) :
    Calls Try.prog 57 #[.agg (cellsR s), .int .i64 n, .int .i64 p, .bool wr] w fun e w' => e = .returned (.bool (mayF s n p wr)) ∧ Below w.heap.size w w' := by
  cases hm : mayB n p wr
  · exact rpmay_no s n p wr w ok hm
  by_cases h0 : n = 384
  · subst h0
    by_cases h1 : p = 1
    · subst h1; exact rpmay_384s s wr w ok hm
    · exact rpmay_384x s p wr w ok hm h1
  by_cases h1 : 3072 ≤ n ∧ n ≤ 3074
  · have e : n = 3072 ∨ n = 3073 ∨ n = 3074 := by omega
    rcases e with rfl | rfl | rfl
    · rcases mayB_priv hm with rfl | rfl | rfl
      · exact rpmay_3072_0 s wr w ok hm
      · exact rpmay_3072_1 s wr w ok hm
      · exact rpmay_3072_3 s wr w ok hm
    · rcases mayB_priv hm with rfl | rfl | rfl
      · exact rpmay_3073_0 s wr w ok hm
      · exact rpmay_3073_1 s wr w ok hm
      · exact rpmay_3073_3 s wr w ok hm
    · rcases mayB_priv hm with rfl | rfl | rfl
      · exact rpmay_3074_0 s wr w ok hm
      · exact rpmay_3074_1 s wr w ok hm
      · exact rpmay_3074_3 s wr w ok hm
  · exact rpmay_else s n p wr w ok hm h0 h1
theorem pmay_v {b : Nat} {s : FS} {n p : Int} {wr q : Bool} (hq : mayF s n p wr = q) (w : World) (ok : OkF s) (h : w.heap[b]? = some (.cells (cellsF s) 31)) :
    Calls Try.prog 55 #[.pointer (some ⟨b, 0, none⟩), .int .i64 n, .int .i64 p, .bool wr] w fun e w' => e = .returned (.bool q) ∧ Below w.heap.size w w' := by
  rw [← hq]; exact pmay_any b s n p wr w ok h
theorem rpmay_v {s : FS} {n p : Int} {wr q : Bool} (hq : mayF s n p wr = q) (w : World) (ok : OkF s) :
    Calls Try.prog 57 #[.agg (cellsR s), .int .i64 n, .int .i64 p, .bool wr] w fun e w' => e = .returned (.bool q) ∧ Below w.heap.size w w' := by
  rw [← hq]; exact rpmay_any s n p wr w ok
end Go.Proofs.Ythkkfdhgpaonjaa
