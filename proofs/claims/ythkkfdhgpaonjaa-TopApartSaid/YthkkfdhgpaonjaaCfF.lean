/- csrfile's Writes and Do. -/
import Derived.Test.YthkkfdhgpaonjaaCfE
namespace Go.Proofs.Ythkkfdhgpaonjaa
open Go.RowKit
set_option linter.unusedSimpArgs false
set_option linter.unusedVariables false

theorem writes_any (op rs1 : Int) (w : World) :
    Calls Try.prog 44 #[.int .i64 op, .int .i64 rs1] w fun e w' => e = .returned (.bool (writesB op rs1)) ∧ w' = w := by
  by_cases h1 : op = 89
  · subst h1
    go_enter Try.func44, Try.ntmps44
    go_wp2_with fail
    go_ret
    exact ⟨rfl, rfl⟩
  by_cases h2 : op = 92
  · subst h2
    go_enter Try.func44, Try.ntmps44
    go_wp2_with fail
    go_ret
    exact ⟨rfl, rfl⟩
  have b1 : (op == 89) = false := by simpa using h1
  have b2 : (op == 92) = false := by simpa using h2
  have HW : Hid (writesB op rs1 = (isCsrOp op && (rs1 != 0))) := by show _ = _; unfold writesB; simp [h1, h2]
  clear h1 h2
  cases hc : isCsrOp op
  · rw [hc] at HW
    have HC := Lib.hid hc
    clear hc
    go_enter Try.func44, Try.ntmps44
    go_wp2_with fail
    refine (class_other op _ HC.out).mono ?_
    rintro e w1 ⟨c, rfl, hc8, rfl⟩
    go_wp2
    go_ret
    exact ⟨by rw [HW.out]; rfl, rfl⟩
  · rw [hc] at HW
    have HC := Lib.hid hc
    clear hc
    by_cases h0 : rs1 = 0
    · subst h0
      go_enter Try.func44, Try.ntmps44
      go_wp2_with fail
      refine (class_csr op _ HC.out).mono ?_
      rintro e w1 ⟨rfl, rfl⟩
      go_wp2
      go_ret
      exact ⟨by rw [HW.out]; rfl, rfl⟩
    · have b0 : (rs1 != 0) = true := by simpa using h0
      rw [b0] at HW
      clear h0
      go_enter Try.func44, Try.ntmps44
      go_wp2_with fail
      refine (class_csr op _ HC.out).mono ?_
      rintro e w1 ⟨rfl, rfl⟩
      go_wp2
      go_ret
      exact ⟨by rw [HW.out]; rfl, rfl⟩
theorem writes_v {op rs1 : Int} {q : Bool} (h : writesB op rs1 = q) (w : World) :
    Calls Try.prog 44 #[.int .i64 op, .int .i64 rs1] w fun e w' => e = .returned (.bool q) ∧ w' = w := by
  rw [← h]; exact writes_any op rs1 w

def doV (s : FS) (op n : Int) (v : Nat) : Nat := if op = 90 ∨ op = 93 then v ||| getOf s n 0 else if op = 91 ∨ op = 94 then getOf s n 0 &&& (18446744073709551615 - v) else v
def doS (s : FS) (op n rs1 : Int) (v : Nat) : FS := if (isCsrOp op && writesB op rs1) = true then setOf s n (doV s op n v) else s
def doR (s : FS) (op n : Int) (L : Nat) : Nat := if isCsrOp op = true then getOf s n L else 0
theorem doV_lt {s : FS} (ok : OkF s) (op n : Int) (v : Nat) (hv : v < 18446744073709551616) : doV s op n v < 18446744073709551616 := by
  unfold doV
  have hg := getOf_lt ok n 0 (by omega)
  split
  · exact or_lt64 hv hg
  split
  · exact and_lt hg
  · exact hv
theorem OkF.do {s : FS} (ok : OkF s) (op n rs1 : Int) (v : Nat) : OkF (doS s op n rs1 v) := by
  unfold doS
  split
  · exact ok.set _ _
  · exact ok
theorem do_nil (op rd rs1 rs2 imm n : Int) (aq rl : Bool) (v L : Nat) (w : World) :
    Calls Try.prog 56 #[.pointer none, .agg #[.int .i64 op, .int .i64 rd, .int .i64 rs1, .int .i64 rs2, .int .i64 imm, .int .i64 n, .bool aq, .bool rl], .int .u64 (v : Int), .int .u64 (L : Int)] w fun e w' => e = .returned (.int .u64 0) ∧ Below w.heap.size w w' := by
  go_enter Try.func56, Try.ntmps56
  go_wp2
  go_outline
  go_ret
  exact ⟨rfl, by first | exact Below.refl _ _ | exact ((Fr.refl w).alloc _).1⟩
set_option maxRecDepth 100000 in
set_option maxHeartbeats 2000000 in
theorem do_other (b : Nat) (s : FS) (op rd rs1 rs2 imm n : Int) (aq rl : Bool) (v L : Nat) (w : World) (ok : OkF s) (hv : v < 18446744073709551616) (hL : L < 18446744073709551616) (h : w.heap[b]? = some (.cells (cellsF s) 31)) (hc : isCsrOp op = false) :
    Calls Try.prog 56 #[.pointer (some ⟨b, 0, none⟩), .agg #[.int .i64 op, .int .i64 rd, .int .i64 rs1, .int .i64 rs2, .int .i64 imm, .int .i64 n, .bool aq, .bool rl], .int .u64 (v : Int), .int .u64 (L : Int)] w fun e w' => e = .returned (.int .u64 (doR s op n L : Int)) ∧ w'.heap[b]? = some (.cells (cellsF (doS s op n rs1 v)) 31) ∧ Wrote b w w' := by
  have HR : Hid (doR s op n L = 0) := by show _ = _; unfold doR; rw [hc]; rfl
  have HO : Hid (doS s op n rs1 v = s) := by show _ = _; unfold doS; rw [hc]; rfl
  have HC := Lib.hid hc
  clear hc
  go_enter Try.func56, Try.ntmps56
  go_wp2_with fail
  refine (class_other op _ HC.out).mono ?_
  rintro e w1 ⟨c, rfl, hc8, rfl⟩
  go_wp2
  go_ret
  rw [HR.out, HO.out]
  exact ⟨rfl, keep_alloc h _, (Wrote.refl b w).alloc _⟩
set_option maxRecDepth 100000 in
set_option maxHeartbeats 2000000 in
theorem do_only (b : Nat) (s : FS) (op rd rs1 rs2 imm n : Int) (aq rl : Bool) (v L : Nat) (w : World) (ok : OkF s) (hv : v < 18446744073709551616) (hL : L < 18446744073709551616) (h : w.heap[b]? = some (.cells (cellsF s) 31)) (hc : isCsrOp op = true) (hw : writesB op rs1 = false) :
    Calls Try.prog 56 #[.pointer (some ⟨b, 0, none⟩), .agg #[.int .i64 op, .int .i64 rd, .int .i64 rs1, .int .i64 rs2, .int .i64 imm, .int .i64 n, .bool aq, .bool rl], .int .u64 (v : Int), .int .u64 (L : Int)] w fun e w' => e = .returned (.int .u64 (doR s op n L : Int)) ∧ w'.heap[b]? = some (.cells (cellsF (doS s op n rs1 v)) 31) ∧ Wrote b w w' := by
  obtain ⟨y, hy⟩ : ∃ y, getOf s n L = y := ⟨_, rfl⟩
  have HR : Hid (doR s op n L = y) := by show _ = _; unfold doR; rw [hc, hy]; rfl
  have HO : Hid (doS s op n rs1 v = s) := by show _ = _; unfold doS; rw [hc, hw]; rfl
  have HC := Lib.hid hc
  have HW := Lib.hid hw
  have HY := Lib.hid hy
  clear hc hw hy
  have k0 := keep_alloc h (.cells #[.int .i64 op, .int .i64 rd, .int .i64 rs1, .int .i64 rs2, .int .i64 imm, .int .i64 n, .bool aq, .bool rl] 76)
  have W0 := Lib.hid ((Wrote.refl b w).alloc (.cells #[.int .i64 op, .int .i64 rd, .int .i64 rs1, .int .i64 rs2, .int .i64 imm, .int .i64 n, .bool aq, .bool rl] 76))
  have hb0 : (w.alloc (.cells #[.int .i64 op, .int .i64 rd, .int .i64 rs1, .int .i64 rs2, .int .i64 imm, .int .i64 n, .bool aq, .bool rl] 76)).cell? ⟨w.heap.size, 5, none⟩ = some (.int .i64 n) := by rw [cell_at (heap_alloc_new _ _)]; rfl
  go_enter Try.func56, Try.ntmps56
  go_wp2_with fail
  refine (class_csr op _ HC.out).mono ?_
  rintro e w1 ⟨rfl, rfl⟩
  go_wp2_with fail
  refine (get_v HY.out _ ok hL k0).mono ?_
  rintro e w1 ⟨rfl, hb1⟩
  have x0 : w1.cell? ⟨w.heap.size, 0, none⟩ = some (.int .i64 op) := hcell hb1 (by rw [cell_at (heap_alloc_new _ _)]; rfl)
  have x2 : w1.cell? ⟨w.heap.size, 2, none⟩ = some (.int .i64 rs1) := hcell hb1 (by rw [cell_at (heap_alloc_new _ _)]; rfl)
  have k1 := keepB hb1 k0
  have W1 := Lib.hid (W0.out.below hb1)
  go_wp2_with fail
  refine (writes_v HW.out _).mono ?_
  rintro e w2 ⟨rfl, rfl⟩
  go_wp2
  go_ret
  rw [HR.out, HO.out]
  exact ⟨rfl, k1, W1.out⟩
set_option maxRecDepth 100000 in
set_option maxHeartbeats 2000000 in
theorem do_or (b : Nat) (s : FS) (op rd rs1 rs2 imm n : Int) (aq rl : Bool) (v L : Nat) (w : World) (ok : OkF s) (hv : v < 18446744073709551616) (hL : L < 18446744073709551616) (h : w.heap[b]? = some (.cells (cellsF s) 31)) (ho : op = 90 ∨ op = 93) (hw : writesB op rs1 = true) :
    Calls Try.prog 56 #[.pointer (some ⟨b, 0, none⟩), .agg #[.int .i64 op, .int .i64 rd, .int .i64 rs1, .int .i64 rs2, .int .i64 imm, .int .i64 n, .bool aq, .bool rl], .int .u64 (v : Int), .int .u64 (L : Int)] w fun e w' => e = .returned (.int .u64 (doR s op n L : Int)) ∧ w'.heap[b]? = some (.cells (cellsF (doS s op n rs1 v)) 31) ∧ Wrote b w w' := by
  have hc : isCsrOp op = true := by rcases ho with rfl | rfl <;> rfl
  obtain ⟨y, hy⟩ : ∃ y, getOf s n L = y := ⟨_, rfl⟩
  obtain ⟨z, hz⟩ : ∃ z, getOf s n 0 = z := ⟨_, rfl⟩
  obtain ⟨u, hu⟩ : ∃ u, doV s op n v = u := ⟨_, rfl⟩
  obtain ⟨s', hs'⟩ : ∃ s', setOf s n u = s' := ⟨_, rfl⟩
  have hu64 : u < 18446744073709551616 := by rw [← hu]; exact doV_lt ok op n v hv
  have hz64 : z < 18446744073709551616 := by rw [← hz]; exact getOf_lt ok n 0 (by omega)
  have HV : Hid (bits .or .u64 (v : Int) (z : Int) = (u : Int)) := by
    show _ = _
    rw [← hu]
    unfold doV
    rw [hz]
    rcases ho with rfl | rfl
    all_goals simp only [reduceCtorEq, Int.reduceEq, or_true, or_false, true_or, if_true, if_false]
    all_goals exact u64_or_nat v z hv hz64
  have HR : Hid (doR s op n L = y) := by show _ = _; unfold doR; rw [hc, hy]; rfl
  have HO : Hid (doS s op n rs1 v = s') := by show _ = _; unfold doS; rw [hc, hw, hu, hs']; rfl
  have HW := Lib.hid hw
  have HY := Lib.hid hy
  have HZ := Lib.hid hz
  have HS := Lib.hid hs'
  clear hc hw hy hz hu hs'
  rcases ho with rfl | rfl
  · have k0 := keep_alloc h (.cells #[.int .i64 90, .int .i64 rd, .int .i64 rs1, .int .i64 rs2, .int .i64 imm, .int .i64 n, .bool aq, .bool rl] 76)
    have W0 := Lib.hid ((Wrote.refl b w).alloc (.cells #[.int .i64 90, .int .i64 rd, .int .i64 rs1, .int .i64 rs2, .int .i64 imm, .int .i64 n, .bool aq, .bool rl] 76))
    have c0 : (w.alloc (.cells #[.int .i64 90, .int .i64 rd, .int .i64 rs1, .int .i64 rs2, .int .i64 imm, .int .i64 n, .bool aq, .bool rl] 76)).cell? ⟨w.heap.size, 0, none⟩ = some (.int .i64 90) := by rw [cell_at (heap_alloc_new _ _)]; rfl
    have c2 : (w.alloc (.cells #[.int .i64 90, .int .i64 rd, .int .i64 rs1, .int .i64 rs2, .int .i64 imm, .int .i64 n, .bool aq, .bool rl] 76)).cell? ⟨w.heap.size, 2, none⟩ = some (.int .i64 rs1) := by rw [cell_at (heap_alloc_new _ _)]; rfl
    have c5 : (w.alloc (.cells #[.int .i64 90, .int .i64 rd, .int .i64 rs1, .int .i64 rs2, .int .i64 imm, .int .i64 n, .bool aq, .bool rl] 76)).cell? ⟨w.heap.size, 5, none⟩ = some (.int .i64 n) := by rw [cell_at (heap_alloc_new _ _)]; rfl
    go_enter Try.func56, Try.ntmps56
    go_wp2_with fail
    refine (class_csr _ _ (by rfl)).mono ?_
    rintro e w1 ⟨rfl, rfl⟩
    go_wp2_with fail
    refine (get_v HY.out _ ok hL k0).mono ?_
    rintro e w1 ⟨rfl, hb1⟩
    have x0 := hcell hb1 c0
    have x2 := hcell hb1 c2
    have x5 := hcell hb1 c5
    have k1 := keepB hb1 k0
    have W1 := Lib.hid (W0.out.below hb1)
    go_wp2_with fail
    refine (writes_v HW.out _).mono ?_
    rintro e w2 ⟨rfl, rfl⟩
    go_wp2_with fail
    refine (get_v (L := 0) HZ.out _ ok (by omega) k1).mono ?_
    rintro e w2 ⟨rfl, hb2⟩
    have x0 := hcell hb2 x0
    have x5 := hcell hb2 x5
    have k2 := keepB hb2 k1
    have W2 := Lib.hid (W1.out.below hb2)
    go_wp2_with fail
    try rw [HV.out]
    refine (set_v HS.out _ ok hu64 k2).mono ?_
    rintro e w3 ⟨⟨v3, rfl⟩, k3, W3⟩
    have W3 := Lib.hid (W2.out.trans W3)
    go_wp2
    go_ret
    rw [HR.out, HO.out]
    exact ⟨rfl, k3, W3.out⟩
  · have k0 := keep_alloc h (.cells #[.int .i64 93, .int .i64 rd, .int .i64 rs1, .int .i64 rs2, .int .i64 imm, .int .i64 n, .bool aq, .bool rl] 76)
    have W0 := Lib.hid ((Wrote.refl b w).alloc (.cells #[.int .i64 93, .int .i64 rd, .int .i64 rs1, .int .i64 rs2, .int .i64 imm, .int .i64 n, .bool aq, .bool rl] 76))
    have c0 : (w.alloc (.cells #[.int .i64 93, .int .i64 rd, .int .i64 rs1, .int .i64 rs2, .int .i64 imm, .int .i64 n, .bool aq, .bool rl] 76)).cell? ⟨w.heap.size, 0, none⟩ = some (.int .i64 93) := by rw [cell_at (heap_alloc_new _ _)]; rfl
    have c2 : (w.alloc (.cells #[.int .i64 93, .int .i64 rd, .int .i64 rs1, .int .i64 rs2, .int .i64 imm, .int .i64 n, .bool aq, .bool rl] 76)).cell? ⟨w.heap.size, 2, none⟩ = some (.int .i64 rs1) := by rw [cell_at (heap_alloc_new _ _)]; rfl
    have c5 : (w.alloc (.cells #[.int .i64 93, .int .i64 rd, .int .i64 rs1, .int .i64 rs2, .int .i64 imm, .int .i64 n, .bool aq, .bool rl] 76)).cell? ⟨w.heap.size, 5, none⟩ = some (.int .i64 n) := by rw [cell_at (heap_alloc_new _ _)]; rfl
    go_enter Try.func56, Try.ntmps56
    go_wp2_with fail
    refine (class_csr _ _ (by rfl)).mono ?_
    rintro e w1 ⟨rfl, rfl⟩
    go_wp2_with fail
    refine (get_v HY.out _ ok hL k0).mono ?_
    rintro e w1 ⟨rfl, hb1⟩
    have x0 := hcell hb1 c0
    have x2 := hcell hb1 c2
    have x5 := hcell hb1 c5
    have k1 := keepB hb1 k0
    have W1 := Lib.hid (W0.out.below hb1)
    go_wp2_with fail
    refine (writes_v HW.out _).mono ?_
    rintro e w2 ⟨rfl, rfl⟩
    go_wp2_with fail
    refine (get_v (L := 0) HZ.out _ ok (by omega) k1).mono ?_
    rintro e w2 ⟨rfl, hb2⟩
    have x0 := hcell hb2 x0
    have x5 := hcell hb2 x5
    have k2 := keepB hb2 k1
    have W2 := Lib.hid (W1.out.below hb2)
    go_wp2_with fail
    try rw [HV.out]
    refine (set_v HS.out _ ok hu64 k2).mono ?_
    rintro e w3 ⟨⟨v3, rfl⟩, k3, W3⟩
    have W3 := Lib.hid (W2.out.trans W3)
    go_wp2
    go_ret
    rw [HR.out, HO.out]
    exact ⟨rfl, k3, W3.out⟩
set_option maxRecDepth 100000 in
set_option maxHeartbeats 2000000 in
theorem do_clr (b : Nat) (s : FS) (op rd rs1 rs2 imm n : Int) (aq rl : Bool) (v L : Nat) (w : World) (ok : OkF s) (hv : v < 18446744073709551616) (hL : L < 18446744073709551616) (h : w.heap[b]? = some (.cells (cellsF s) 31)) (ho : op = 91 ∨ op = 94) (hw : writesB op rs1 = true) :
    Calls Try.prog 56 #[.pointer (some ⟨b, 0, none⟩), .agg #[.int .i64 op, .int .i64 rd, .int .i64 rs1, .int .i64 rs2, .int .i64 imm, .int .i64 n, .bool aq, .bool rl], .int .u64 (v : Int), .int .u64 (L : Int)] w fun e w' => e = .returned (.int .u64 (doR s op n L : Int)) ∧ w'.heap[b]? = some (.cells (cellsF (doS s op n rs1 v)) 31) ∧ Wrote b w w' := by
  have hc : isCsrOp op = true := by rcases ho with rfl | rfl <;> rfl
  obtain ⟨y, hy⟩ : ∃ y, getOf s n L = y := ⟨_, rfl⟩
  obtain ⟨z, hz⟩ : ∃ z, getOf s n 0 = z := ⟨_, rfl⟩
  obtain ⟨u, hu⟩ : ∃ u, doV s op n v = u := ⟨_, rfl⟩
  obtain ⟨s', hs'⟩ : ∃ s', setOf s n u = s' := ⟨_, rfl⟩
  have hu64 : u < 18446744073709551616 := by rw [← hu]; exact doV_lt ok op n v hv
  have hz64 : z < 18446744073709551616 := by rw [← hz]; exact getOf_lt ok n 0 (by omega)
  have HV : Hid (bits .andNot .u64 (z : Int) (v : Int) = (u : Int)) := by
    show _ = _
    rw [← hu]
    unfold doV
    rw [hz]
    rcases ho with rfl | rfl
    all_goals simp only [reduceCtorEq, Int.reduceEq, or_true, or_false, true_or, if_true, if_false]
    all_goals exact u64_andNot_nat z v hz64 hv
  have HR : Hid (doR s op n L = y) := by show _ = _; unfold doR; rw [hc, hy]; rfl
  have HO : Hid (doS s op n rs1 v = s') := by show _ = _; unfold doS; rw [hc, hw, hu, hs']; rfl
  have HW := Lib.hid hw
  have HY := Lib.hid hy
  have HZ := Lib.hid hz
  have HS := Lib.hid hs'
  clear hc hw hy hz hu hs'
  rcases ho with rfl | rfl
  · have k0 := keep_alloc h (.cells #[.int .i64 91, .int .i64 rd, .int .i64 rs1, .int .i64 rs2, .int .i64 imm, .int .i64 n, .bool aq, .bool rl] 76)
    have W0 := Lib.hid ((Wrote.refl b w).alloc (.cells #[.int .i64 91, .int .i64 rd, .int .i64 rs1, .int .i64 rs2, .int .i64 imm, .int .i64 n, .bool aq, .bool rl] 76))
    have c0 : (w.alloc (.cells #[.int .i64 91, .int .i64 rd, .int .i64 rs1, .int .i64 rs2, .int .i64 imm, .int .i64 n, .bool aq, .bool rl] 76)).cell? ⟨w.heap.size, 0, none⟩ = some (.int .i64 91) := by rw [cell_at (heap_alloc_new _ _)]; rfl
    have c2 : (w.alloc (.cells #[.int .i64 91, .int .i64 rd, .int .i64 rs1, .int .i64 rs2, .int .i64 imm, .int .i64 n, .bool aq, .bool rl] 76)).cell? ⟨w.heap.size, 2, none⟩ = some (.int .i64 rs1) := by rw [cell_at (heap_alloc_new _ _)]; rfl
    have c5 : (w.alloc (.cells #[.int .i64 91, .int .i64 rd, .int .i64 rs1, .int .i64 rs2, .int .i64 imm, .int .i64 n, .bool aq, .bool rl] 76)).cell? ⟨w.heap.size, 5, none⟩ = some (.int .i64 n) := by rw [cell_at (heap_alloc_new _ _)]; rfl
    go_enter Try.func56, Try.ntmps56
    go_wp2_with fail
    refine (class_csr _ _ (by rfl)).mono ?_
    rintro e w1 ⟨rfl, rfl⟩
    go_wp2_with fail
    refine (get_v HY.out _ ok hL k0).mono ?_
    rintro e w1 ⟨rfl, hb1⟩
    have x0 := hcell hb1 c0
    have x2 := hcell hb1 c2
    have x5 := hcell hb1 c5
    have k1 := keepB hb1 k0
    have W1 := Lib.hid (W0.out.below hb1)
    go_wp2_with fail
    refine (writes_v HW.out _).mono ?_
    rintro e w2 ⟨rfl, rfl⟩
    go_wp2_with fail
    refine (get_v (L := 0) HZ.out _ ok (by omega) k1).mono ?_
    rintro e w2 ⟨rfl, hb2⟩
    have x0 := hcell hb2 x0
    have x5 := hcell hb2 x5
    have k2 := keepB hb2 k1
    have W2 := Lib.hid (W1.out.below hb2)
    go_wp2_with fail
    try rw [HV.out]
    refine (set_v HS.out _ ok hu64 k2).mono ?_
    rintro e w3 ⟨⟨v3, rfl⟩, k3, W3⟩
    have W3 := Lib.hid (W2.out.trans W3)
    go_wp2
    go_ret
    rw [HR.out, HO.out]
    exact ⟨rfl, k3, W3.out⟩
  · have k0 := keep_alloc h (.cells #[.int .i64 94, .int .i64 rd, .int .i64 rs1, .int .i64 rs2, .int .i64 imm, .int .i64 n, .bool aq, .bool rl] 76)
    have W0 := Lib.hid ((Wrote.refl b w).alloc (.cells #[.int .i64 94, .int .i64 rd, .int .i64 rs1, .int .i64 rs2, .int .i64 imm, .int .i64 n, .bool aq, .bool rl] 76))
    have c0 : (w.alloc (.cells #[.int .i64 94, .int .i64 rd, .int .i64 rs1, .int .i64 rs2, .int .i64 imm, .int .i64 n, .bool aq, .bool rl] 76)).cell? ⟨w.heap.size, 0, none⟩ = some (.int .i64 94) := by rw [cell_at (heap_alloc_new _ _)]; rfl
    have c2 : (w.alloc (.cells #[.int .i64 94, .int .i64 rd, .int .i64 rs1, .int .i64 rs2, .int .i64 imm, .int .i64 n, .bool aq, .bool rl] 76)).cell? ⟨w.heap.size, 2, none⟩ = some (.int .i64 rs1) := by rw [cell_at (heap_alloc_new _ _)]; rfl
    have c5 : (w.alloc (.cells #[.int .i64 94, .int .i64 rd, .int .i64 rs1, .int .i64 rs2, .int .i64 imm, .int .i64 n, .bool aq, .bool rl] 76)).cell? ⟨w.heap.size, 5, none⟩ = some (.int .i64 n) := by rw [cell_at (heap_alloc_new _ _)]; rfl
    go_enter Try.func56, Try.ntmps56
    go_wp2_with fail
    refine (class_csr _ _ (by rfl)).mono ?_
    rintro e w1 ⟨rfl, rfl⟩
    go_wp2_with fail
    refine (get_v HY.out _ ok hL k0).mono ?_
    rintro e w1 ⟨rfl, hb1⟩
    have x0 := hcell hb1 c0
    have x2 := hcell hb1 c2
    have x5 := hcell hb1 c5
    have k1 := keepB hb1 k0
    have W1 := Lib.hid (W0.out.below hb1)
    go_wp2_with fail
    refine (writes_v HW.out _).mono ?_
    rintro e w2 ⟨rfl, rfl⟩
    go_wp2_with fail
    refine (get_v (L := 0) HZ.out _ ok (by omega) k1).mono ?_
    rintro e w2 ⟨rfl, hb2⟩
    have x0 := hcell hb2 x0
    have x5 := hcell hb2 x5
    have k2 := keepB hb2 k1
    have W2 := Lib.hid (W1.out.below hb2)
    go_wp2_with fail
    try rw [HV.out]
    refine (set_v HS.out _ ok hu64 k2).mono ?_
    rintro e w3 ⟨⟨v3, rfl⟩, k3, W3⟩
    have W3 := Lib.hid (W2.out.trans W3)
    go_wp2
    go_ret
    rw [HR.out, HO.out]
    exact ⟨rfl, k3, W3.out⟩
set_option maxRecDepth 100000 in
set_option maxHeartbeats 2000000 in
theorem do_put (b : Nat) (s : FS) (op rd rs1 rs2 imm n : Int) (aq rl : Bool) (v L : Nat) (w : World) (ok : OkF s) (hv : v < 18446744073709551616) (hL : L < 18446744073709551616) (h : w.heap[b]? = some (.cells (cellsF s) 31)) (ho : op = 89 ∨ op = 92) (hw : writesB op rs1 = true) :
    Calls Try.prog 56 #[.pointer (some ⟨b, 0, none⟩), .agg #[.int .i64 op, .int .i64 rd, .int .i64 rs1, .int .i64 rs2, .int .i64 imm, .int .i64 n, .bool aq, .bool rl], .int .u64 (v : Int), .int .u64 (L : Int)] w fun e w' => e = .returned (.int .u64 (doR s op n L : Int)) ∧ w'.heap[b]? = some (.cells (cellsF (doS s op n rs1 v)) 31) ∧ Wrote b w w' := by
  have hc : isCsrOp op = true := by rcases ho with rfl | rfl <;> rfl
  obtain ⟨y, hy⟩ : ∃ y, getOf s n L = y := ⟨_, rfl⟩
  obtain ⟨z, hz⟩ : ∃ z, getOf s n 0 = z := ⟨_, rfl⟩
  obtain ⟨u, hu⟩ : ∃ u, doV s op n v = u := ⟨_, rfl⟩
  obtain ⟨s', hs'⟩ : ∃ s', setOf s n u = s' := ⟨_, rfl⟩
  have hu64 : u < 18446744073709551616 := by rw [← hu]; exact doV_lt ok op n v hv
  have hz64 : z < 18446744073709551616 := by rw [← hz]; exact getOf_lt ok n 0 (by omega)
  have HV : Hid ((v : Int) = (u : Int)) := by
    show _ = _
    rw [← hu]
    unfold doV
    rw [hz]
    rcases ho with rfl | rfl
    all_goals simp only [reduceCtorEq, Int.reduceEq, or_true, or_false, true_or, if_true, if_false]
    all_goals rfl
  have HR : Hid (doR s op n L = y) := by show _ = _; unfold doR; rw [hc, hy]; rfl
  have HO : Hid (doS s op n rs1 v = s') := by show _ = _; unfold doS; rw [hc, hw, hu, hs']; rfl
  have HW := Lib.hid hw
  have HY := Lib.hid hy
  have HZ := Lib.hid hz
  have HS := Lib.hid hs'
  clear hc hw hy hz hu hs'
  rcases ho with rfl | rfl
  · have k0 := keep_alloc h (.cells #[.int .i64 89, .int .i64 rd, .int .i64 rs1, .int .i64 rs2, .int .i64 imm, .int .i64 n, .bool aq, .bool rl] 76)
    have W0 := Lib.hid ((Wrote.refl b w).alloc (.cells #[.int .i64 89, .int .i64 rd, .int .i64 rs1, .int .i64 rs2, .int .i64 imm, .int .i64 n, .bool aq, .bool rl] 76))
    have c0 : (w.alloc (.cells #[.int .i64 89, .int .i64 rd, .int .i64 rs1, .int .i64 rs2, .int .i64 imm, .int .i64 n, .bool aq, .bool rl] 76)).cell? ⟨w.heap.size, 0, none⟩ = some (.int .i64 89) := by rw [cell_at (heap_alloc_new _ _)]; rfl
    have c2 : (w.alloc (.cells #[.int .i64 89, .int .i64 rd, .int .i64 rs1, .int .i64 rs2, .int .i64 imm, .int .i64 n, .bool aq, .bool rl] 76)).cell? ⟨w.heap.size, 2, none⟩ = some (.int .i64 rs1) := by rw [cell_at (heap_alloc_new _ _)]; rfl
    have c5 : (w.alloc (.cells #[.int .i64 89, .int .i64 rd, .int .i64 rs1, .int .i64 rs2, .int .i64 imm, .int .i64 n, .bool aq, .bool rl] 76)).cell? ⟨w.heap.size, 5, none⟩ = some (.int .i64 n) := by rw [cell_at (heap_alloc_new _ _)]; rfl
    go_enter Try.func56, Try.ntmps56
    go_wp2_with fail
    refine (class_csr _ _ (by rfl)).mono ?_
    rintro e w1 ⟨rfl, rfl⟩
    go_wp2_with fail
    refine (get_v HY.out _ ok hL k0).mono ?_
    rintro e w1 ⟨rfl, hb1⟩
    have x0 := hcell hb1 c0
    have x2 := hcell hb1 c2
    have x5 := hcell hb1 c5
    have k1 := keepB hb1 k0
    have W1 := Lib.hid (W0.out.below hb1)
    go_wp2_with fail
    refine (writes_v HW.out _).mono ?_
    rintro e w2 ⟨rfl, rfl⟩
    go_wp2_with fail
    refine (get_v (L := 0) HZ.out _ ok (by omega) k1).mono ?_
    rintro e w2 ⟨rfl, hb2⟩
    have x0 := hcell hb2 x0
    have x5 := hcell hb2 x5
    have k2 := keepB hb2 k1
    have W2 := Lib.hid (W1.out.below hb2)
    go_wp2_with fail
    try rw [HV.out]
    refine (set_v HS.out _ ok hu64 k2).mono ?_
    rintro e w3 ⟨⟨v3, rfl⟩, k3, W3⟩
    have W3 := Lib.hid (W2.out.trans W3)
    go_wp2
    go_ret
    rw [HR.out, HO.out]
    exact ⟨rfl, k3, W3.out⟩
  · have k0 := keep_alloc h (.cells #[.int .i64 92, .int .i64 rd, .int .i64 rs1, .int .i64 rs2, .int .i64 imm, .int .i64 n, .bool aq, .bool rl] 76)
    have W0 := Lib.hid ((Wrote.refl b w).alloc (.cells #[.int .i64 92, .int .i64 rd, .int .i64 rs1, .int .i64 rs2, .int .i64 imm, .int .i64 n, .bool aq, .bool rl] 76))
    have c0 : (w.alloc (.cells #[.int .i64 92, .int .i64 rd, .int .i64 rs1, .int .i64 rs2, .int .i64 imm, .int .i64 n, .bool aq, .bool rl] 76)).cell? ⟨w.heap.size, 0, none⟩ = some (.int .i64 92) := by rw [cell_at (heap_alloc_new _ _)]; rfl
    have c2 : (w.alloc (.cells #[.int .i64 92, .int .i64 rd, .int .i64 rs1, .int .i64 rs2, .int .i64 imm, .int .i64 n, .bool aq, .bool rl] 76)).cell? ⟨w.heap.size, 2, none⟩ = some (.int .i64 rs1) := by rw [cell_at (heap_alloc_new _ _)]; rfl
    have c5 : (w.alloc (.cells #[.int .i64 92, .int .i64 rd, .int .i64 rs1, .int .i64 rs2, .int .i64 imm, .int .i64 n, .bool aq, .bool rl] 76)).cell? ⟨w.heap.size, 5, none⟩ = some (.int .i64 n) := by rw [cell_at (heap_alloc_new _ _)]; rfl
    go_enter Try.func56, Try.ntmps56
    go_wp2_with fail
    refine (class_csr _ _ (by rfl)).mono ?_
    rintro e w1 ⟨rfl, rfl⟩
    go_wp2_with fail
    refine (get_v HY.out _ ok hL k0).mono ?_
    rintro e w1 ⟨rfl, hb1⟩
    have x0 := hcell hb1 c0
    have x2 := hcell hb1 c2
    have x5 := hcell hb1 c5
    have k1 := keepB hb1 k0
    have W1 := Lib.hid (W0.out.below hb1)
    go_wp2_with fail
    refine (writes_v HW.out _).mono ?_
    rintro e w2 ⟨rfl, rfl⟩
    go_wp2_with fail
    refine (get_v (L := 0) HZ.out _ ok (by omega) k1).mono ?_
    rintro e w2 ⟨rfl, hb2⟩
    have x0 := hcell hb2 x0
    have x5 := hcell hb2 x5
    have k2 := keepB hb2 k1
    have W2 := Lib.hid (W1.out.below hb2)
    go_wp2_with fail
    try rw [HV.out]
    refine (set_v HS.out _ ok hu64 k2).mono ?_
    rintro e w3 ⟨⟨v3, rfl⟩, k3, W3⟩
    have W3 := Lib.hid (W2.out.trans W3)
    go_wp2
    go_ret
    rw [HR.out, HO.out]
    exact ⟨rfl, k3, W3.out⟩
theorem do_any (b : Nat) (s : FS) (op rd rs1 rs2 imm n : Int) (aq rl : Bool) (v L : Nat) (w : World) (ok : OkF s) (hv : v < 18446744073709551616) (hL : L < 18446744073709551616) (h : w.heap[b]? = some (.cells (cellsF s) 31)) :
    Calls Try.prog 56 #[.pointer (some ⟨b, 0, none⟩), .agg #[.int .i64 op, .int .i64 rd, .int .i64 rs1, .int .i64 rs2, .int .i64 imm, .int .i64 n, .bool aq, .bool rl], .int .u64 (v : Int), .int .u64 (L : Int)] w fun e w' => e = .returned (.int .u64 (doR s op n L : Int)) ∧ w'.heap[b]? = some (.cells (cellsF (doS s op n rs1 v)) 31) ∧ Wrote b w w' := by
  cases hc : isCsrOp op
  · exact do_other b s op rd rs1 rs2 imm n aq rl v L w ok hv hL h hc
  cases hw : writesB op rs1
  · exact do_only b s op rd rs1 rs2 imm n aq rl v L w ok hv hL h hc hw
  have hop : 89 ≤ op ∧ op ≤ 94 := by unfold isCsrOp at hc; simpa using hc
  have h6 : op = 89 ∨ op = 90 ∨ op = 91 ∨ op = 92 ∨ op = 93 ∨ op = 94 := by omega
  rcases h6 with h6 | h6 | h6 | h6 | h6 | h6
  · exact do_put b s op rd rs1 rs2 imm n aq rl v L w ok hv hL h (Or.inl h6) hw
  · exact do_or b s op rd rs1 rs2 imm n aq rl v L w ok hv hL h (Or.inl h6) hw
  · exact do_clr b s op rd rs1 rs2 imm n aq rl v L w ok hv hL h (Or.inl h6) hw
  · exact do_put b s op rd rs1 rs2 imm n aq rl v L w ok hv hL h (Or.inr h6) hw
  · exact do_or b s op rd rs1 rs2 imm n aq rl v L w ok hv hL h (Or.inr h6) hw
  · exact do_clr b s op rd rs1 rs2 imm n aq rl v L w ok hv hL h (Or.inr h6) hw
end Go.Proofs.Ythkkfdhgpaonjaa
