/- T2: the example that must hold, and the ways out at once. -/
import Derived.Test.YthkkfdhgpaonjaaTopA
import Derived.Test.YthkkfdhgpaonjaaTrG
namespace Go.Proofs.Ythkkfdhgpaonjaa
open Go.RowKit
set_option linter.unusedSimpArgs false
set_option linter.unusedVariables false

attribute [local go_sem ↓] Go.wp_at_zero Go.wp_at_succ
attribute [local simp high] sizeRv zeroRv sizeFv zeroFv sizeDv
theorem ccall_0 (w : World) :
    Calls Try.prog 63 #[.int .i64 0] w fun e w' => e = .returned (.agg #[.bool false, .int .i64 8]) ∧ Below w.heap.size w w' := by
  go_enter Try.func63, Try.ntmps63
  go_wp2
  exact bodyPost_ret (v := .agg #[.bool false, .int .i64 8]) (by simp [results, Try.results63, go_sem]) rfl ⟨rfl, ((Fr.refl w).alloc _).1⟩
theorem entered_1 : entTo (newF 0) false 8 0 = 3 := by decide +kernel
theorem entered_2 : getOf (entS (newF 0) false 8 0 8 0) 833 0 = 8 := by decide +kernel
theorem entered_3 : getOf (entS (newF 0) false 8 0 8 0) 834 0 = 8 := by decide +kernel
set_option maxRecDepth 100000 in
set_option maxHeartbeats 4000000 in
theorem entered_any (w : World) :
    Calls Try.prog 14 #[] w fun e w' => e = .returned (.bool true) ∧ Below w.heap.size w w' := by
  have ok0 := OkF.new 0 (by omega) (by omega)
  obtain ⟨s0, hs0⟩ : ∃ s, newF 0 = s := ⟨_, rfl⟩
  obtain ⟨s1, hs1⟩ : ∃ s, entS s0 false 8 0 8 0 = s := ⟨_, rfl⟩
  obtain ⟨v1, hv1⟩ : ∃ v, entV s0 false 8 0 = v := ⟨_, rfl⟩
  have N1 : Hid (entTo s0 false 8 0 = 3) := by show _ = _; rw [← hs0]; exact entered_1
  have N2 : Hid (getOf s1 833 0 = 8) := by show _ = _; rw [← hs1, ← hs0]; exact entered_2
  have N3 : Hid (getOf s1 834 0 = 8) := by show _ = _; rw [← hs1, ← hs0]; exact entered_3
  rw [hs0] at ok0
  have ok1 : OkF s1 := by rw [← hs1]; exact ok0.ent _ _ _ _ _
  have H0 := Lib.hid hs0
  have H1 := Lib.hid hs1
  have HV := Lib.hid hv1
  clear hs0 hs1 hv1
  have l1 := zeroFv
  have l2 := sizeFv
  have l3 := size_cellsF
  have l4 := stnF
  have F0 := Fr.refl w
  go_enter Try.func14, Try.ntmps14
  go_wp2_with fail
  refine (newF_any 0 _).mono ?_
  rw [H0.out]
  rintro e w1 ⟨rfl, hb1⟩
  have F1 := (F0.step hb1).alloc (.cells (cellsF s0) 31)
  have k1 := heap_alloc_new w1 (.cells (cellsF s0) 31)
  have hB : w.heap.size ≤ w1.heap.size := (F0.step hb1).2
  go_wp2_with fail
  refine (ccall_0 _).mono ?_
  rintro e w2 ⟨rfl, hb2⟩
  have F2 := F1.step hb2
  have k2 := keepB hb2 k1
  clear l4 F0 F1 k1 hb2
  go_wp2_with fail
  refine (tenter_v (pc := 8) (tv := 0) N1.out H1.out HV.out _ ok0 (by omega) (by omega) k2).mono ?_
  rintro e w3 ⟨rfl, k3, WE3⟩
  have F3 := fr_of WE3 hB F2
  clear k2 F2 WE3
  go_wp2_with fail
  refine (get_v (L := 0) N2.out _ ok1 (by omega) k3).mono ?_
  rintro e w4 ⟨rfl, hb4⟩
  have k4 := keepB hb4 k3
  have F4 := F3.step hb4
  clear k3 F3 hb4
  go_wp2_with fail
  refine (get_v (L := 0) N3.out _ ok1 (by omega) k4).mono ?_
  rintro e w5 ⟨rfl, hb5⟩
  have F5 := Lib.hid (F4.step hb5).1
  go_wp2
  go_ret
  exact ⟨rfl, F5.out⟩
set_option maxRecDepth 100000 in
set_option maxHeartbeats 4000000 in
theorem topapart_no (a : Option Addr) (len cap : Nat) (i : Bool) (c p : Int) (pc tv L : Nat) (w : World) (h : 30 < len ∨ (p ≠ 0 ∧ p ≠ 1 ∧ p ≠ 3)) (hmax : len ≤ 9223372036854775807) :
    Calls Try.prog 3 #[.slice a len cap, .agg #[.bool i, .int .i64 c, .int .i64 p, .int .u64 (pc : Int), .int .u64 (tv : Int)], .int .u64 (L : Int)] w fun e w' => e = .returned (.bool true) ∧ Below w.heap.size w w' := by
  have F0 := (Fr.refl w).alloc (.cells #[.bool i, .int .i64 c, .int .i64 p, .int .u64 (pc : Int), .int .u64 (tv : Int)] 27)
  by_cases hl : 30 < len
  · go_enter Try.func3, Try.ntmps3
    go_wp2_with fail
    refine (entered_any _).mono ?_
    rintro e w1 ⟨rfl, hb1⟩
    go_wp2
    go_ret
    exact ⟨rfl, (F0.step hb1).1⟩
  · have b0 : (p != 0) = true := by simp; omega
    have b1 : (p != 1) = true := by simp; omega
    have b3 : (p != 3) = true := by simp; omega
    go_enter Try.func3, Try.ntmps3
    go_wp2_with fail
    refine (entered_any _).mono ?_
    rintro e w1 ⟨rfl, hb1⟩
    go_wp2
    go_ret
    exact ⟨rfl, (F0.step hb1).1⟩
end Go.Proofs.Ythkkfdhgpaonjaa
