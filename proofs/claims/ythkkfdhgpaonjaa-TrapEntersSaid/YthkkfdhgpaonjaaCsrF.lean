/- Plain facts of what a CSR becomes, and the chapter's examples. -/
import Derived.Test.YthkkfdhgpaonjaaCsrE
namespace Go.Proofs.Ythkkfdhgpaonjaa
open Go.RowKit
set_option linter.unusedSimpArgs false
set_option linter.unusedVariables false

theorem bblend_bit (x v m i : Nat) (hi : i < 64) : (blend x v m).testBit i = if m.testBit i then v.testBit i else x.testBit i := by
  unfold blend
  rw [mkW_bit]
  simp [hi]
theorem bfix_bit (x o i : Nat) (hi : i < 64) : (mppFix x o).testBit i = if i = 11 ∨ i = 12 then o.testBit i else x.testBit i := by
  unfold mppFix
  rw [mkW_bit]
  simp [hi]
theorem mppFix_lt (x o : Nat) : mppFix x o < 18446744073709551616 := W64_lt _
theorem ext64 {a b : Nat} (ha : a < 18446744073709551616) (hb : b < 18446744073709551616) (h : ∀ i, i < 64 → a.testBit i = b.testBit i) : a = b := by
  apply Nat.eq_of_testBit_eq
  intro i
  by_cases hi : i < 64
  · exact h i hi
  · rw [tb_big a ha i (by omega), tb_big b hb i (by omega)]
theorem blend_self (x m : Nat) (hx : x < 18446744073709551616) : blend x x m = x :=
  ext64 (blend_lt _ _ _) hx fun i hi => by rw [bblend_bit _ _ _ _ hi]; split <;> rfl
theorem fix_self (x : Nat) (hx : x < 18446744073709551616) : mppFix x x = x :=
  ext64 (mppFix_lt _ _) hx fun i hi => by rw [bfix_bit _ _ _ hi]; split <;> rfl
theorem blend_again (o v m : Nat) : blend o (blend o v m) m = blend o v m :=
  ext64 (blend_lt _ _ _) (blend_lt _ _ _) fun i hi => by rw [bblend_bit _ _ _ _ hi, bblend_bit _ _ _ _ hi]; split <;> rfl
theorem mask768 : mask19 768 = 8264106 := by decide
theorem m768_11 : Nat.testBit 8264106 11 = true := by decide
theorem m768_12 : Nat.testBit 8264106 12 = true := by decide

theorem legal_self (n : Int) (x : Nat) (hx : x < 18446744073709551616) : legalOf n x x = x := by
  unfold legalOf
  rw [blend_self x _ hx]
  split
  · split
    · exact fix_self x hx
    · rfl
  · split
    · split <;> rfl
    · rfl

theorem blend_fix (o B m : Nat) (h11 : m.testBit 11 = true) (h12 : m.testBit 12 = true) (hB : ∀ i, i < 64 → m.testBit i = false → B.testBit i = o.testBit i) : blend o (mppFix B o) m = mppFix B o := by
  refine ext64 (blend_lt _ _ _) (mppFix_lt _ _) fun i hi => ?_
  rw [bblend_bit _ _ _ _ hi]
  split
  · rfl
  · rename_i hm
    rw [bfix_bit _ _ _ hi]
    have hm' : m.testBit i = false := by simpa using hm
    split
    · rfl
    · exact (hB i hi hm').symm
theorem fix_fix (B o : Nat) : mppFix (mppFix B o) o = mppFix B o := by
  refine ext64 (mppFix_lt _ _) (mppFix_lt _ _) fun i hi => ?_
  rw [bfix_bit _ _ _ hi, bfix_bit _ _ _ hi]
  split <;> rfl
theorem blend_out (o v m i : Nat) (hi : i < 64) (hm : m.testBit i = false) : (blend o v m).testBit i = o.testBit i := by
  rw [bblend_bit _ _ _ _ hi, hm]; rfl

theorem legal_again (n : Int) (o v : Nat) (ho : o < 18446744073709551616) : legalOf n o (legalOf n o v) = legalOf n o v := by
  unfold legalOf
  by_cases h1 : n = 768
  · subst h1
    simp only [if_pos]
    rw [mask768]
    by_cases hc : (blend o v 8264106).testBit 12 = true ∧ (blend o v 8264106).testBit 11 = false
    · rw [if_pos hc, blend_fix o _ _ m768_11 m768_12 (fun i hi hm => blend_out o v _ i hi hm)]
      split
      · exact fix_fix _ _
      · rfl
    · rw [if_neg hc, blend_again, if_neg hc]
  · simp only [if_neg h1]
    by_cases h2 : n = 384
    · subst h2
      simp only [if_pos]
      by_cases hc : blend o v (mask19 384) / 2 ^ 60 = 0 ∨ blend o v (mask19 384) / 2 ^ 60 = 8
      · rw [if_pos hc, blend_again, if_pos hc]
      · rw [if_neg hc, blend_self o _ ho]
        split <;> rfl
    · simp only [if_neg h2]
      exact blend_again _ _ _

theorem legal_out (n : Int) (o v i : Nat) (hi : i < 64) (hm : (mask19 n).testBit i = false) : (legalOf n o v).testBit i = o.testBit i := by
  have hB := blend_out o v (mask19 n) i hi hm
  unfold legalOf
  split
  · split
    · rw [bfix_bit _ _ _ hi]
      split
      · rfl
      · exact hB
    · exact hB
  · split
    · split
      · exact hB
      · rfl
    · exact hB
theorem legal_only (n : Int) (o v : Nat) (ho : o < 18446744073709551616) :
    bits BinOp.andNot IntKind.u64 (bits BinOp.xor IntKind.u64 ((legalOf n o v : Nat) : Int) (o : Int)) ((mask19 n : Nat) : Int) = 0 := by
  have hx := legalOf_lt n o v ho
  rw [u64_xor_nat _ _ hx ho, u64_andNot_nat _ _ (Nat.xor_lt_two_pow (n := 64) hx ho) (mask19_lt n)]
  have e : (legalOf n o v ^^^ o) &&& (18446744073709551615 - mask19 n) = 0 := by
    refine ext64 (Nat.lt_of_le_of_lt Nat.and_le_left (Nat.xor_lt_two_pow (n := 64) hx ho)) (by omega) fun i hi => ?_
    rw [Nat.testBit_and, Nat.testBit_xor, inv_bit _ _ (mask19_lt n) hi, Nat.zero_testBit]
    cases hm : (mask19 n).testBit i with
    | true => simp
    | false => rw [legal_out n o v i hi hm]; simp
  rw [e]; rfl

theorem lv1 : legalOf 773 0 7 = 5 := by decide +kernel
theorem lv2 : legalOf 768 0 18446744073709551615 = 8264106 := by decide +kernel
theorem lv3 : legalOf 768 0 4096 = 0 := by decide +kernel
theorem lv4 : legalOf 384 5 1152921504606846976 = 5 := by decide +kernel
theorem lv5 : mayB 3073 0 false = true := by decide +kernel
theorem legal_v {n : Int} {o v r : Nat} (h : legalOf n o v = r) (w : World) (ho : o < 18446744073709551616) (hv : v < 18446744073709551616) :
    Calls Try.prog 21 #[.int .i64 n, .int .u64 (o : Int), .int .u64 (v : Int)] w fun e w' => e = .returned (.int .u64 (r : Int)) ∧ Below w.heap.size w w' := by
  rw [← h]; exact legal_any n o v w ho hv
theorem may_v {n p : Int} {wr b : Bool} (h : mayB n p wr = b) (w : World) : Calls Try.prog 34 #[.int .i64 n, .int .i64 p, .bool wr] w fun e w' => e = .returned (.bool b) ∧ Below w.heap.size w w' := by
  rw [← h]; exact may19_any n p wr w
theorem rmay_v {n p : Int} {wr b : Bool} (h : mayB n p wr = b) (w : World) : Calls Try.prog 35 #[.int .i64 n, .int .i64 p, .bool wr] w fun e w' => e = .returned (.bool b) ∧ Below w.heap.size w w' := by
  rw [← h]; exact rmay_any n p wr w

theorem live19_any (w : World) : Calls Try.prog 24 #[] w fun e w' => e = .returned (.bool true) ∧ Below w.heap.size w w' := by
  go_enter Try.func24, Try.ntmps24
  go_wp2_with fail
  refine (legal_v lv1 _ (by omega) (by omega)).mono ?_
  rintro e w1 ⟨rfl, hb1⟩
  go_wp2_with fail
  refine (legal_v lv2 _ (by omega) (by omega)).mono ?_
  rintro e w2 ⟨rfl, hb2⟩
  go_wp2_with fail
  refine (legal_v lv3 _ (by omega) (by omega)).mono ?_
  rintro e w3 ⟨rfl, hb3⟩
  go_wp2_with fail
  refine (legal_v lv4 _ (by omega) (by omega)).mono ?_
  rintro e w4 ⟨rfl, hb4⟩
  go_wp2_with fail
  refine (may_v lv5 _).mono ?_
  rintro e w5 ⟨rfl, hb5⟩
  go_wp2
  go_ret
  exact ⟨rfl, ((((((Fr.refl w).step hb1).step hb2).step hb3).step hb4).step hb5).1⟩

theorem rlegal_v {n : Int} {o v r : Nat} (h : legalOf n o v = r) (w : World) (ho : o < 18446744073709551616) (hv : v < 18446744073709551616) :
    Calls Try.prog 22 #[.int .i64 n, .int .u64 (o : Int), .int .u64 (v : Int)] w fun e w' => e = .returned (.int .u64 (r : Int)) ∧ Below w.heap.size w w' := by
  rw [← h]; exact rlegal_any n o v w ho hv
theorem mask_v {n : Int} {m : Nat} (h : mask19 n = m) (w : World) : Calls Try.prog 23 #[.int .i64 n] w fun e w' => e = .returned (.int .u64 (m : Int)) ∧ Below w.heap.size w w' := by
  rw [← h]; exact mask_any n w

theorem becomes_any (n : Int) (o v : Nat) (ho : o < 18446744073709551616) (hv : v < 18446744073709551616) (w : World) :
    Calls Try.prog 4 #[.int .i64 n, .int .u64 (o : Int), .int .u64 (v : Int)] w fun e w' => e = .returned (.bool true) ∧ Below w.heap.size w w' := by
  have hx := legalOf_lt n o v ho
  have h1 := legal_self n (legalOf n o v) hx
  have h2 := legal_again n o v ho
  have h3 := legal_only n o v ho
  obtain ⟨x, hX⟩ : ∃ x, legalOf n o v = x := ⟨_, rfl⟩
  obtain ⟨m, hM⟩ : ∃ m, mask19 n = m := ⟨_, rfl⟩
  rw [hX] at hx h1 h2 h3
  rw [hM] at h3
  have HX := Lib.hid hX
  have HM := Lib.hid hM
  have H1 := Lib.hid h1
  have H2 := Lib.hid h2
  clear hX hM h1 h2
  go_enter Try.func4, Try.ntmps4
  go_wp2_with fail
  refine (legal_v HX.out _ ho hv).mono ?_
  rintro e w1 ⟨rfl, hb1⟩
  go_wp2_with fail
  refine (rlegal_v HX.out _ ho hv).mono ?_
  rintro e w2 ⟨rfl, hb2⟩
  go_wp2_with fail
  refine (legal_v H1.out _ hx hx).mono ?_
  rintro e w3 ⟨rfl, hb3⟩
  go_wp2_with fail
  refine (legal_v H2.out _ ho hx).mono ?_
  rintro e w4 ⟨rfl, hb4⟩
  go_wp2_with fail
  refine (mask_v HM.out _).mono ?_
  rintro e w5 ⟨rfl, hb5⟩
  go_wp2_with fail
  refine (live19_any _).mono ?_
  rintro e w6 ⟨rfl, hb6⟩
  go_wp2
  go_ret
  exact ⟨rfl, (((((((Fr.refl w).step hb1).step hb2).step hb3).step hb4).step hb5).step hb6).1⟩
end Go.Proofs.Ythkkfdhgpaonjaa
