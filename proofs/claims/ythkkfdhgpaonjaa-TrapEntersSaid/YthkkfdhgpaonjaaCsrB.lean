/- The contracts of csr.Mask, roebuckref19.Of, and of Legal of both. -/
import Derived.Test.YthkkfdhgpaonjaaCsrA
import Derived.Test.YthkkfdhgpaonjaaMSt
namespace Go.Proofs.Ythkkfdhgpaonjaa
open Go.RowKit
set_option linter.unusedSimpArgs false
set_option linter.unusedVariables false

theorem row_form (n : Int) : ∃ (a : Int) (s : ByteArray) (k : Bool), optRow (row19 n) = .tuple #[.agg #[.int .i64 a, .string s, .int .u64 (mask19 n : Nat)], .bool k] := by
  unfold mask19
  cases row19 n with
  | none => exact ⟨0, ⟨#[]⟩, false, rfl⟩
  | some r => exact ⟨r.1, r.2.1, true, rfl⟩

theorem mask_any (n : Int) (w : World) :
    Calls Try.prog 23 #[.int .i64 n] w fun e w' => e = .returned (.int .u64 (mask19 n : Nat)) ∧ Below w.heap.size w w' := by
  obtain ⟨a, s, k, hr⟩ := row_form n
  have HR := Lib.hid hr
  clear hr
  go_enter Try.func23, Try.ntmps23
  go_wp2_with fail
  refine (cat_any n _).mono ?_
  rw [HR.out]
  rintro e w1 ⟨rfl, hb1⟩
  go_wp2
  go_ret
  exact ⟨rfl, (((Fr.refl w).step hb1).alloc _).1⟩

def rrowV (n : Int) : Value := match row19 n with
  | some r => .agg #[.int .i64 r.1, .string r.2.1, .int .u64 (r.2.2 : Nat)]
  | none => .agg #[.int .i64 0, .string ⟨#[]⟩, .int .u64 0]

set_option maxRecDepth 100000 in
set_option maxHeartbeats 2000000 in
theorem rof_row (n : Int) (w : World) :
    Calls Try.prog 25 #[.int .i64 n] w fun e w' => e = .returned (rrowV n) ∧ Below w.heap.size w w' := by
  go_enter Try.func25, Try.ntmps25
  go_wp2_with (go_at_call 37; refine (rrows_any _).mono ?_; rintro e w' ⟨rfl, rfl⟩)
  obtain ⟨w1, hw1⟩ : ∃ w1, w1 = (w.alloc (.cells #[.int .i64 0, .string ⟨#[]⟩, .int .u64 0] 52)).alloc (.cells cells19 52) := ⟨_, rfl⟩
  have hf : Fr w.heap.size w w1 := by rw [hw1]; exact ((Fr.refl w).alloc _).alloc _
  have hh : w1.heap[w.heap.size + 1]? = some (.cells cells19 52) := by rw [hw1]; simpa using @heap_alloc_new (w.alloc (.cells #[.int .i64 0, .string ⟨#[]⟩, .int .u64 0] 52)) (.cells cells19 52)
  have h0 : w1.heap[w.heap.size]? = some (.cells #[.int .i64 0, .string ⟨#[]⟩, .int .u64 0] 52) := by rw [hw1]; exact keep_alloc (heap_alloc_new _ _) _
  rw [← hw1]
  clear hw1
  obtain ⟨z0, z1, z2, zl, zf⟩ := known3 h0
  go_loop [4] (fun i => ∃ k : Nat, k ≤ 34 ∧ i = .int .i64 k ∧ Hid ((tab19.drop k).find? (fun r => r.1 == n) = row19 n)) (fun i => 34 - (intOf i).toNat)
  case atStart => exact ⟨0, by omega, rfl, rfl⟩
  case round =>
    obtain ⟨k, hk, rfl, H⟩ := hrel
    by_cases hlt : k < 34
    · obtain ⟨c0, c1, c2⟩ := cells19_at hh k hlt
      obtain ⟨r, hr⟩ : ∃ r, r = tab19.getD k default := ⟨_, rfl⟩
      have HS := step19 (fun r => r.1 == n) k hlt
      rw [← hr] at c0 c1 c2 HS
      have HH : Hid (row19 n = if (r.1 == n) = true then some r else (tab19.drop (k + 1)).find? (fun r => r.1 == n)) := by rw [← H.out]; exact HS
      clear HS hr H
      go_wp2
      · have h1 : (r.1 == n) = true := by assumption
        refine bodyPost_ret (v := .agg #[.int .i64 r.1, .string r.2.1, .int .u64 r.2.2]) (by simp [results, Try.results25, go_sem, z0, z1, z2, zl]) rfl ⟨?_, ?_⟩
        · unfold rrowV; rw [HH.out, if_pos h1]
        · refine Fr.below ?_; repeat (first | exact hf | refine Fr.alloc ?_ _ | refine Fr.drew ?_ | refine Fr.setCell ?_ (by simp) _)
      · have h1 : (r.1 == n) = false := by assumption
        go_round
        case rel => exact ⟨k + 1, by omega, by go_num, by rw [HH.out, if_neg (by rw [h1]; simp)]; rfl⟩
        case measure => simp [intOf]; omega
    · obtain rfl : k = 34 := by omega
      go_wp2
      refine bodyPost_ret (v := .agg #[.int .i64 0, .string ⟨#[]⟩, .int .u64 0]) (by simp [results, Try.results25, go_sem, z0, z1, z2, zl]) rfl ⟨?_, ?_⟩
      · unfold rrowV; rw [← H.out]; rfl
      · refine Fr.below ?_; repeat (first | exact hf | refine Fr.alloc ?_ _ | refine Fr.drew ?_ | refine Fr.setCell ?_ (by simp) _)

/-- A word in which the bits of a mask are another word's. -/
def blend (old v m : Nat) : Nat := W64 (fun i => if m.testBit i then v.testBit i else old.testBit i)
def mppFix (x old : Nat) : Nat := W64 (fun i => if i = 11 ∨ i = 12 then old.testBit i else x.testBit i)
def legalOf (n : Int) (old v : Nat) : Nat :=
  if n = 768 then (if (blend old v (mask19 n)).testBit 12 = true ∧ (blend old v (mask19 n)).testBit 11 = false then mppFix (blend old v (mask19 n)) old else blend old v (mask19 n))
  else if n = 384 then (if blend old v (mask19 n) / 2 ^ 60 = 0 ∨ blend old v (mask19 n) / 2 ^ 60 = 8 then blend old v (mask19 n) else old)
  else blend old v (mask19 n)
theorem blend_lt (old v m : Nat) : blend old v m < 18446744073709551616 := W64_lt _
theorem legalOf_lt (n : Int) (old v : Nat) (ho : old < 18446744073709551616) : legalOf n old v < 18446744073709551616 := by
  unfold legalOf
  split
  · split
    · exact W64_lt _
    · exact blend_lt _ _ _
  · split
    · split
      · exact blend_lt _ _ _
      · exact ho
    · exact blend_lt _ _ _

theorem inv_bit (m i : Nat) (hm : m < 18446744073709551616) (hi : i < 64) : (18446744073709551615 - m).testBit i = !m.testBit i := by
  have e : 18446744073709551615 - m = 2 ^ 64 - (m + 1) := by omega
  rw [e, Nat.testBit_two_pow_sub_succ (by simpa using hm)]
  simp [hi]
theorem blend_val (old v m : Nat) (ho : old < 18446744073709551616) (hv : v < 18446744073709551616) (hm : m < 18446744073709551616) :
    bits BinOp.or IntKind.u64 (bits BinOp.andNot IntKind.u64 (old : Int) (m : Int)) (bits BinOp.and IntKind.u64 (v : Int) (m : Int)) = ((blend old v m : Nat) : Int) := by
  rw [u64_andNot_nat old m ho hm, u64_and_nat v m hv hm, u64_or_nat _ _ (Nat.lt_of_le_of_lt Nat.and_le_left ho) (Nat.lt_of_le_of_lt Nat.and_le_left hv)]
  congr 1
  refine W64_eq (Nat.or_lt_two_pow (n := 64) (Nat.lt_of_le_of_lt Nat.and_le_left ho) (Nat.lt_of_le_of_lt Nat.and_le_left hv)) fun i hi => ?_
  rw [Nat.testBit_or, Nat.testBit_and, Nat.testBit_and, inv_bit m i hm hi]
  cases m.testBit i <;> simp
theorem fix_val (x old : Nat) (hx : x < 18446744073709551616) (ho : old < 18446744073709551616) :
    bits BinOp.or IntKind.u64 (bits BinOp.andNot IntKind.u64 (x : Int) 6144) (bits BinOp.and IntKind.u64 (old : Int) 6144) = ((mppFix x old : Nat) : Int) := by
  have h := blend_val x old 6144 hx ho (by omega)
  have e : blend x old 6144 = mppFix x old := by
    refine W64_congr fun i hi => ?_
    have hm2 : Nat.testBit 6144 i = (decide (i = 11) || decide (i = 12)) := by
      by_cases h11 : i = 11
      · subst h11; rfl
      · by_cases h12 : i = 12
        · subst h12; rfl
        · have e : 6144 = 2 ^ 11 ||| 2 ^ 12 := rfl
          rw [e, Nat.testBit_or, Nat.testBit_two_pow, Nat.testBit_two_pow]
          have a1 : ¬ 11 = i := fun e => h11 e.symm
          have a2 : ¬ 12 = i := fun e => h12 e.symm
          simp [h11, h12, a1, a2]
    rw [hm2]
    by_cases h : i = 11 ∨ i = 12
    · rw [if_pos h, if_pos (by simpa using h)]
    · rw [if_neg h, if_neg (by simpa using h)]
  rw [← e]
  exact h

set_option maxRecDepth 100000 in
set_option maxHeartbeats 2000000 in
theorem legal_any (n : Int) (old v : Nat) (w : World) (ho : old < 18446744073709551616) (hv : v < 18446744073709551616) :
    Calls Try.prog 21 #[.int .i64 n, .int .u64 (old : Int), .int .u64 (v : Int)] w fun e w' => e = .returned (.int .u64 (legalOf n old v : Nat)) ∧ Below w.heap.size w w' := by
  have hb := blend_val old v (mask19 n) ho hv (mask19_lt n)
  have hX := blend_lt old v (mask19 n)
  have hL : Hid (legalOf n old v = if n = 768 then (if (blend old v (mask19 n)).testBit 12 = true ∧ (blend old v (mask19 n)).testBit 11 = false then mppFix (blend old v (mask19 n)) old else blend old v (mask19 n))
    else if n = 384 then (if blend old v (mask19 n) / 2 ^ 60 = 0 ∨ blend old v (mask19 n) / 2 ^ 60 = 8 then blend old v (mask19 n) else old) else blend old v (mask19 n)) := rfl
  obtain ⟨m, hm⟩ : ∃ m, mask19 n = m := ⟨_, rfl⟩
  rw [hm] at hb hX hL
  have HM := Lib.hid hm
  clear hm
  generalize blend old v m = X at hb hX hL
  by_cases h1 : n = 768
  · subst h1
    have h3 := and3 X hX
    have hF := fix_val X old hX ho
    have HL : Hid (legalOf 768 old v = if X.testBit 12 = true ∧ X.testBit 11 = false then mppFix X old else X) := by show _ = _; rw [hL.out, if_pos rfl]
    clear hL
    generalize X.testBit 12 = a at h3 HL
    generalize X.testBit 11 = b at h3 HL
    cases a <;> cases b
    all_goals
      simp only [Bool.toNat_true, Bool.toNat_false] at h3
      go_enter Try.func21, Try.ntmps21
      go_wp2_with fail
      refine (mask_any _ _).mono ?_
      rw [HM.out]
      rintro e w1 ⟨rfl, hb1⟩
      go_wp2
      go_ret
      exact ⟨val_u64 (by rw [HL.out]; rfl), hb1⟩
  · have e1 : (n == 768) = false := by simpa using h1
    by_cases h2 : n = 384
    · subst h2
      have HL : Hid (legalOf 384 old v = if X / 2 ^ 60 = 0 ∨ X / 2 ^ 60 = 8 then X else old) := by show _ = _; rw [hL.out, if_neg (by omega), if_pos rfl]
      clear hL h1
      have hq : ((X : Int) / 1152921504606846976) = ((X / 2 ^ 60 : Nat) : Int) := by simp
      obtain ⟨q, hqq⟩ : ∃ q, q = X / 2 ^ 60 := ⟨_, rfl⟩
      rw [← hqq] at HL hq
      clear hqq
      by_cases q0 : q = 0
      · subst q0
        go_enter Try.func21, Try.ntmps21
        go_wp2_with fail
        refine (mask_any _ _).mono ?_
        rw [HM.out]
        rintro e w1 ⟨rfl, hb1⟩
        go_wp2
        go_ret
        exact ⟨val_u64 (by rw [HL.out]; simp), hb1⟩
      · have z0 : ((q : Int) != 0) = true := by simp; omega
        by_cases q8 : q = 8
        · subst q8
          go_enter Try.func21, Try.ntmps21
          go_wp2_with fail
          refine (mask_any _ _).mono ?_
          rw [HM.out]
          rintro e w1 ⟨rfl, hb1⟩
          go_wp2
          go_ret
          exact ⟨val_u64 (by rw [HL.out]; simp), hb1⟩
        · have z8 : ((q : Int) != 8) = true := by simp; omega
          have HL' : Hid (legalOf 384 old v = old) := by show _ = _; rw [HL.out, if_neg (by omega)]
          clear HL q0 q8
          go_enter Try.func21, Try.ntmps21
          go_wp2_with fail
          refine (mask_any _ _).mono ?_
          rw [HM.out]
          rintro e w1 ⟨rfl, hb1⟩
          go_wp2
          go_ret
          exact ⟨val_u64 (by rw [HL'.out]), hb1⟩
    · have e2 : (n == 384) = false := by simpa using h2
      have HL : Hid (legalOf n old v = X) := by show _ = _; rw [hL.out, if_neg h1, if_neg h2]
      clear hL h1 h2
      go_enter Try.func21, Try.ntmps21
      go_wp2_with fail
      refine (mask_any _ _).mono ?_
      rw [HM.out]
      rintro e w1 ⟨rfl, hb1⟩
      go_wp2
      go_ret
      exact ⟨val_u64 (by rw [HL.out]), hb1⟩
end Go.Proofs.Ythkkfdhgpaonjaa
