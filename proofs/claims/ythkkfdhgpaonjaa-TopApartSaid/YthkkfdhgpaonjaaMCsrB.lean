import Derived.Test.YthkkfdhgpaonjaaCsrA
import Derived.Test.YthkkfdhgpaonjaaMSt
/- The contracts of csr.Mask, roebuckref19.Of, and of Legal of both. -/
namespace Go.Proofs.Ythkkfdhgpaonjaa
open Go.RowKit
set_option linter.unusedSimpArgs false
set_option linter.unusedVariables false

theorem row_form (n : Int) : ∃ (a : Int) (s : ByteArray) (k : Bool), optRow (row19 n) = .tuple #[.agg #[.int .i64 a, .string s, .int .u64 (mask19 n : Nat)], .bool k] := by
  unfold mask19
  cases row19 n with
  | none => exact ⟨0, ⟨#[]⟩, false, rfl⟩
  | some r => exact ⟨r.1, r.2.1, true, rfl⟩

theorem mask_any (n : Int) (w : World) :
    Calls Try.prog 23 #[.int .i64 n] w fun e w' => e = .returned (.int .u64 (mask19 n : Nat)) ∧ Below w.heap.size w w' := by
  obtain ⟨a, s, k, hr⟩ := row_form n
  have HR := Lib.hid hr
  clear hr
  go_enter Try.func23, Try.ntmps23
  go_wp2_with fail
  refine (cat_any n _).mono ?_
  rw [HR.out]
  rintro e w1 ⟨rfl, hb1⟩
  go_wp2
  go_ret
  exact ⟨rfl, (((Fr.refl w).step hb1).alloc _).1⟩

def rrowV (n : Int) : Value := match row19 n with
  | some r => .agg #[.int .i64 r.1, .string r.2.1, .int .u64 (r.2.2 : Nat)]
  | none => .agg #[.int .i64 0, .string ⟨#[]⟩, .int .u64 0]

set_option maxRecDepth 100000 in
set_option maxHeartbeats 2000000 in
theorem rof_row (n : Int) (w : World) :
    Calls Try.prog 25 #[.int .i64 n] w fun e w' => e = .returned (rrowV n) ∧ Below w.heap.size w w' := by
  go_enter Try.func25, Try.ntmps25
  go_wp2_with (go_at_call 37; refine (rrows_any _).mono ?_; rintro e w' ⟨rfl, rfl⟩)
  obtain ⟨w1, hw1⟩ : ∃ w1, w1 = (w.alloc (.cells #[.int .i64 0, .string ⟨#[]⟩, .int .u64 0] 52)).alloc (.cells cells19 52) := ⟨_, rfl⟩
  have hf : Fr w.heap.size w w1 := by rw [hw1]; exact ((Fr.refl w).alloc _).alloc _
  have hh : w1.heap[w.heap.size + 1]? = some (.cells cells19 52) := by rw [hw1]; simpa using @heap_alloc_new (w.alloc (.cells #[.int .i64 0, .string ⟨#[]⟩, .int .u64 0] 52)) (.cells cells19 52)
  have h0 : w1.heap[w.heap.size]? = some (.cells #[.int .i64 0, .string ⟨#[]⟩, .int .u64 0] 52) := by rw [hw1]; exact keep_alloc (heap_alloc_new _ _) _
  rw [← hw1]
  clear hw1
  obtain ⟨z0, z1, z2, zl, zf⟩ := known3 h0
  go_loop [4] (fun i => ∃ k : Nat, k ≤ 34 ∧ i = .int .i64 k ∧ Hid ((tab19.drop k).find? (fun r => r.1 == n) = row19 n)) (fun i => 34 - (intOf i).toNat)
  case atStart => exact ⟨0, by omega, rfl, rfl⟩
  case round =>
    obtain ⟨k, hk, rfl, H⟩ := hrel
    by_cases hlt : k < 34
    · obtain ⟨c0, c1, c2⟩ := cells19_at hh k hlt
      obtain ⟨r, hr⟩ : ∃ r, r = tab19.getD k default := ⟨_, rfl⟩
      have HS := step19 (fun r => r.1 == n) k hlt
      rw [← hr] at c0 c1 c2 HS
      have HH : Hid (row19 n = if (r.1 == n) = true then some r else (tab19.drop (k + 1)).find? (fun r => r.1 == n)) := by rw [← H.out]; exact HS
      clear HS hr H
      go_wp2
      · have h1 : (r.1 == n) = true := by assumption
        refine bodyPost_ret (v := .agg #[.int .i64 r.1, .string r.2.1, .int .u64 r.2.2]) (by simp [results, Try.results25, go_sem, z0, z1, z2, zl]) rfl ⟨?_, ?_⟩
        · unfold rrowV; rw [HH.out, if_pos h1]
        · refine Fr.below ?_; repeat (first | exact hf | refine Fr.alloc ?_ _ | refine Fr.drew ?_ | refine Fr.setCell ?_ (by simp) _)
      · have h1 : (r.1 == n) = false := by assumption
        go_round
        case rel => exact ⟨k + 1, by omega, by go_num, by rw [HH.out, if_neg (by rw [h1]; simp)]; rfl⟩
        case measure => simp [intOf]; omega
    · obtain rfl : k = 34 := by omega
      go_wp2
      refine bodyPost_ret (v := .agg #[.int .i64 0, .string ⟨#[]⟩, .int .u64 0]) (by simp [results, Try.results25, go_sem, z0, z1, z2, zl]) rfl ⟨?_, ?_⟩
      · unfold rrowV; rw [← H.out]; rfl
      · refine Fr.below ?_; repeat (first | exact hf | refine Fr.alloc ?_ _ | refine Fr.drew ?_ | refine Fr.setCell ?_ (by simp) _)

/-- A word in which the bits of a mask are another word's. -/
def blend (old v m : Nat) : Nat := W64 (fun i => if m.testBit i then v.testBit i else old.testBit i)
def mppFix (x old : Nat) : Nat := W64 (fun i => if i = 11 ∨ i = 12 then old.testBit i else x.testBit i)
def legalOf (n : Int) (old v : Nat) : Nat :=
  if n = 768 then (if (blend old v (mask19 n)).testBit 12 = true ∧ (blend old v (mask19 n)).testBit 11 = false then mppFix (blend old v (mask19 n)) old else blend old v (mask19 n))
  else if n = 384 then (if blend old v (mask19 n) / 2 ^ 60 = 0 ∨ blend old v (mask19 n) / 2 ^ 60 = 8 then blend old v (mask19 n) else old)
  else blend old v (mask19 n)
theorem blend_lt (old v m : Nat) : blend old v m < 18446744073709551616 := W64_lt _
theorem legalOf_lt (n : Int) (old v : Nat) (ho : old < 18446744073709551616) : legalOf n old v < 18446744073709551616 := by
  unfold legalOf
  split
  · split
    · exact W64_lt _
    · exact blend_lt _ _ _
  · split
    · split
      · exact blend_lt _ _ _
      · exact ho
    · exact blend_lt _ _ _

theorem inv_bit (m i : Nat) (hm : m < 18446744073709551616) (hi : i < 64) : (18446744073709551615 - m).testBit i = !m.testBit i := by
  have e : 18446744073709551615 - m = 2 ^ 64 - (m + 1) := by omega
  rw [e, Nat.testBit_two_pow_sub_succ (by simpa using hm)]
  simp [hi]
theorem blend_val (old v m : Nat) (ho : old < 18446744073709551616) (hv : v < 18446744073709551616) (hm : m < 18446744073709551616) :
    bits BinOp.or IntKind.u64 (bits BinOp.andNot IntKind.u64 (old : Int) (m : Int)) (bits BinOp.and IntKind.u64 (v : Int) (m : Int)) = ((blend old v m : Nat) : Int) := by
  rw [u64_andNot_nat old m ho hm, u64_and_nat v m hv hm, u64_or_nat _ _ (Nat.lt_of_le_of_lt Nat.and_le_left ho) (Nat.lt_of_le_of_lt Nat.and_le_left hv)]
  congr 1
  refine W64_eq (Nat.or_lt_two_pow (n := 64) (Nat.lt_of_le_of_lt Nat.and_le_left ho) (Nat.lt_of_le_of_lt Nat.and_le_left hv)) fun i hi => ?_
  rw [Nat.testBit_or, Nat.testBit_and, Nat.testBit_and, inv_bit m i hm hi]
  cases m.testBit i <;> simp
theorem fix_val (x old : Nat) (hx : x < 18446744073709551616) (ho : old < 18446744073709551616) :
    bits BinOp.or IntKind.u64 (bits BinOp.andNot IntKind.u64 (x : Int) 6144) (bits BinOp.and IntKind.u64 (old : Int) 6144) = ((mppFix x old : Nat) : Int) := by
  have h := blend_val x old 6144 hx ho (by omega)
  have e : blend x old 6144 = mppFix x old := by
    refine W64_congr fun i hi => ?_
    have hm2 : Nat.testBit 6144 i = (decide (i = 11) || decide (i = 12)) := by
      by_cases h11 : i = 11
      · subst h11; rfl
      · by_cases h12 : i = 12
        · subst h12; rfl
        · have e : 6144 = 2 ^ 11 ||| 2 ^ 12 := rfl
          rw [e, Nat.testBit_or, Nat.testBit_two_pow, Nat.testBit_two_pow]
          have a1 : ¬ 11 = i := fun e => h11 e.symm
          have a2 : ¬ 12 = i := fun e => h12 e.symm
          simp [h11, h12, a1, a2]
    rw [hm2]
    by_cases h : i = 11 ∨ i = 12
    · rw [if_pos h, if_pos (by simpa using h)]
    · rw [if_neg h, if_neg (by simpa using h)]
  rw [← e]
  exact h

set_option maxRecDepth 100000 in
set_option maxHeartbeats 2000000 in
theorem legal_any (n : Int) (old v : Nat) (w : World) (ho : old < 18446744073709551616) (hv : v < 18446744073709551616) :
    Calls Try.prog 21 #[.int .i64 n, .int .u64 (old : Int), .int .u64 (v : Int)] w fun e w' => e = .returned (.int .u64 (legalOf n old v : Nat)) ∧ Below w.heap.size w w' := by
  have hb := blend_val old v (mask19 n) ho hv (mask19_lt n)
  have hX := blend_lt old v (mask19 n)
  have hL : Hid (legalOf n old v = if n = 768 then (if (blend old v (mask19 n)).testBit 12 = true ∧ (blend old v (mask19 n)).testBit 11 = false then mppFix (blend old v (mask19 n)) old else blend old v (mask19 n))
    else if n = 384 then (if blend old v (mask19 n) / 2 ^ 60 = 0 ∨ blend old v (mask19 n) / 2 ^ 60 = 8 then blend old v (mask19 n) else old) else blend old v (mask19 n)) := rfl
  obtain ⟨m, hm⟩ : ∃ m, mask19 n = m := ⟨_, rfl⟩
  rw [hm] at hb hX hL
  have HM := Lib.hid hm
  clear hm
  generalize blend old v m = X at hb hX hL
  by_cases h1 : n = 768
  · subst h1
    have h3 := and3 X hX
    have hF := fix_val X old hX ho
    have HL : Hid (legalOf 768 old v = if X.testBit 12 = true ∧ X.testBit 11 = false then mppFix X old else X) := by show _ = _; rw [hL.out, if_pos rfl]
    clear hL
    generalize X.testBit 12 = a at h3 HL
    generalize X.testBit 11 = b at h3 HL
    cases a <;> cases b
    all_goals
      simp only [Bool.toNat_true, Bool.toNat_false] at h3
      go_enter Try.func21, Try.ntmps21
      go_wp2_with fail
      refine (mask_any _ _).mono ?_
      rw [HM.out]
      rintro e w1 ⟨rfl, hb1⟩
      go_wp2
      go_ret
      exact ⟨val_u64 (by rw [HL.out]; rfl), hb1⟩
  · have e1 : (n == 768) = false := by simpa using h1
    by_cases h2 : n = 384
    · subst h2
      have HL : Hid (legalOf 384 old v = if X / 2 ^ 60 = 0 ∨ X / 2 ^ 60 = 8 then X else old) := by show _ = _; rw [hL.out, if_neg (by omega), if_pos rfl]
      clear hL h1
      have hq : ((X : Int) / 1152921504606846976) = ((X / 2 ^ 60 : Nat) : Int) := by simp
      obtain ⟨q, hqq⟩ : ∃ q, q = X / 2 ^ 60 := ⟨_, rfl⟩
      rw [← hqq] at HL hq
      clear hqq
      by_cases q0 : q = 0
      · subst q0
        go_enter Try.func21, Try.ntmps21
        go_wp2_with fail
        refine (mask_any _ _).mono ?_
        rw [HM.out]
        rintro e w1 ⟨rfl, hb1⟩
        go_wp2
        go_ret
        exact ⟨val_u64 (by rw [HL.out]; simp), hb1⟩
      · have z0 : ((q : Int) != 0) = true := by simp; omega
        by_cases q8 : q = 8
        · subst q8
          go_enter Try.func21, Try.ntmps21
          go_wp2_with fail
          refine (mask_any _ _).mono ?_
          rw [HM.out]
          rintro e w1 ⟨rfl, hb1⟩
          go_wp2
          go_ret
          exact ⟨val_u64 (by rw [HL.out]; simp), hb1⟩
        · have z8 : ((q : Int) != 8) = true := by simp; omega
          have HL' : Hid (legalOf 384 old v = old) := by show _ = _; rw [HL.out, if_neg (by omega)]
          clear HL q0 q8
          go_enter Try.func21, Try.ntmps21
          go_wp2_with fail
          refine (mask_any _ _).mono ?_
          rw [HM.out]
          rintro e w1 ⟨rfl, hb1⟩
          go_wp2
          go_ret
          exact ⟨val_u64 (by rw [HL'.out]), hb1⟩
    · have e2 : (n == 384) = false := by simpa using h2
      have HL : Hid (legalOf n old v = X) := by show _ = _; rw [hL.out, if_neg h1, if_neg h2]
      clear hL h1 h2
      go_enter Try.func21, Try.ntmps21
      go_wp2_with fail
      refine (mask_any _ _).mono ?_
      rw [HM.out]
      rintro e w1 ⟨rfl, hb1⟩
      go_wp2
      go_ret
      exact ⟨val_u64 (by rw [HL.out]), hb1⟩
end Go.Proofs.Ythkkfdhgpaonjaa
/- The contract of roebuckref19.Legal. -/
namespace Go.Proofs.Ythkkfdhgpaonjaa
open Go.RowKit
set_option linter.unusedSimpArgs false
set_option linter.unusedVariables false

theorem rrow_form (n : Int) : ∃ (a : Int) (s : ByteArray), rrowV n = .agg #[.int .i64 a, .string s, .int .u64 (mask19 n : Nat)] := by
  unfold mask19 rrowV
  cases row19 n with
  | none => exact ⟨0, ⟨#[]⟩, rfl⟩
  | some r => exact ⟨r.1, r.2.1, rfl⟩

theorem cut60 (X : Nat) (hX : X < 18446744073709551616) : W64 (cutF X 60 4) = X / 2 ^ 60 := by
  symm
  refine W64_eq (Nat.lt_of_le_of_lt (Nat.div_le_self _ _) hX) fun i hi => ?_
  rw [Nat.testBit_div_two_pow]
  unfold cutF
  by_cases h : i < 4
  · have e1 : decide ((i : Int) < 4) = true := by simp; omega
    have e2 : decide (0 ≤ 60 + (i : Int)) = true := by simp; omega
    have e3 : decide (60 + (i : Int) < 64) = true := by simp; omega
    rw [e1, e2, e3, show (60 + (i : Int)).toNat = i + 60 by omega]
    simp
  · have e1 : decide ((i : Int) < 4) = false := by simp; omega
    rw [e1, tb_big X hX _ (by omega)]
    simp
theorem b11c : IntB 11 := by unfold IntB; omega
theorem b2c : IntB 2 := by unfold IntB; omega
theorem put_cut (X old : Nat) (hX : X < 18446744073709551616) : W64 (putF X (W64 (cutF old 11 2)) 11 2) = mppFix X old := by
  refine W64_congr fun i hi => ?_
  unfold putF inB
  by_cases h : i = 11 ∨ i = 12
  · rw [if_pos h, if_pos (by rcases h with rfl | rfl <;> decide), mkW_bit]
    unfold cutF
    rcases h with rfl | rfl <;> simp
  · rw [if_neg h, if_neg (by simp; omega)]

theorem run_field2 (a b c : Value) (w : World) : (Instr.field 52 (.agg #[a, b, c]) 2).run Try.prog w = .ok c w := by kernel_rfl

theorem own_push' {f : Nat → Bool} {k : Nat} {t : Nat} (h : (f k).toNat = t) : ((List.range (k + 1)).map fun j => Value.int .u64 ((f j).toNat : Nat)) = ((List.range k).map fun j => Value.int .u64 ((f j).toNat : Nat)) ++ [Value.int .u64 (t : Int)] := by
  rw [own_push, h]

theorem b60 : IntB 60 := by unfold IntB; omega
theorem b4 : IntB 4 := by unfold IntB; omega

set_option maxRecDepth 100000 in
set_option maxHeartbeats 4000000 in
theorem rlegal_any (n : Int) (old v : Nat) (w : World) (ho : old < 18446744073709551616) (hv : v < 18446744073709551616) :
    Calls Try.prog 22 #[.int .i64 n, .int .u64 (old : Int), .int .u64 (v : Int)] w fun e w' => e = .returned (.int .u64 (legalOf n old v : Nat)) ∧ Below w.heap.size w w' := by
  obtain ⟨i0, hi, hz0, hz1, hz2⟩ := info_parts info_u64
  obtain ⟨ra, rs, hr⟩ := rrow_form n
  have HR := Lib.hid hr
  clear hr
  have hm := mask19_lt n
  have hX := blend_lt old v (mask19 n)
  have hL : Hid (legalOf n old v = if n = 768 then (if (blend old v (mask19 n)).testBit 12 = true ∧ (blend old v (mask19 n)).testBit 11 = false then mppFix (blend old v (mask19 n)) old else blend old v (mask19 n))
    else if n = 384 then (if blend old v (mask19 n) / 2 ^ 60 = 0 ∨ blend old v (mask19 n) / 2 ^ 60 = 8 then blend old v (mask19 n) else old) else blend old v (mask19 n)) := rfl
  go_enter Try.func22, Try.ntmps22
  go_wp2_with fail
  refine (rof_row n _).mono ?_
  rw [HR.out]
  rintro e w1 ⟨rfl, hb1⟩
  obtain ⟨m, hmm⟩ : ∃ m, mask19 n = m := ⟨_, rfl⟩
  rw [hmm] at hm hX hL ⊢
  clear hmm
  have hF0 := (Fr.refl w).step hb1
  have hfd := run_field2
  go_wp2
  go_loopw [8, 9] (fun v' i wr => ∃ k : Nat, k ≤ 64 ∧ i = .int .i64 k ∧ wr.ownsRow w.heap.size 25 1 v' k ((List.range k).map fun j => Value.int .u64 (((fun i => if m.testBit i then v.testBit i else old.testBit i) j).toNat : Nat)) ∧ Fr w.heap.size w wr) (fun _ i _ => 64 - (intOf i).toNat)
  case atStart => exact ⟨0, by omega, rfl, World.ownsRow_nil _ _ _ _, hF0⟩
  case round =>
    obtain ⟨k, hk, rfl, hown, hfr⟩ := hrel
    by_cases hlt : k < 64
    · have bk : ∀ (y : Nat), y < 18446744073709551616 → bitN y (k : Int) = (y.testBit k).toNat := fun y hy => by rw [bitN_big y hy _ (by omega)]; simp
      have bm := Lib.hid (bk m hm)
      have bv := Lib.hid (bk v hv)
      have bo := Lib.hid (bk old ho)
      clear bk
      cases hmk : m.testBit k
      · have BM : Hid (bitN m (k : Int) = 0) := by show _ = _; rw [bm.out, hmk]; rfl
        have HP := Lib.hid (own_push' (f := fun i => if m.testBit i then v.testBit i else old.testBit i) (k := k) (t := (old.testBit k).toNat) (by simp [hmk]))
        have HMK := Lib.hid hmk
        clear hmk bm
        obtain ⟨t, ht⟩ : ∃ t, t = (old.testBit k).toNat := ⟨_, rfl⟩
        rw [← ht] at bo HP
        clear ht
        go_wp2_with fail
        refine (bit_v BM.out _ hm).mono ?_
        rintro e w' ⟨rfl, rfl⟩
        go_wp2_with fail
        refine (bit_v bo.out _ ho).mono ?_
        rintro e w' ⟨rfl, rfl⟩
        go_wp2_with (first
          | (at_builtin; refine wpList_append_own _ rfl _ _ 87 rfl w.heap.size 25 i0 (.int .u64 0) 1 8 Try.underlying87 hi hz0 hz1 hz2 rfl (by decide) _ _ _ rfl (hown.alloc _) ⟨wr.heap.size, 0, none⟩ 1 1 [.int .u64 (t : Int)] rfl rfl (one_new _ _ _) (one_cell _) (by unfold maxLen; omega) (by omega) (by have := hfr.2; simp; omega) ?_; intro v' w1 hown1 hgrow1 _; rw [← HP.out] at hown1; have hfr1 := Fr.grown (hfr.alloc _) hgrow1 (own_ge hown)))
        go_roundw
        case rel => exact ⟨k + 1, by omega, by go_num, hown1, hfr1⟩
        case measure => simp [intOf]; omega
      · have BM : Hid (bitN m (k : Int) = 1) := by show _ = _; rw [bm.out, hmk]; rfl
        have HP := Lib.hid (own_push' (f := fun i => if m.testBit i then v.testBit i else old.testBit i) (k := k) (t := (v.testBit k).toNat) (by simp [hmk]))
        clear hmk bm
        obtain ⟨t, ht⟩ : ∃ t, t = (v.testBit k).toNat := ⟨_, rfl⟩
        rw [← ht] at bv HP
        clear ht
        go_wp2_with fail
        refine (bit_v BM.out _ hm).mono ?_
        rintro e w' ⟨rfl, rfl⟩
        go_wp2_with fail
        refine (bit_v bv.out _ hv).mono ?_
        rintro e w' ⟨rfl, rfl⟩
        go_wp2_with (first
          | (at_builtin; refine wpList_append_own _ rfl _ _ 87 rfl w.heap.size 25 i0 (.int .u64 0) 1 8 Try.underlying87 hi hz0 hz1 hz2 rfl (by decide) _ _ _ rfl (hown.alloc _) ⟨wr.heap.size, 0, none⟩ 1 1 [.int .u64 (t : Int)] rfl rfl (one_new _ _ _) (one_cell _) (by unfold maxLen; omega) (by omega) (by have := hfr.2; simp; omega) ?_; intro v' w1 hown1 hgrow1 _; rw [← HP.out] at hown1; have hfr1 := Fr.grown (hfr.alloc _) hgrow1 (own_ge hown)))
        go_roundw
        case rel => exact ⟨k + 1, by omega, by go_num, hown1, hfr1⟩
        case measure => simp [intOf]; omega
    · obtain rfl : k = 64 := by omega
      obtain ⟨g, cap, rfl, hg, hcells⟩ := own_cells hown (by omega)
      have hc : ∀ k, k < 64 → wr.cell? ⟨g, k, none⟩ = some (.int .u64 (((blend old v m).testBit k).toNat : Nat)) := fun k hk => by
        rw [hcells k hk]
        unfold blend
        simp [hk, mkW_bit]
      have hc' := Lib.hid hc
      clear hc hcells hown
      go_wp2_with fail
      refine (of_any _ hX g cap _ hc'.out).mono ?_
      rintro e w' ⟨rfl, rfl⟩
      generalize blend old v m = X at hX hL ⊢
      clear hc'
      have C11 := Lib.hid (cut_mpp X hX)
      have C60 := Lib.hid (cut60 X hX)
      by_cases h1 : n = 768
      · subst h1
        have HL : Hid (legalOf 768 old v = if X.testBit 12 = true ∧ X.testBit 11 = false then mppFix X old else X) := by show _ = _; rw [hL.out, if_pos rfl]
        have HPC := Lib.hid (put_cut X old hX)
        clear hL
        generalize X.testBit 12 = a at C11 HL
        generalize X.testBit 11 = b at C11 HL
        by_cases hab : a = true ∧ b = false
        · obtain ⟨rfl, rfl⟩ := hab
          have C11' : Hid (W64 (cutF X 11 2) = 2) := C11
          have HL' : Hid (legalOf 768 old v = mppFix X old) := by show _ = _; rw [HL.out]; simp
          clear C11 HL
          go_wp2_with fail
          refine (cut_any X 11 2 _ hX b11c b2c).mono ?_
          rw [C11'.out]
          rintro e w2 ⟨rfl, hb2⟩
          go_wp2_with fail
          refine (cut_any old 11 2 _ ho b11c b2c).mono ?_
          rintro e w3 ⟨rfl, hb3⟩
          go_wp2_with fail
          refine (put_any X _ 11 2 _ hX (W64_lt _) b11c b2c).mono ?_
          rw [HPC.out]
          rintro e w4 ⟨rfl, hb4⟩
          go_wp2_with fail
          refine (cut_any _ 60 4 _ (W64_lt _) b60 b4).mono ?_
          rintro e w5 ⟨rfl, hb5⟩
          go_wp2
          go_ret
          exact ⟨val_u64 (by rw [HL'.out]), ((((hfr.step hb2).step hb3).step hb4).step hb5).1⟩
        · have C11' : ∃ q : Nat, W64 (cutF X 11 2) = q ∧ q ≠ 2 := ⟨_, rfl, by rw [C11.out]; revert hab; cases a <;> cases b <;> simp⟩
          obtain ⟨q, hq, hq2⟩ := C11'
          have HQ := Lib.hid hq
          have z2 : ((q : Int) == 2) = false := by simp; omega
          have HL' : Hid (legalOf 768 old v = X) := by show _ = _; rw [HL.out, if_neg hab]
          clear C11 HL hab hq hq2 HPC
          go_wp2_with fail
          refine (cut_any X 11 2 _ hX b11c b2c).mono ?_
          rw [HQ.out]
          rintro e w2 ⟨rfl, hb2⟩
          go_wp2_with fail
          refine (cut_any _ 60 4 _ hX b60 b4).mono ?_
          rintro e w5 ⟨rfl, hb5⟩
          go_wp2
          go_ret
          exact ⟨val_u64 (by rw [HL'.out]), ((hfr.step hb2).step hb5).1⟩
      · have e1 : (n == 768) = false := by simpa using h1
        by_cases h2 : n = 384
        · subst h2
          have HL : Hid (legalOf 384 old v = if X / 2 ^ 60 = 0 ∨ X / 2 ^ 60 = 8 then X else old) := by show _ = _; rw [hL.out, if_neg (by omega), if_pos rfl]
          clear hL h1 C11
          obtain ⟨q, hqq⟩ : ∃ q, X / 2 ^ 60 = q := ⟨_, rfl⟩
          rw [hqq] at HL C60
          clear hqq
          by_cases q0 : q = 0
          · subst q0
            go_wp2_with fail
            refine (cut_any X 60 4 _ hX b60 b4).mono ?_
            rw [C60.out]
            rintro e w2 ⟨rfl, hb2⟩
            go_wp2
            go_ret
            exact ⟨val_u64 (by rw [HL.out]; simp), (hfr.step hb2).1⟩
          · have z0 : ((q : Int) != 0) = true := by simp; omega
            by_cases q8 : q = 8
            · subst q8
              go_wp2_with fail
              refine (cut_any X 60 4 _ hX b60 b4).mono ?_
              rw [C60.out]
              rintro e w2 ⟨rfl, hb2⟩
              go_wp2
              go_ret
              exact ⟨val_u64 (by rw [HL.out]; simp), (hfr.step hb2).1⟩
            · have z8 : ((q : Int) != 8) = true := by simp; omega
              have HL' : Hid (legalOf 384 old v = old) := by show _ = _; rw [HL.out, if_neg (by omega)]
              clear HL q0 q8
              go_wp2_with fail
              refine (cut_any X 60 4 _ hX b60 b4).mono ?_
              rw [C60.out]
              rintro e w2 ⟨rfl, hb2⟩
              go_wp2
              go_ret
              exact ⟨val_u64 (by rw [HL'.out]), (hfr.step hb2).1⟩
        · have e2 : (n == 384) = false := by simpa using h2
          have HL : Hid (legalOf n old v = X) := by show _ = _; rw [hL.out, if_neg h1, if_neg h2]
          clear hL h1 h2 C11
          go_wp2_with fail
          refine (cut_any X 60 4 _ hX b60 b4).mono ?_
          rintro e w2 ⟨rfl, hb2⟩
          go_wp2
          go_ret
          exact ⟨val_u64 (by rw [HL.out]), (hfr.step hb2).1⟩
end Go.Proofs.Ythkkfdhgpaonjaa
/- The contracts of csr.Known, Name, Find, Least, ReadOnly, May, and of the document's. -/
namespace Go.Proofs.Ythkkfdhgpaonjaa
open Go.RowKit
set_option linter.unusedSimpArgs false
set_option linter.unusedVariables false

theorem tab_range : ∀ r ∈ tab19, 256 ≤ r.1 ∧ r.1 ≤ 3860 := by decide
theorem row19_some {n : Int} {r : Int × ByteArray × Nat} (h : row19 n = some r) : r.1 = n ∧ 256 ≤ n ∧ n ≤ 3860 := by
  have h1 : r.1 = n := by simpa using List.find?_some h
  have h2 := tab_range r (List.mem_of_find?_eq_some h)
  omega
def knownB (n : Int) : Bool := (row19 n).isSome
def nameOf19 (n : Int) : ByteArray := match row19 n with | some r => r.2.1 | none => ⟨#[]⟩
def leastOf (n : Int) : Int := if knownB n = true then n / 256 % 4 else 3
def roOf (n : Int) : Bool := knownB n && decide (n / 1024 % 4 = 3)
def mayB (n p : Int) (wr : Bool) : Bool := (decide (p = 0) || decide (p = 1) || decide (p = 3)) && knownB n && decide (leastOf n ≤ p) && !(wr && roOf n)

theorem ofInt_i64 (a : Nat) (ha : a < 9223372036854775808) : (BitVec.ofInt 64 (a : Int)).toNat = a := by
  rw [BitVec.ofInt_natCast, BitVec.toNat_ofNat]; exact Nat.mod_eq_of_lt (by omega)
theorem i64_and3 (n : Int) (h0 : 0 ≤ n) (h1 : n < 4096) : bits .and .i64 n 3 = n % 4 := by
  obtain ⟨a, rfl⟩ := Int.eq_ofNat_of_zero_le h0
  have hx : a &&& 3 < 2 ^ 63 := Nat.and_lt_two_pow _ (by omega)
  show IntKind.i64.wrap ((BitVec.ofInt 64 (a : Int) &&& BitVec.ofInt 64 ((3 : Nat) : Int)).toNat : Int) = _
  rw [BitVec.toNat_and, ofInt_i64 a (by omega), ofInt_i64 3 (by omega), IntKind.wrap_i64]
  have e : a &&& 3 = a % 4 := Nat.and_two_pow_sub_one_eq_mod (n := 2) _
  rw [e]
  omega

theorem cat_none {n : Int} (h : row19 n = none) (w : World) : Calls Try.prog 78 #[.int .i64 n] w fun e w' => e = .returned (.tuple #[.agg #[.int .i64 0, .string ⟨#[]⟩, .int .u64 0], .bool false]) ∧ Below w.heap.size w w' :=
  (cat_any n w).mono fun e w' ⟨he, hb⟩ => ⟨by rw [he, h]; rfl, hb⟩
theorem cat_some {n : Int} {r : Int × ByteArray × Nat} (h : row19 n = some r) (w : World) : Calls Try.prog 78 #[.int .i64 n] w fun e w' => e = .returned (.tuple #[.agg #[.int .i64 r.1, .string r.2.1, .int .u64 r.2.2], .bool true]) ∧ Below w.heap.size w w' :=
  (cat_any n w).mono fun e w' ⟨he, hb⟩ => ⟨by rw [he, h]; rfl, hb⟩
theorem rof_none {n : Int} (h : row19 n = none) (w : World) : Calls Try.prog 25 #[.int .i64 n] w fun e w' => e = .returned (.agg #[.int .i64 0, .string ⟨#[]⟩, .int .u64 0]) ∧ Below w.heap.size w w' :=
  (rof_row n w).mono fun e w' ⟨he, hb⟩ => ⟨by rw [he]; unfold rrowV; rw [h], hb⟩
theorem rof_some {n : Int} {r : Int × ByteArray × Nat} (h : row19 n = some r) (w : World) : Calls Try.prog 25 #[.int .i64 n] w fun e w' => e = .returned (.agg #[.int .i64 n, .string r.2.1, .int .u64 r.2.2]) ∧ Below w.heap.size w w' :=
  (rof_row n w).mono fun e w' ⟨he, hb⟩ => ⟨by rw [he]; unfold rrowV; rw [h, ← (row19_some h).1], hb⟩

theorem known19_any (n : Int) (w : World) :
    Calls Try.prog 28 #[.int .i64 n] w fun e w' => e = .returned (.bool (knownB n)) ∧ Below w.heap.size w w' := by
  cases hr : row19 n with
  | none =>
    have H : Hid (knownB n = false) := by show _ = _; unfold knownB; rw [hr]; rfl
    have HR := Lib.hid hr
    clear hr
    go_enter Try.func28, Try.ntmps28
    go_wp2_with fail
    refine (cat_none HR.out _).mono ?_
    rintro e w1 ⟨rfl, hb1⟩
    go_wp2
    go_ret
    exact ⟨by rw [H.out]; rfl, (((Fr.refl w).step hb1).alloc _).1⟩
  | some r =>
    have H : Hid (knownB n = true) := by show _ = _; unfold knownB; rw [hr]; rfl
    have HR := Lib.hid hr
    clear hr
    go_enter Try.func28, Try.ntmps28
    go_wp2_with fail
    refine (cat_some HR.out _).mono ?_
    rintro e w1 ⟨rfl, hb1⟩
    go_wp2
    go_ret
    exact ⟨by rw [H.out]; rfl, (((Fr.refl w).step hb1).alloc _).1⟩
theorem known_v {n : Int} {b : Bool} (h : knownB n = b) (w : World) : Calls Try.prog 28 #[.int .i64 n] w fun e w' => e = .returned (.bool b) ∧ Below w.heap.size w w' := by
  rw [← h]; exact known19_any n w

theorem name19_any (n : Int) (w : World) :
    Calls Try.prog 29 #[.int .i64 n] w fun e w' => e = .returned (.string (nameOf19 n)) ∧ Below w.heap.size w w' := by
  cases hr : row19 n with
  | none =>
    have H : Hid (nameOf19 n = ⟨#[]⟩) := by show _ = _; unfold nameOf19; rw [hr]
    have HR := Lib.hid hr
    clear hr
    go_enter Try.func29, Try.ntmps29
    go_wp2_with fail
    refine (cat_none HR.out _).mono ?_
    rintro e w1 ⟨rfl, hb1⟩
    go_wp2
    go_ret
    exact ⟨by rw [H.out]; rfl, (((Fr.refl w).step hb1).alloc _).1⟩
  | some r =>
    have H : Hid (nameOf19 n = r.2.1) := by show _ = _; unfold nameOf19; rw [hr]
    have HR := Lib.hid hr
    clear hr
    go_enter Try.func29, Try.ntmps29
    go_wp2_with fail
    refine (cat_some HR.out _).mono ?_
    rintro e w1 ⟨rfl, hb1⟩
    go_wp2
    go_ret
    exact ⟨by rw [H.out]; rfl, (((Fr.refl w).step hb1).alloc _).1⟩

theorem least_any (n : Int) (w : World) :
    Calls Try.prog 30 #[.int .i64 n] w fun e w' => e = .returned (.int .i64 (leastOf n)) ∧ Below w.heap.size w w' := by
  cases hk : knownB n with
  | false =>
    have H : Hid (leastOf n = 3) := by show _ = _; unfold leastOf; rw [hk]; rfl
    have HK := Lib.hid hk
    clear hk
    go_enter Try.func30, Try.ntmps30
    go_wp2_with fail
    refine (known_v HK.out _).mono ?_
    rintro e w1 ⟨rfl, hb1⟩
    go_wp2
    go_ret
    exact ⟨val_i64 (by rw [H.out]), hb1⟩
  | true =>
    have H : Hid (leastOf n = n / 256 % 4) := by show _ = _; unfold leastOf; rw [hk]; rfl
    have hb : 256 ≤ n ∧ n ≤ 3860 := by
      unfold knownB at hk
      obtain ⟨r, hr⟩ := Option.isSome_iff_exists.1 hk
      exact (row19_some hr).2
    have h3 := i64_and3 (n / 256) (by omega) (by omega)
    obtain ⟨hb0, hb1⟩ := hb
    have HK := Lib.hid hk
    clear hk
    go_enter Try.func30, Try.ntmps30
    go_wp2_with fail
    refine (known_v HK.out _).mono ?_
    rintro e w1 ⟨rfl, hb1⟩
    go_wp2
    go_ret
    exact ⟨val_i64 (by rw [H.out]), hb1⟩
theorem ro_any (n : Int) (w : World) :
    Calls Try.prog 32 #[.int .i64 n] w fun e w' => e = .returned (.bool (roOf n)) ∧ Below w.heap.size w w' := by
  cases hk : knownB n with
  | false =>
    have H : Hid (roOf n = false) := by show _ = _; unfold roOf; rw [hk]; rfl
    have HK := Lib.hid hk
    clear hk
    go_enter Try.func32, Try.ntmps32
    go_wp2_with fail
    refine (known_v HK.out _).mono ?_
    rintro e w1 ⟨rfl, hb1⟩
    go_wp2
    go_ret
    exact ⟨by rw [H.out]; rfl, hb1⟩
  | true =>
    have hb : 256 ≤ n ∧ n ≤ 3860 := by
      unfold knownB at hk
      obtain ⟨r, hr⟩ := Option.isSome_iff_exists.1 hk
      exact (row19_some hr).2
    have h3 := i64_and3 (n / 1024) (by omega) (by omega)
    obtain ⟨hb0, hb1⟩ := hb
    have H : Hid (roOf n = (n / 1024 % 4 == 3)) := by show _ = _; unfold roOf; rw [hk, Bool.true_and]; rfl
    have HK := Lib.hid hk
    clear hk
    go_enter Try.func32, Try.ntmps32
    go_wp2_with fail
    refine (known_v HK.out _).mono ?_
    rintro e w1 ⟨rfl, hb1⟩
    go_wp2
    go_ret
    exact ⟨by rw [H.out]; rfl, hb1⟩
theorem run_field0 (a b c : Value) (w : World) : (Instr.field 52 (.agg #[a, b, c]) 0).run Try.prog w = .ok a w := by kernel_rfl
theorem rleast_any (n : Int) (w : World) :
    Calls Try.prog 31 #[.int .i64 n] w fun e w' => e = .returned (.int .i64 (leastOf n)) ∧ Below w.heap.size w w' := by
  have hf0 := run_field0
  cases hr : row19 n with
  | none =>
    have H : Hid (leastOf n = 3) := by show _ = _; unfold leastOf knownB; rw [hr]; rfl
    have HR := Lib.hid hr
    clear hr
    go_enter Try.func31, Try.ntmps31
    go_wp2_with fail
    refine (rof_none HR.out _).mono ?_
    rintro e w1 ⟨rfl, hb1⟩
    go_wp2
    go_ret
    exact ⟨val_i64 (by rw [H.out]), hb1⟩
  | some r =>
    have H : Hid (leastOf n = n / 256 % 4) := by show _ = _; unfold leastOf knownB; rw [hr]; rfl
    obtain ⟨-, hb0, hb1⟩ := row19_some hr
    have n0 : (n == 0) = false := by simp; omega
    have HR := Lib.hid hr
    clear hr
    go_enter Try.func31, Try.ntmps31
    go_wp2_with fail
    refine (rof_some HR.out _).mono ?_
    rintro e w1 ⟨rfl, hb1⟩
    go_wp2
    go_ret
    exact ⟨val_i64 (by rw [H.out]), hb1⟩
theorem rro_any (n : Int) (w : World) :
    Calls Try.prog 33 #[.int .i64 n] w fun e w' => e = .returned (.bool (roOf n)) ∧ Below w.heap.size w w' := by
  have hf0 := run_field0
  cases hr : row19 n with
  | none =>
    have H : Hid (roOf n = false) := by show _ = _; unfold roOf knownB; rw [hr]; rfl
    have HR := Lib.hid hr
    clear hr
    go_enter Try.func33, Try.ntmps33
    go_wp2_with fail
    refine (rof_none HR.out _).mono ?_
    rintro e w1 ⟨rfl, hb1⟩
    go_wp2
    go_ret
    exact ⟨by rw [H.out]; rfl, hb1⟩
  | some r =>
    have H : Hid (roOf n = (n / 1024 % 4 == 3)) := by show _ = _; unfold roOf knownB; rw [hr]; rfl
    obtain ⟨-, hb0, hb1⟩ := row19_some hr
    have n0 : (n != 0) = true := by simp; omega
    have HR := Lib.hid hr
    clear hr
    go_enter Try.func33, Try.ntmps33
    go_wp2_with fail
    refine (rof_some HR.out _).mono ?_
    rintro e w1 ⟨rfl, hb1⟩
    go_wp2
    go_ret
    exact ⟨by rw [H.out]; rfl, hb1⟩
set_option maxRecDepth 100000 in
set_option maxHeartbeats 2000000 in
theorem find_find (p : Int × ByteArray × Nat → Bool) (b : Nat) (w : World)
    (hcl : ∀ (r : Int × ByteArray × Nat) (wx : World), Below w.heap.size w wx → Calls Try.prog 80 #[.agg #[.int .i64 r.1, .string r.2.1, .int .u64 r.2.2], .pointer (some ⟨b, 0, none⟩)] wx fun e w' => e = .returned (.bool (p r)) ∧ Below wx.heap.size wx w') :
    Calls Try.prog 79 #[.func (.func 80) #[] #[.pointer (some ⟨b, 0, none⟩)]] w fun e w' => e = .returned (optRow (tab19.find? p)) ∧ Below w.heap.size w w' := by
  have HCL := Lib.hid hcl
  clear hcl
  go_enter Try.func79, Try.ntmps79
  go_wp2_with (go_at_call 82; refine (crows_any _).mono ?_; rintro e w' ⟨rfl, rfl⟩)
  obtain ⟨w1, hw1⟩ : ∃ w1, w1 = (w.alloc (.cells #[.int .i64 0, .string ⟨#[]⟩, .int .u64 0] 129)).alloc (.cells cells19 129) := ⟨_, rfl⟩
  have hf : Fr (w.heap.size + 1) (w.alloc (.cells #[.int .i64 0, .string ⟨#[]⟩, .int .u64 0] 129)) w1 := by rw [hw1]; simpa using (Fr.refl (w.alloc (.cells #[.int .i64 0, .string ⟨#[]⟩, .int .u64 0] 129))).alloc _
  have hh : w1.heap[w.heap.size + 1]? = some (.cells cells19 129) := by rw [hw1]; simpa using @heap_alloc_new (w.alloc (.cells #[.int .i64 0, .string ⟨#[]⟩, .int .u64 0] 129)) (.cells cells19 129)
  rw [← hw1]
  clear hw1
  go_loopw [8] (fun i wr => ∃ k : Nat, k ≤ 34 ∧ i = .int .i64 k ∧ Hid ((tab19.drop k).find? p = tab19.find? p) ∧ Fr (w.heap.size + 1) (w.alloc (.cells #[.int .i64 0, .string ⟨#[]⟩, .int .u64 0] 129)) wr ∧ wr.heap[w.heap.size + 1]? = some (.cells cells19 129)) (fun i _ => 34 - (intOf i).toNat)
  case atStart => exact ⟨0, by omega, rfl, rfl, hf, hh⟩
  case round =>
    obtain ⟨k, hk, rfl, H, hfr, hhr⟩ := hrel
    have hr0 : wr.heap[w.heap.size]? = some (.cells #[.int .i64 0, .string ⟨#[]⟩, .int .u64 0] 129) := heapAt hfr.1 (heap_alloc_new _ _) (by omega)
    obtain ⟨z0, z1, z2, zl, zf⟩ := known3 hr0
    have hB := fr_out' hfr
    by_cases hlt : k < 34
    · obtain ⟨c0, c1, c2⟩ := cells19_at hhr k hlt
      obtain ⟨r, hr⟩ : ∃ r, r = tab19.getD k default := ⟨_, rfl⟩
      have HS := step19 p k hlt
      rw [← hr] at c0 c1 c2 HS
      have HH : Hid (tab19.find? p = if p r = true then some r else (tab19.drop (k + 1)).find? p) := by rw [← H.out]; exact HS
      clear HS hr H
      go_wp2_with fail
      refine (HCL.out r _ (hB.alloc _).1).mono ?_
      rintro e w2 ⟨rfl, hb2⟩
      have hnew := keepB hb2 (heap_alloc_new _ _)
      have hold := keepB hb2 (keep_alloc hr0 _)
      have htab := keepB hb2 (keep_alloc hhr _)
      obtain ⟨y0, y1, y2, yl, yf⟩ := known3 hold
      obtain ⟨n0, n1, n2, nl, nf⟩ := known3 hnew
      have hC := (hB.alloc (.cells #[.int .i64 r.1, .string r.2.1, .int .u64 r.2.2] 129)).step hb2
      go_wp2
      · have h1 : p r = true := by assumption
        refine bodyPost_ret (v := .tuple #[.agg #[.int .i64 r.1, .string r.2.1, .int .u64 r.2.2], .bool true]) (by simp [results, Try.results79, go_sem, y0, y1, y2, yl]) rfl ⟨?_, ?_⟩
        · rw [HH.out, if_pos h1]; rfl
        · refine Fr.below ?_; repeat (first | exact hC | refine Fr.alloc ?_ _ | refine Fr.drew ?_ | refine Fr.setCell ?_ (by simp) _)
      · have h1 : p r = false := by assumption
        go_roundw
        case rel => exact ⟨k + 1, by omega, by go_num, by rw [HH.out, if_neg (by rw [h1]; simp)]; rfl, (hfr.alloc _).step hb2, htab⟩
        case measure => simp [intOf]; omega
    · obtain rfl : k = 34 := by omega
      go_wp2
      refine bodyPost_ret (v := .tuple #[.agg #[.int .i64 0, .string ⟨#[]⟩, .int .u64 0], .bool false]) (by simp [results, Try.results79, go_sem, z0, z1, z2, zl]) rfl ⟨?_, ?_⟩
      · rw [← H.out]; rfl
      · refine Fr.below ?_; repeat (first | exact hB | refine Fr.alloc ?_ _ | refine Fr.drew ?_ | refine Fr.setCell ?_ (by simp) _)


theorem find1_any (s u : ByteArray) (m : Int) (x : Nat) (b : Nat) (w : World) (hb : w.cell? ⟨b, 0, none⟩ = some (.string u)) :
    Calls Try.prog 80 #[.agg #[.int .i64 m, .string s, .int .u64 (x : Int)], .pointer (some ⟨b, 0, none⟩)] w fun e w' => e = .returned (.bool (s.toList == u.toList)) ∧ Below w.heap.size w w' := by
  have hlt := (hcell' (Below.refl _ w) hb).1
  go_enter Try.func80, Try.ntmps80
  go_wp2
  go_ret
  exact ⟨rfl, ((Fr.refl w).alloc _).1⟩

def numOf (l : List UInt8) : Int := match name19 l with | some r => r.1 | none => 0
theorem numOf_known (l : List UInt8) : (name19 l).isSome = (numOf l != 0) := by
  unfold numOf
  cases h : name19 l with
  | none => rfl
  | some r =>
    have h2 := tab_range r (List.mem_of_find?_eq_some h)
    simp
    omega

theorem cfind19_any (s : ByteArray) (w : World) :
    Calls Try.prog 26 #[.string s] w fun e w' => e = .returned (.tuple #[.int .i64 (numOf s.toList), .bool (numOf s.toList != 0)]) ∧ Below w.heap.size w w' := by
  obtain ⟨r1, r2, hr⟩ : ∃ (s' : ByteArray) (x : Nat), optRow (name19 s.toList) = .tuple #[.agg #[.int .i64 (numOf s.toList), .string s', .int .u64 (x : Int)], .bool (numOf s.toList != 0)] := by
    rw [← numOf_known]
    unfold numOf
    cases name19 s.toList with
    | none => exact ⟨⟨#[]⟩, 0, rfl⟩
    | some r => exact ⟨r.2.1, r.2.2, rfl⟩
  have HR := Lib.hid hr
  clear hr
  go_enter Try.func26, Try.ntmps26
  go_wp2_with fail
  have hcell0 : (w.alloc (.cells #[.string s] 9)).cell? ⟨w.heap.size, 0, none⟩ = some (.string s) := by
    rw [cell_at (heap_alloc_new w (.cells #[.string s] 9))]; rfl
  refine (find_find (fun r => r.2.1.toList == s.toList) w.heap.size _ (fun r wx hbx => ?_)).mono ?_
  · have hc := (hbx.cell (p := ⟨w.heap.size, 0, none⟩) (by simp)).trans hcell0
    exact find1_any r.2.1 s r.1 r.2.2 w.heap.size wx hc
  rw [show tab19.find? (fun r => r.2.1.toList == s.toList) = name19 s.toList from rfl, HR.out]
  rintro e w1 ⟨rfl, hb1⟩
  have hC := ((Fr.refl w).alloc _).step hb1
  go_wp2
  go_ret2
  exact ⟨rfl, (hC.alloc _).1⟩

set_option maxRecDepth 100000 in
set_option maxHeartbeats 2000000 in
theorem number_any (s : ByteArray) (w : World) :
    Calls Try.prog 27 #[.string s] w fun e w' => e = .returned (.int .i64 (numOf s.toList)) ∧ Below w.heap.size w w' := by
  go_enter Try.func27, Try.ntmps27
  go_wp2_with (go_at_call 37; refine (rrows_any _).mono ?_; rintro e w' ⟨rfl, rfl⟩)
  obtain ⟨w1, hw1⟩ : ∃ w1, w1 = w.alloc (.cells cells19 52) := ⟨_, rfl⟩
  have hf : Fr w.heap.size w w1 := by rw [hw1]; exact (Fr.refl w).alloc _
  have hh : w1.heap[w.heap.size]? = some (.cells cells19 52) := by rw [hw1]; exact heap_alloc_new _ _
  rw [← hw1]
  clear hw1
  go_loop [4] (fun i => ∃ k : Nat, k ≤ 34 ∧ i = .int .i64 k ∧ Hid ((tab19.drop k).find? (fun r => r.2.1.toList == s.toList) = name19 s.toList)) (fun i => 34 - (intOf i).toNat)
  case atStart => exact ⟨0, by omega, rfl, rfl⟩
  case round =>
    obtain ⟨k, hk, rfl, H⟩ := hrel
    by_cases hlt : k < 34
    · obtain ⟨c0, c1, c2⟩ := cells19_at hh k hlt
      obtain ⟨r, hr⟩ : ∃ r, r = tab19.getD k default := ⟨_, rfl⟩
      have HS := step19 (fun r => r.2.1.toList == s.toList) k hlt
      rw [← hr] at c0 c1 c2 HS
      have HH : Hid (name19 s.toList = if (r.2.1.toList == s.toList) = true then some r else (tab19.drop (k + 1)).find? (fun r => r.2.1.toList == s.toList)) := by rw [← H.out]; exact HS
      clear HS hr H
      go_wp2
      · have h1 : (r.2.1.toList == s.toList) = true := by assumption
        go_ret
        exact ⟨by unfold numOf; rw [HH.out, if_pos h1]; rfl, hf.1⟩
      · have h1 : (r.2.1.toList == s.toList) = false := by assumption
        go_round
        case rel => exact ⟨k + 1, by omega, by go_num, by rw [HH.out, if_neg (by rw [h1]; simp)]; rfl⟩
        case measure => simp [intOf]; omega
    · obtain rfl : k = 34 := by omega
      go_wp2
      go_ret
      exact ⟨by unfold numOf; rw [← H.out]; rfl, hf.1⟩
end Go.Proofs.Ythkkfdhgpaonjaa
/- The contracts of csr.May and the document's. -/
namespace Go.Proofs.Ythkkfdhgpaonjaa
open Go.RowKit
set_option linter.unusedSimpArgs false
set_option linter.unusedVariables false

theorem least_v {n m : Int} (h : leastOf n = m) (w : World) : Calls Try.prog 30 #[.int .i64 n] w fun e w' => e = .returned (.int .i64 m) ∧ Below w.heap.size w w' := by
  rw [← h]; exact least_any n w
theorem ro_v {n : Int} {b : Bool} (h : roOf n = b) (w : World) : Calls Try.prog 32 #[.int .i64 n] w fun e w' => e = .returned (.bool b) ∧ Below w.heap.size w w' := by
  rw [← h]; exact ro_any n w
theorem rleast_v {n m : Int} (h : leastOf n = m) (w : World) : Calls Try.prog 31 #[.int .i64 n] w fun e w' => e = .returned (.int .i64 m) ∧ Below w.heap.size w w' := by
  rw [← h]; exact rleast_any n w
theorem rro_v {n : Int} {b : Bool} (h : roOf n = b) (w : World) : Calls Try.prog 33 #[.int .i64 n] w fun e w' => e = .returned (.bool b) ∧ Below w.heap.size w w' := by
  rw [← h]; exact rro_any n w

theorem mayB_unk {n p : Int} {wr : Bool} (h : knownB n = false) : mayB n p wr = false := by unfold mayB; rw [h]; simp
theorem mayB_p {n p : Int} {wr : Bool} (h0 : p ≠ 0) (h1 : p ≠ 1) (h3 : p ≠ 3) : mayB n p wr = false := by unfold mayB; simp [h0, h1, h3]
theorem mayB_less {n p m : Int} {wr : Bool} (hm : leastOf n = m) (h : p < m) : mayB n p wr = false := by
  unfold mayB; rw [hm, show decide (m ≤ p) = false by simp; omega]; simp
theorem mayB_yes {n p m : Int} {wr : Bool} (hp : p = 0 ∨ p = 1 ∨ p = 3) (hk : knownB n = true) (hm : leastOf n = m) (h : m ≤ p) : mayB n p wr = !(wr && roOf n) := by
  unfold mayB; rw [hm, hk, show decide (m ≤ p) = true by simp; omega]
  rcases hp with rfl | rfl | rfl <;> simp

theorem may_p (n p : Int) (wr : Bool) (w : World) (hp : p = 0 ∨ p = 1 ∨ p = 3) :
    Calls Try.prog 34 #[.int .i64 n, .int .i64 p, .bool wr] w fun e w' => e = .returned (.bool (mayB n p wr)) ∧ Below w.heap.size w w' := by
  have hp' := hp
  cases hk : knownB n with
  | false =>
    have H : Hid (mayB n p wr = false) := mayB_unk hk
    have HK := Lib.hid hk
    clear hk hp'
    rcases hp with rfl | rfl | rfl <;>
    · go_enter Try.func34, Try.ntmps34
      go_wp2_with fail
      refine (known_v HK.out _).mono ?_
      rintro e w1 ⟨rfl, hb1⟩
      go_wp2
      go_ret
      exact ⟨by rw [H.out] <;> rfl, hb1⟩
  | true =>
    obtain ⟨m, hm⟩ : ∃ m, leastOf n = m := ⟨_, rfl⟩
    obtain ⟨o, ho⟩ : ∃ o, roOf n = o := ⟨_, rfl⟩
    by_cases hle : m ≤ p
    · have H : Hid (mayB n p wr = !(wr && o)) := by rw [← ho]; exact mayB_yes hp hk hm hle
      have HK := Lib.hid hk
      have HM := Lib.hid hm
      have HO := Lib.hid ho
      clear hk hm ho hp'
      cases wr
      · rcases hp with rfl | rfl | rfl <;>
        · go_enter Try.func34, Try.ntmps34
          go_wp2_with fail
          refine (known_v HK.out _).mono ?_
          rintro e w1 ⟨rfl, hb1⟩
          go_wp2_with fail
          refine (least_v HM.out _).mono ?_
          rintro e w2 ⟨rfl, hb2⟩
          go_wp2
          go_ret
          exact ⟨by rw [H.out]; rfl, (((Fr.refl w).step hb1).step hb2).1⟩
      · rcases hp with rfl | rfl | rfl <;>
        · go_enter Try.func34, Try.ntmps34
          go_wp2_with fail
          refine (known_v HK.out _).mono ?_
          rintro e w1 ⟨rfl, hb1⟩
          go_wp2_with fail
          refine (least_v HM.out _).mono ?_
          rintro e w2 ⟨rfl, hb2⟩
          go_wp2_with fail
          refine (ro_v HO.out _).mono ?_
          rintro e w3 ⟨rfl, hb3⟩
          go_wp2
          go_ret
          exact ⟨by rw [H.out]; simp, ((((Fr.refl w).step hb1).step hb2).step hb3).1⟩
    · have H : Hid (mayB n p wr = false) := mayB_less hm (by omega)
      have HK := Lib.hid hk
      have HM := Lib.hid hm
      clear hk hm ho hp'
      rcases hp with rfl | rfl | rfl <;>
      · go_enter Try.func34, Try.ntmps34
        go_wp2_with fail
        refine (known_v HK.out _).mono ?_
        rintro e w1 ⟨rfl, hb1⟩
        go_wp2_with fail
        refine (least_v HM.out _).mono ?_
        rintro e w2 ⟨rfl, hb2⟩
        go_wp2
        go_ret
        exact ⟨by rw [H.out] <;> rfl, (((Fr.refl w).step hb1).step hb2).1⟩

theorem may19_any (n p : Int) (wr : Bool) (w : World) :
    Calls Try.prog 34 #[.int .i64 n, .int .i64 p, .bool wr] w fun e w' => e = .returned (.bool (mayB n p wr)) ∧ Below w.heap.size w w' := by
  by_cases h0 : p = 0
  · exact may_p n p wr w (Or.inl h0)
  by_cases h1 : p = 1
  · exact may_p n p wr w (Or.inr (Or.inl h1))
  by_cases h3 : p = 3
  · exact may_p n p wr w (Or.inr (Or.inr h3))
  have H : Hid (mayB n p wr = false) := mayB_p h0 h1 h3
  have e0 : (p == 0) = false := by simpa using h0
  have e1 : (p == 1) = false := by simpa using h1
  have e3 : (p == 3) = false := by simpa using h3
  go_enter Try.func34, Try.ntmps34
  go_wp2
  go_ret
  exact ⟨by rw [H.out] <;> rfl, Below.refl _ _⟩

theorem rmay_p (n p : Int) (wr : Bool) (w : World) (hp : p = 0 ∨ p = 1 ∨ p = 3) :
    Calls Try.prog 35 #[.int .i64 n, .int .i64 p, .bool wr] w fun e w' => e = .returned (.bool (mayB n p wr)) ∧ Below w.heap.size w w' := by
  have hf0 := run_field0
  have hp' := hp
  cases hr : row19 n with
  | none =>
    have H : Hid (mayB n p wr = false) := mayB_unk (by unfold knownB; rw [hr]; rfl)
    have HR := Lib.hid hr
    clear hr hp'
    rcases hp with rfl | rfl | rfl <;>
    · go_enter Try.func35, Try.ntmps35
      go_wp2_with fail
      refine (rof_none HR.out _).mono ?_
      rintro e w1 ⟨rfl, hb1⟩
      go_wp2
      go_ret
      exact ⟨by rw [H.out] <;> rfl, hb1⟩
  | some r =>
    have hk : knownB n = true := by unfold knownB; rw [hr]; rfl
    obtain ⟨-, hb0, hb1⟩ := row19_some hr
    have n0 : (n == 0) = false := by simp; omega
    obtain ⟨m, hm⟩ : ∃ m, leastOf n = m := ⟨_, rfl⟩
    obtain ⟨o, ho⟩ : ∃ o, roOf n = o := ⟨_, rfl⟩
    by_cases hle : m ≤ p
    · have H : Hid (mayB n p wr = !(wr && o)) := by rw [← ho]; exact mayB_yes hp hk hm hle
      have HR := Lib.hid hr
      have HM := Lib.hid hm
      have HO := Lib.hid ho
      clear hk hm ho hp' hr
      cases wr
      · rcases hp with rfl | rfl | rfl <;>
        · go_enter Try.func35, Try.ntmps35
          go_wp2_with fail
          refine (rof_some HR.out _).mono ?_
          rintro e w1 ⟨rfl, hb1⟩
          go_wp2_with fail
          refine (rleast_v HM.out _).mono ?_
          rintro e w2 ⟨rfl, hb2⟩
          go_wp2
          go_ret
          exact ⟨by rw [H.out]; rfl, (((Fr.refl w).step hb1).step hb2).1⟩
      · rcases hp with rfl | rfl | rfl <;>
        · go_enter Try.func35, Try.ntmps35
          go_wp2_with fail
          refine (rof_some HR.out _).mono ?_
          rintro e w1 ⟨rfl, hb1⟩
          go_wp2_with fail
          refine (rleast_v HM.out _).mono ?_
          rintro e w2 ⟨rfl, hb2⟩
          go_wp2_with fail
          refine (rro_v HO.out _).mono ?_
          rintro e w3 ⟨rfl, hb3⟩
          go_wp2
          go_ret
          exact ⟨by rw [H.out]; simp, ((((Fr.refl w).step hb1).step hb2).step hb3).1⟩
    · have H : Hid (mayB n p wr = false) := mayB_less hm (by omega)
      have HR := Lib.hid hr
      have HM := Lib.hid hm
      clear hk hm ho hp' hr
      rcases hp with rfl | rfl | rfl <;>
      · go_enter Try.func35, Try.ntmps35
        go_wp2_with fail
        refine (rof_some HR.out _).mono ?_
        rintro e w1 ⟨rfl, hb1⟩
        go_wp2_with fail
        refine (rleast_v HM.out _).mono ?_
        rintro e w2 ⟨rfl, hb2⟩
        go_wp2
        go_ret
        exact ⟨by rw [H.out] <;> rfl, (((Fr.refl w).step hb1).step hb2).1⟩

theorem rmay_any (n p : Int) (wr : Bool) (w : World) :
    Calls Try.prog 35 #[.int .i64 n, .int .i64 p, .bool wr] w fun e w' => e = .returned (.bool (mayB n p wr)) ∧ Below w.heap.size w w' := by
  by_cases h0 : p = 0
  · exact rmay_p n p wr w (Or.inl h0)
  by_cases h1 : p = 1
  · exact rmay_p n p wr w (Or.inr (Or.inl h1))
  by_cases h3 : p = 3
  · exact rmay_p n p wr w (Or.inr (Or.inr h3))
  have H : Hid (mayB n p wr = false) := mayB_p h0 h1 h3
  have e0 : (p != 0) = true := by simpa using h0
  have e1 : (p != 1) = true := by simpa using h1
  have e3 : (p != 3) = true := by simpa using h3
  go_enter Try.func35, Try.ntmps35
  go_wp2
  go_ret
  exact ⟨by rw [H.out] <;> rfl, Below.refl _ _⟩
end Go.Proofs.Ythkkfdhgpaonjaa
/- Plain facts of what a CSR becomes, and the chapter's examples. -/
namespace Go.Proofs.Ythkkfdhgpaonjaa
open Go.RowKit
set_option linter.unusedSimpArgs false
set_option linter.unusedVariables false

theorem bblend_bit (x v m i : Nat) (hi : i < 64) : (blend x v m).testBit i = if m.testBit i then v.testBit i else x.testBit i := by
  unfold blend
  rw [mkW_bit]
  simp [hi]
theorem bfix_bit (x o i : Nat) (hi : i < 64) : (mppFix x o).testBit i = if i = 11 ∨ i = 12 then o.testBit i else x.testBit i := by
  unfold mppFix
  rw [mkW_bit]
  simp [hi]
theorem mppFix_lt (x o : Nat) : mppFix x o < 18446744073709551616 := W64_lt _
theorem ext64 {a b : Nat} (ha : a < 18446744073709551616) (hb : b < 18446744073709551616) (h : ∀ i, i < 64 → a.testBit i = b.testBit i) : a = b := by
  apply Nat.eq_of_testBit_eq
  intro i
  by_cases hi : i < 64
  · exact h i hi
  · rw [tb_big a ha i (by omega), tb_big b hb i (by omega)]
theorem blend_self (x m : Nat) (hx : x < 18446744073709551616) : blend x x m = x :=
  ext64 (blend_lt _ _ _) hx fun i hi => by rw [bblend_bit _ _ _ _ hi]; split <;> rfl
theorem fix_self (x : Nat) (hx : x < 18446744073709551616) : mppFix x x = x :=
  ext64 (mppFix_lt _ _) hx fun i hi => by rw [bfix_bit _ _ _ hi]; split <;> rfl
theorem blend_again (o v m : Nat) : blend o (blend o v m) m = blend o v m :=
  ext64 (blend_lt _ _ _) (blend_lt _ _ _) fun i hi => by rw [bblend_bit _ _ _ _ hi, bblend_bit _ _ _ _ hi]; split <;> rfl
theorem mask768 : mask19 768 = 8264106 := by decide
theorem m768_11 : Nat.testBit 8264106 11 = true := by decide
theorem m768_12 : Nat.testBit 8264106 12 = true := by decide

theorem legal_self (n : Int) (x : Nat) (hx : x < 18446744073709551616) : legalOf n x x = x := by
  unfold legalOf
  rw [blend_self x _ hx]
  split
  · split
    · exact fix_self x hx
    · rfl
  · split
    · split <;> rfl
    · rfl

theorem blend_fix (o B m : Nat) (h11 : m.testBit 11 = true) (h12 : m.testBit 12 = true) (hB : ∀ i, i < 64 → m.testBit i = false → B.testBit i = o.testBit i) : blend o (mppFix B o) m = mppFix B o := by
  refine ext64 (blend_lt _ _ _) (mppFix_lt _ _) fun i hi => ?_
  rw [bblend_bit _ _ _ _ hi]
  split
  · rfl
  · rename_i hm
    rw [bfix_bit _ _ _ hi]
    have hm' : m.testBit i = false := by simpa using hm
    split
    · rfl
    · exact (hB i hi hm').symm
theorem fix_fix (B o : Nat) : mppFix (mppFix B o) o = mppFix B o := by
  refine ext64 (mppFix_lt _ _) (mppFix_lt _ _) fun i hi => ?_
  rw [bfix_bit _ _ _ hi, bfix_bit _ _ _ hi]
  split <;> rfl
theorem blend_out (o v m i : Nat) (hi : i < 64) (hm : m.testBit i = false) : (blend o v m).testBit i = o.testBit i := by
  rw [bblend_bit _ _ _ _ hi, hm]; rfl

theorem legal_again (n : Int) (o v : Nat) (ho : o < 18446744073709551616) : legalOf n o (legalOf n o v) = legalOf n o v := by
  unfold legalOf
  by_cases h1 : n = 768
  · subst h1
    simp only [if_pos]
    rw [mask768]
    by_cases hc : (blend o v 8264106).testBit 12 = true ∧ (blend o v 8264106).testBit 11 = false
    · rw [if_pos hc, blend_fix o _ _ m768_11 m768_12 (fun i hi hm => blend_out o v _ i hi hm)]
      split
      · exact fix_fix _ _
      · rfl
    · rw [if_neg hc, blend_again, if_neg hc]
  · simp only [if_neg h1]
    by_cases h2 : n = 384
    · subst h2
      simp only [if_pos]
      by_cases hc : blend o v (mask19 384) / 2 ^ 60 = 0 ∨ blend o v (mask19 384) / 2 ^ 60 = 8
      · rw [if_pos hc, blend_again, if_pos hc]
      · rw [if_neg hc, blend_self o _ ho]
        split <;> rfl
    · simp only [if_neg h2]
      exact blend_again _ _ _

theorem legal_out (n : Int) (o v i : Nat) (hi : i < 64) (hm : (mask19 n).testBit i = false) : (legalOf n o v).testBit i = o.testBit i := by
  have hB := blend_out o v (mask19 n) i hi hm
  unfold legalOf
  split
  · split
    · rw [bfix_bit _ _ _ hi]
      split
      · rfl
      · exact hB
    · exact hB
  · split
    · split
      · exact hB
      · rfl
    · exact hB
theorem legal_only (n : Int) (o v : Nat) (ho : o < 18446744073709551616) :
    bits BinOp.andNot IntKind.u64 (bits BinOp.xor IntKind.u64 ((legalOf n o v : Nat) : Int) (o : Int)) ((mask19 n : Nat) : Int) = 0 := by
  have hx := legalOf_lt n o v ho
  rw [u64_xor_nat _ _ hx ho, u64_andNot_nat _ _ (Nat.xor_lt_two_pow (n := 64) hx ho) (mask19_lt n)]
  have e : (legalOf n o v ^^^ o) &&& (18446744073709551615 - mask19 n) = 0 := by
    refine ext64 (Nat.lt_of_le_of_lt Nat.and_le_left (Nat.xor_lt_two_pow (n := 64) hx ho)) (by omega) fun i hi => ?_
    rw [Nat.testBit_and, Nat.testBit_xor, inv_bit _ _ (mask19_lt n) hi, Nat.zero_testBit]
    cases hm : (mask19 n).testBit i with
    | true => simp
    | false => rw [legal_out n o v i hi hm]; simp
  rw [e]; rfl

theorem lv1 : legalOf 773 0 7 = 5 := by decide +kernel
theorem lv2 : legalOf 768 0 18446744073709551615 = 8264106 := by decide +kernel
theorem lv3 : legalOf 768 0 4096 = 0 := by decide +kernel
theorem lv4 : legalOf 384 5 1152921504606846976 = 5 := by decide +kernel
theorem lv5 : mayB 3073 0 false = true := by decide +kernel
theorem legal_v {n : Int} {o v r : Nat} (h : legalOf n o v = r) (w : World) (ho : o < 18446744073709551616) (hv : v < 18446744073709551616) :
    Calls Try.prog 21 #[.int .i64 n, .int .u64 (o : Int), .int .u64 (v : Int)] w fun e w' => e = .returned (.int .u64 (r : Int)) ∧ Below w.heap.size w w' := by
  rw [← h]; exact legal_any n o v w ho hv
theorem may_v {n p : Int} {wr b : Bool} (h : mayB n p wr = b) (w : World) : Calls Try.prog 34 #[.int .i64 n, .int .i64 p, .bool wr] w fun e w' => e = .returned (.bool b) ∧ Below w.heap.size w w' := by
  rw [← h]; exact may19_any n p wr w
theorem rmay_v {n p : Int} {wr b : Bool} (h : mayB n p wr = b) (w : World) : Calls Try.prog 35 #[.int .i64 n, .int .i64 p, .bool wr] w fun e w' => e = .returned (.bool b) ∧ Below w.heap.size w w' := by
  rw [← h]; exact rmay_any n p wr w

theorem live19_any (w : World) : Calls Try.prog 24 #[] w fun e w' => e = .returned (.bool true) ∧ Below w.heap.size w w' := by
  go_enter Try.func24, Try.ntmps24
  go_wp2_with fail
  refine (legal_v lv1 _ (by omega) (by omega)).mono ?_
  rintro e w1 ⟨rfl, hb1⟩
  go_wp2_with fail
  refine (legal_v lv2 _ (by omega) (by omega)).mono ?_
  rintro e w2 ⟨rfl, hb2⟩
  go_wp2_with fail
  refine (legal_v lv3 _ (by omega) (by omega)).mono ?_
  rintro e w3 ⟨rfl, hb3⟩
  go_wp2_with fail
  refine (legal_v lv4 _ (by omega) (by omega)).mono ?_
  rintro e w4 ⟨rfl, hb4⟩
  go_wp2_with fail
  refine (may_v lv5 _).mono ?_
  rintro e w5 ⟨rfl, hb5⟩
  go_wp2
  go_ret
  exact ⟨rfl, ((((((Fr.refl w).step hb1).step hb2).step hb3).step hb4).step hb5).1⟩

theorem rlegal_v {n : Int} {o v r : Nat} (h : legalOf n o v = r) (w : World) (ho : o < 18446744073709551616) (hv : v < 18446744073709551616) :
    Calls Try.prog 22 #[.int .i64 n, .int .u64 (o : Int), .int .u64 (v : Int)] w fun e w' => e = .returned (.int .u64 (r : Int)) ∧ Below w.heap.size w w' := by
  rw [← h]; exact rlegal_any n o v w ho hv
theorem mask_v {n : Int} {m : Nat} (h : mask19 n = m) (w : World) : Calls Try.prog 23 #[.int .i64 n] w fun e w' => e = .returned (.int .u64 (m : Int)) ∧ Below w.heap.size w w' := by
  rw [← h]; exact mask_any n w

theorem becomes_any (n : Int) (o v : Nat) (ho : o < 18446744073709551616) (hv : v < 18446744073709551616) (w : World) :
    Calls Try.prog 4 #[.int .i64 n, .int .u64 (o : Int), .int .u64 (v : Int)] w fun e w' => e = .returned (.bool true) ∧ Below w.heap.size w w' := by
  have hx := legalOf_lt n o v ho
  have h1 := legal_self n (legalOf n o v) hx
  have h2 := legal_again n o v ho
  have h3 := legal_only n o v ho
  obtain ⟨x, hX⟩ : ∃ x, legalOf n o v = x := ⟨_, rfl⟩
  obtain ⟨m, hM⟩ : ∃ m, mask19 n = m := ⟨_, rfl⟩
  rw [hX] at hx h1 h2 h3
  rw [hM] at h3
  have HX := Lib.hid hX
  have HM := Lib.hid hM
  have H1 := Lib.hid h1
  have H2 := Lib.hid h2
  clear hX hM h1 h2
  go_enter Try.func4, Try.ntmps4
  go_wp2_with fail
  refine (legal_v HX.out _ ho hv).mono ?_
  rintro e w1 ⟨rfl, hb1⟩
  go_wp2_with fail
  refine (rlegal_v HX.out _ ho hv).mono ?_
  rintro e w2 ⟨rfl, hb2⟩
  go_wp2_with fail
  refine (legal_v H1.out _ hx hx).mono ?_
  rintro e w3 ⟨rfl, hb3⟩
  go_wp2_with fail
  refine (legal_v H2.out _ ho hx).mono ?_
  rintro e w4 ⟨rfl, hb4⟩
  go_wp2_with fail
  refine (mask_v HM.out _).mono ?_
  rintro e w5 ⟨rfl, hb5⟩
  go_wp2_with fail
  refine (live19_any _).mono ?_
  rintro e w6 ⟨rfl, hb6⟩
  go_wp2
  go_ret
  exact ⟨rfl, (((((((Fr.refl w).step hb1).step hb2).step hb3).step hb4).step hb5).step hb6).1⟩
end Go.Proofs.Ythkkfdhgpaonjaa
