/- The contract of roebuckref19.Legal. -/
import Derived.Test.YthkkfdhgpaonjaaCsrB
namespace Go.Proofs.Ythkkfdhgpaonjaa
open Go.RowKit
set_option linter.unusedSimpArgs false
set_option linter.unusedVariables false

theorem rrow_form (n : Int) : ∃ (a : Int) (s : ByteArray), rrowV n = .agg #[.int .i64 a, .string s, .int .u64 (mask19 n : Nat)] := by
  unfold mask19 rrowV
  cases row19 n with
  | none => exact ⟨0, ⟨#[]⟩, rfl⟩
  | some r => exact ⟨r.1, r.2.1, rfl⟩

theorem cut60 (X : Nat) (hX : X < 18446744073709551616) : W64 (cutF X 60 4) = X / 2 ^ 60 := by
  symm
  refine W64_eq (Nat.lt_of_le_of_lt (Nat.div_le_self _ _) hX) fun i hi => ?_
  rw [Nat.testBit_div_two_pow]
  unfold cutF
  by_cases h : i < 4
  · have e1 : decide ((i : Int) < 4) = true := by simp; omega
    have e2 : decide (0 ≤ 60 + (i : Int)) = true := by simp; omega
    have e3 : decide (60 + (i : Int) < 64) = true := by simp; omega
    rw [e1, e2, e3, show (60 + (i : Int)).toNat = i + 60 by omega]
    simp
  · have e1 : decide ((i : Int) < 4) = false := by simp; omega
    rw [e1, tb_big X hX _ (by omega)]
    simp
theorem b11c : IntB 11 := by unfold IntB; omega
theorem b2c : IntB 2 := by unfold IntB; omega
theorem put_cut (X old : Nat) (hX : X < 18446744073709551616) : W64 (putF X (W64 (cutF old 11 2)) 11 2) = mppFix X old := by
  refine W64_congr fun i hi => ?_
  unfold putF inB
  by_cases h : i = 11 ∨ i = 12
  · rw [if_pos h, if_pos (by rcases h with rfl | rfl <;> decide), mkW_bit]
    unfold cutF
    rcases h with rfl | rfl <;> simp
  · rw [if_neg h, if_neg (by simp; omega)]

theorem run_field2 (a b c : Value) (w : World) : (Instr.field 52 (.agg #[a, b, c]) 2).run Try.prog w = .ok c w := by kernel_rfl

theorem own_push' {f : Nat → Bool} {k : Nat} {t : Nat} (h : (f k).toNat = t) : ((List.range (k + 1)).map fun j => Value.int .u64 ((f j).toNat : Nat)) = ((List.range k).map fun j => Value.int .u64 ((f j).toNat : Nat)) ++ [Value.int .u64 (t : Int)] := by
  rw [own_push, h]

theorem b60 : IntB 60 := by unfold IntB; omega
theorem b4 : IntB 4 := by unfold IntB; omega

set_option maxRecDepth 100000 in
set_option maxHeartbeats 4000000 in
theorem rlegal_any (n : Int) (old v : Nat) (w : World) (ho : old < 18446744073709551616) (hv : v < 18446744073709551616) :
    Calls Try.prog 22 #[.int .i64 n, .int .u64 (old : Int), .int .u64 (v : Int)] w fun e w' => e = .returned (.int .u64 (legalOf n old v : Nat)) ∧ Below w.heap.size w w' := by
  obtain ⟨i0, hi, hz0, hz1, hz2⟩ := info_parts info_u64
  obtain ⟨ra, rs, hr⟩ := rrow_form n
  have HR := Lib.hid hr
  clear hr
  have hm := mask19_lt n
  have hX := blend_lt old v (mask19 n)
  have hL : Hid (legalOf n old v = if n = 768 then (if (blend old v (mask19 n)).testBit 12 = true ∧ (blend old v (mask19 n)).testBit 11 = false then mppFix (blend old v (mask19 n)) old else blend old v (mask19 n))
    else if n = 384 then (if blend old v (mask19 n) / 2 ^ 60 = 0 ∨ blend old v (mask19 n) / 2 ^ 60 = 8 then blend old v (mask19 n) else old) else blend old v (mask19 n)) := rfl
  go_enter Try.func22, Try.ntmps22
  go_wp2_with fail
  refine (rof_row n _).mono ?_
  rw [HR.out]
  rintro e w1 ⟨rfl, hb1⟩
  obtain ⟨m, hmm⟩ : ∃ m, mask19 n = m := ⟨_, rfl⟩
  rw [hmm] at hm hX hL ⊢
  clear hmm
  have hF0 := (Fr.refl w).step hb1
  have hfd := run_field2
  go_wp2
  go_loopw [8, 9] (fun v' i wr => ∃ k : Nat, k ≤ 64 ∧ i = .int .i64 k ∧ wr.ownsRow w.heap.size 25 1 v' k ((List.range k).map fun j => Value.int .u64 (((fun i => if m.testBit i then v.testBit i else old.testBit i) j).toNat : Nat)) ∧ Fr w.heap.size w wr) (fun _ i _ => 64 - (intOf i).toNat)
  case atStart => exact ⟨0, by omega, rfl, World.ownsRow_nil _ _ _ _, hF0⟩
  case round =>
    obtain ⟨k, hk, rfl, hown, hfr⟩ := hrel
    by_cases hlt : k < 64
    · have bk : ∀ (y : Nat), y < 18446744073709551616 → bitN y (k : Int) = (y.testBit k).toNat := fun y hy => by rw [bitN_big y hy _ (by omega)]; simp
      have bm := Lib.hid (bk m hm)
      have bv := Lib.hid (bk v hv)
      have bo := Lib.hid (bk old ho)
      clear bk
      cases hmk : m.testBit k
      · have BM : Hid (bitN m (k : Int) = 0) := by show _ = _; rw [bm.out, hmk]; rfl
        have HP := Lib.hid (own_push' (f := fun i => if m.testBit i then v.testBit i else old.testBit i) (k := k) (t := (old.testBit k).toNat) (by simp [hmk]))
        have HMK := Lib.hid hmk
        clear hmk bm
        obtain ⟨t, ht⟩ : ∃ t, t = (old.testBit k).toNat := ⟨_, rfl⟩
        rw [← ht] at bo HP
        clear ht
        go_wp2_with fail
        refine (bit_v BM.out _ hm).mono ?_
        rintro e w' ⟨rfl, rfl⟩
        go_wp2_with fail
        refine (bit_v bo.out _ ho).mono ?_
        rintro e w' ⟨rfl, rfl⟩
        go_wp2_with (first
          | (at_builtin; refine wpList_append_own _ rfl _ _ 87 rfl w.heap.size 25 i0 (.int .u64 0) 1 8 Try.underlying87 hi hz0 hz1 hz2 rfl (by decide) _ _ _ rfl (hown.alloc _) ⟨wr.heap.size, 0, none⟩ 1 1 [.int .u64 (t : Int)] rfl rfl (one_new _ _ _) (one_cell _) (by unfold maxLen; omega) (by omega) (by have := hfr.2; simp; omega) ?_; intro v' w1 hown1 hgrow1 _; rw [← HP.out] at hown1; have hfr1 := Fr.grown (hfr.alloc _) hgrow1 (own_ge hown)))
        go_roundw
        case rel => exact ⟨k + 1, by omega, by go_num, hown1, hfr1⟩
        case measure => simp [intOf]; omega
      · have BM : Hid (bitN m (k : Int) = 1) := by show _ = _; rw [bm.out, hmk]; rfl
        have HP := Lib.hid (own_push' (f := fun i => if m.testBit i then v.testBit i else old.testBit i) (k := k) (t := (v.testBit k).toNat) (by simp [hmk]))
        clear hmk bm
        obtain ⟨t, ht⟩ : ∃ t, t = (v.testBit k).toNat := ⟨_, rfl⟩
        rw [← ht] at bv HP
        clear ht
        go_wp2_with fail
        refine (bit_v BM.out _ hm).mono ?_
        rintro e w' ⟨rfl, rfl⟩
        go_wp2_with fail
        refine (bit_v bv.out _ hv).mono ?_
        rintro e w' ⟨rfl, rfl⟩
        go_wp2_with (first
          | (at_builtin; refine wpList_append_own _ rfl _ _ 87 rfl w.heap.size 25 i0 (.int .u64 0) 1 8 Try.underlying87 hi hz0 hz1 hz2 rfl (by decide) _ _ _ rfl (hown.alloc _) ⟨wr.heap.size, 0, none⟩ 1 1 [.int .u64 (t : Int)] rfl rfl (one_new _ _ _) (one_cell _) (by unfold maxLen; omega) (by omega) (by have := hfr.2; simp; omega) ?_; intro v' w1 hown1 hgrow1 _; rw [← HP.out] at hown1; have hfr1 := Fr.grown (hfr.alloc _) hgrow1 (own_ge hown)))
        go_roundw
        case rel => exact ⟨k + 1, by omega, by go_num, hown1, hfr1⟩
        case measure => simp [intOf]; omega
    · obtain rfl : k = 64 := by omega
      obtain ⟨g, cap, rfl, hg, hcells⟩ := own_cells hown (by omega)
      have hc : ∀ k, k < 64 → wr.cell? ⟨g, k, none⟩ = some (.int .u64 (((blend old v m).testBit k).toNat : Nat)) := fun k hk => by
        rw [hcells k hk]
        unfold blend
        simp [hk, mkW_bit]
      have hc' := Lib.hid hc
      clear hc hcells hown
      go_wp2_with fail
      refine (of_any _ hX g cap _ hc'.out).mono ?_
      rintro e w' ⟨rfl, rfl⟩
      generalize blend old v m = X at hX hL ⊢
      clear hc'
      have C11 := Lib.hid (cut_mpp X hX)
      have C60 := Lib.hid (cut60 X hX)
      by_cases h1 : n = 768
      · subst h1
        have HL : Hid (legalOf 768 old v = if X.testBit 12 = true ∧ X.testBit 11 = false then mppFix X old else X) := by show _ = _; rw [hL.out, if_pos rfl]
        have HPC := Lib.hid (put_cut X old hX)
        clear hL
        generalize X.testBit 12 = a at C11 HL
        generalize X.testBit 11 = b at C11 HL
        by_cases hab : a = true ∧ b = false
        · obtain ⟨rfl, rfl⟩ := hab
          have C11' : Hid (W64 (cutF X 11 2) = 2) := C11
          have HL' : Hid (legalOf 768 old v = mppFix X old) := by show _ = _; rw [HL.out]; simp
          clear C11 HL
          go_wp2_with fail
          refine (cut_any X 11 2 _ hX b11c b2c).mono ?_
          rw [C11'.out]
          rintro e w2 ⟨rfl, hb2⟩
          go_wp2_with fail
          refine (cut_any old 11 2 _ ho b11c b2c).mono ?_
          rintro e w3 ⟨rfl, hb3⟩
          go_wp2_with fail
          refine (put_any X _ 11 2 _ hX (W64_lt _) b11c b2c).mono ?_
          rw [HPC.out]
          rintro e w4 ⟨rfl, hb4⟩
          go_wp2_with fail
          refine (cut_any _ 60 4 _ (W64_lt _) b60 b4).mono ?_
          rintro e w5 ⟨rfl, hb5⟩
          go_wp2
          go_ret
          exact ⟨val_u64 (by rw [HL'.out]), ((((hfr.step hb2).step hb3).step hb4).step hb5).1⟩
        · have C11' : ∃ q : Nat, W64 (cutF X 11 2) = q ∧ q ≠ 2 := ⟨_, rfl, by rw [C11.out]; revert hab; cases a <;> cases b <;> simp⟩
          obtain ⟨q, hq, hq2⟩ := C11'
          have HQ := Lib.hid hq
          have z2 : ((q : Int) == 2) = false := by simp; omega
          have HL' : Hid (legalOf 768 old v = X) := by show _ = _; rw [HL.out, if_neg hab]
          clear C11 HL hab hq hq2 HPC
          go_wp2_with fail
          refine (cut_any X 11 2 _ hX b11c b2c).mono ?_
          rw [HQ.out]
          rintro e w2 ⟨rfl, hb2⟩
          go_wp2_with fail
          refine (cut_any _ 60 4 _ hX b60 b4).mono ?_
          rintro e w5 ⟨rfl, hb5⟩
          go_wp2
          go_ret
          exact ⟨val_u64 (by rw [HL'.out]), ((hfr.step hb2).step hb5).1⟩
      · have e1 : (n == 768) = false := by simpa using h1
        by_cases h2 : n = 384
        · subst h2
          have HL : Hid (legalOf 384 old v = if X / 2 ^ 60 = 0 ∨ X / 2 ^ 60 = 8 then X else old) := by show _ = _; rw [hL.out, if_neg (by omega), if_pos rfl]
          clear hL h1 C11
          obtain ⟨q, hqq⟩ : ∃ q, X / 2 ^ 60 = q := ⟨_, rfl⟩
          rw [hqq] at HL C60
          clear hqq
          by_cases q0 : q = 0
          · subst q0
            go_wp2_with fail
            refine (cut_any X 60 4 _ hX b60 b4).mono ?_
            rw [C60.out]
            rintro e w2 ⟨rfl, hb2⟩
            go_wp2
            go_ret
            exact ⟨val_u64 (by rw [HL.out]; simp), (hfr.step hb2).1⟩
          · have z0 : ((q : Int) != 0) = true := by simp; omega
            by_cases q8 : q = 8
            · subst q8
              go_wp2_with fail
              refine (cut_any X 60 4 _ hX b60 b4).mono ?_
              rw [C60.out]
              rintro e w2 ⟨rfl, hb2⟩
              go_wp2
              go_ret
              exact ⟨val_u64 (by rw [HL.out]; simp), (hfr.step hb2).1⟩
            · have z8 : ((q : Int) != 8) = true := by simp; omega
              have HL' : Hid (legalOf 384 old v = old) := by show _ = _; rw [HL.out, if_neg (by omega)]
              clear HL q0 q8
              go_wp2_with fail
              refine (cut_any X 60 4 _ hX b60 b4).mono ?_
              rw [C60.out]
              rintro e w2 ⟨rfl, hb2⟩
              go_wp2
              go_ret
              exact ⟨val_u64 (by rw [HL'.out]), (hfr.step hb2).1⟩
        · have e2 : (n == 384) = false := by simpa using h2
          have HL : Hid (legalOf n old v = X) := by show _ = _; rw [hL.out, if_neg h1, if_neg h2]
          clear hL h1 h2 C11
          go_wp2_with fail
          refine (cut_any X 60 4 _ hX b60 b4).mono ?_
          rintro e w2 ⟨rfl, hb2⟩
          go_wp2
          go_ret
          exact ⟨val_u64 (by rw [HL.out]), (hfr.step hb2).1⟩
end Go.Proofs.Ythkkfdhgpaonjaa
