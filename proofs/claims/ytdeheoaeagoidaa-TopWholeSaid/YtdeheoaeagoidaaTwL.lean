/- split's Join. -/
import Derived.Test.YtdeheoaeagoidaaTwK
namespace Go.Proofs.Ytdeheoaeagoidaa
open Go.RowKit
set_option linter.unusedSimpArgs false
set_option linter.unusedVariables false

theorem pw_sum {z n : Nat} (hzn : z + n = 8) : 256 ^ z * 256 ^ n = 18446744073709551616 := by
  rw [← Nat.pow_add, hzn]
theorem not_high {lo z n : Nat} (hzn : z + n = 8) (hlo : lo < 256 ^ z) : bits BinOp.andNot IntKind.u64 (lo : Int) ((maskN n * 2 ^ (8 * z) : Nat) : Int) = (lo : Int) := by
  have hp := pw_sum hzn
  have e1 : (256 : Nat) ^ z = 2 ^ (8 * z) := by rw [Nat.pow_mul]
  have e2 : (256 : Nat) ^ n = 2 ^ (8 * n) := by rw [Nat.pow_mul]
  have hz0 : 0 < 2 ^ (8 * z) := Nat.pow_pos (by omega)
  have hn0 : 0 < 2 ^ (8 * n) := Nat.pow_pos (by omega)
  have hX : maskN n * 2 ^ (8 * z) = 18446744073709551616 - 2 ^ (8 * z) := by
    rw [← hp, e1, e2, maskN, Nat.sub_mul, Nat.one_mul, Nat.mul_comm]
  have hle : 256 ^ z ≤ 18446744073709551616 := by rw [← hp]; exact Nat.le_mul_of_pos_right _ (by rw [e2]; exact hn0)
  rw [e1] at hle hlo
  rw [hX]
  generalize hY : 2 ^ (8 * z) = Y at *
  rw [u64_andNot_nat _ _ (by omega) (by omega), show 18446744073709551615 - (18446744073709551616 - Y) = Y - 1 by omega, ← hY, Nat.and_two_pow_sub_one_eq_mod, Nat.mod_eq_of_lt (by rw [hY]; exact hlo)]
theorem or_high {lo hi z n : Nat} (hzn : z + n = 8) (hlo : lo < 256 ^ z) (hhi : hi < 256 ^ n) : bits BinOp.or IntKind.u64 (lo : Int) ((hi * 2 ^ (8 * z) : Nat) : Int) = ((lo + 256 ^ z * hi : Nat) : Int) ∧ hi * 2 ^ (8 * z) < 18446744073709551616 := by
  have hp := pw_sum hzn
  have e1 : (256 : Nat) ^ z = 2 ^ (8 * z) := by rw [Nat.pow_mul]
  have hz0 : 0 < 256 ^ z := Nat.pow_pos (by omega)
  have h1 : 256 ^ z * (hi + 1) ≤ 256 ^ z * 256 ^ n := Nat.mul_le_mul_left _ (by omega)
  rw [hp, Nat.mul_add] at h1
  rw [Nat.mul_comm hi, ← e1]
  have h2 : 256 ^ z * hi < 18446744073709551616 := by omega
  refine ⟨?_, h2⟩
  rw [u64_or_nat _ _ (by omega) h2, Nat.or_comm, e1, ← Nat.two_pow_add_eq_or_of_lt (by rw [← e1]; exact hlo), Nat.add_comm]
set_option maxRecDepth 100000 in
set_option maxHeartbeats 4000000 in
theorem join_two (B g cap p a z n lo hi : Nat) (w : World) (ho : w.ownsRow B 97 3 (.slice (some ⟨g, 0, none⟩) 2 cap) 2 (pc1 a z 0 ++ pc1 ((a + z : Nat) : Int) n ((8 * z : Nat) : Int))) (hp : w.heap[p]? = some (.cells #[.int .u64 (lo : Int), .int .u64 (hi : Int)] 22)) (hz1 : 1 ≤ z) (hzn : z + n = 8) (hn : 1 ≤ n) (hlo : lo < 256 ^ z) (hhi : hi < 256 ^ n) :
    Calls Try.prog 40 #[.slice (some ⟨g, 0, none⟩) 2 cap, .slice (some ⟨p, 0, none⟩) 2 2] w fun e w' => e = .returned (.int .u64 ((lo + 256 ^ z * hi : Nat) : Int)) ∧ Below w.heap.size w w' := by
  obtain ⟨c0, c1, c2, c2', c3, c4, c4', c5, c5'⟩ := known_pc2 ho
  obtain ⟨p0, p1, pl, pf⟩ := known2' hp
  have gl := (own_lt ho).2
  obtain ⟨M, hM⟩ : ∃ M, maskN z = M := ⟨_, rfl⟩
  obtain ⟨N, hN⟩ : ∃ M, maskN n = M := ⟨_, rfl⟩
  obtain ⟨s2, hs2⟩ : ∃ s2 : Nat, 8 * z = s2 := ⟨_, rfl⟩
  have m0 : (((M : Nat) : Int) == 0) = false := by have := (maskN_lt (n := z) (by omega) hz1).1; simp; omega
  have n0 : (((N : Nat) : Int) == 0) = false := by have := (maskN_lt (n := n) (by omega) hn).1; simp; omega
  have hs2' : s2 ≤ 63 := by omega
  have t64 : (s2 : Int) < 64 := by omega
  have t0 : (0 : Int) ≤ s2 := by omega
  have e3 : IntKind.u64.wrap (s2 : Int) = s2 := by rw [IntKind.wrap_u64]; omega
  have z8 : z ≤ 8 := by omega
  have n8 : n ≤ 8 := by omega
  rw [hs2] at c5 c5'
  obtain ⟨A2, hA2⟩ : ∃ A2 : Nat, a + z = A2 := ⟨_, rfl⟩
  rw [hA2] at c3
  have wM : IntKind.u64.wrap (M : Int) = M := by have := maskN_lt z8 hz1; rw [IntKind.wrap_u64]; omega
  have A1 : bits BinOp.and IntKind.u64 (lo : Int) (M : Int) = (lo : Int) := by
    rw [← hM, and_mask lo z (by have := Nat.pow_le_pow_right (n := 256) (by omega) z8; have e8 : 256 ^ 8 = 18446744073709551616 := rfl; omega) z8 hz1, Nat.mod_eq_of_lt hlo]
  have A1' : bits BinOp.and IntKind.u64 (hi : Int) (N : Int) = (hi : Int) := by
    rw [← hN, and_mask hi n (by have := Nat.pow_le_pow_right (n := 256) (by omega) n8; have e8 : 256 ^ 8 = 18446744073709551616 := rfl; omega) n8 hn, Nat.mod_eq_of_lt hhi]
  have hl64 : lo < 18446744073709551616 := by have := Nat.pow_le_pow_right (n := 256) (by omega) z8; have e8 : 256 ^ 8 = 18446744073709551616 := rfl; omega
  have wlo : IntKind.u64.wrap (lo : Int) = lo := by rw [IntKind.wrap_u64]; omega
  have A2 : bits BinOp.andNot IntKind.u64 0 (M : Int) = 0 := by
    have h := u64_andNot_nat 0 M (by omega) (by have := (maskN_lt z8 hz1).2; omega)
    rw [Nat.zero_and] at h
    exact h
  have A3 : bits BinOp.or IntKind.u64 0 (lo : Int) = (lo : Int) := by
    have h := u64_or_nat 0 lo (by omega) hl64
    rw [Nat.zero_or] at h
    exact h
  have hm1 : (((M : Nat) : Int) != 0) = true := by have := (maskN_lt (n := z) (by omega) hz1).1; simp; omega
  have hn1 : (((N : Nat) : Int) != 0) = true := by have := (maskN_lt (n := n) (by omega) hn).1; simp; omega
  obtain ⟨R, hR⟩ : ∃ R, lo + 256 ^ z * hi = R := ⟨_, rfl⟩
  obtain ⟨X, hX⟩ : ∃ X, N * 2 ^ s2 = X := ⟨_, rfl⟩
  obtain ⟨Y, hY⟩ : ∃ Y, hi * 2 ^ s2 = Y := ⟨_, rfl⟩
  have B1 : bits BinOp.andNot IntKind.u64 (lo : Int) (X : Int) = (lo : Int) := by
    rw [← hX, ← hN, ← hs2]; exact not_high hzn hlo
  have B2 : bits BinOp.or IntKind.u64 (lo : Int) (Y : Int) = (R : Int) := by
    rw [← hY, ← hs2, ← hR]; exact (or_high hzn hlo hhi).1
  have hY64 : Y < 18446744073709551616 := by rw [← hY, ← hs2]; exact (or_high hzn hlo hhi).2
  have hX64 : X < 18446744073709551616 := by
    have h := (or_high (lo := 0) (hi := maskN n) hzn (Nat.pow_pos (by omega)) (by unfold maskN; rw [Nat.pow_mul]; have h0 : 0 < (2 ^ 8) ^ n := Nat.pow_pos (by omega); exact Nat.sub_lt h0 (by omega))).2
    rw [← hX, ← hN, ← hs2]; exact h
  have W1 : IntKind.u64.wrap ((N : Int) * 2 ^ s2) = (X : Int) := by
    have e : (N : Int) * 2 ^ s2 = ((X : Nat) : Int) := by rw [← hX]; simp
    rw [e, IntKind.wrap_u64]; omega
  have W2 : IntKind.u64.wrap ((hi : Int) * 2 ^ s2) = (Y : Int) := by
    have e : (hi : Int) * 2 ^ s2 = ((Y : Nat) : Int) := by rw [← hY]; simp
    rw [e, IntKind.wrap_u64]; omega
  rw [hR]
  clear hX hY hY64 hX64 hl64 hR hlo hhi
  have HM := Lib.hid hM
  have HN := Lib.hid hN
  have HS := Lib.hid hs2
  clear hM hN hs2 hzn hA2
  go_enter Try.func40, Try.ntmps40
  go_wp2
  refine wp_loop_rounds 3 ?_
  rw [rounds_succ]
  go_wp2_with fail
  refine (mask_any _ z 0 _ hz1 z8 (by omega)).mono ?_
  rintro e w1 ⟨rfl, hb1⟩
  rw [HM.out]
  have ho1 := own_keep ho hb1
  have hp1 := keepB hb1 hp
  obtain ⟨d0, d1, d2, d2', d3, d4, d4', d5, d5'⟩ := known_pc2 ho1
  obtain ⟨q0, q1, ql, qf⟩ := known2' hp1
  rw [HS.out] at d5 d5'
  have F1 := Lib.hid ((Fr.refl w).step hb1)
  have HO1 := Lib.hid ho1
  have HP1 := Lib.hid hp1
  clear hb1 ho1 hp1
  go_wp2_with fail
  rw [rounds_succ]
  go_wp2_with fail
  refine (mask_any _ n s2 _ hn n8 hs2').mono ?_
  rintro e w2 ⟨rfl, hb2⟩
  rw [HN.out]
  obtain ⟨f0, f1, f2, f2', f3, f4, f4', f5, f5'⟩ := known_pc2 (own_keep HO1.out hb2)
  obtain ⟨r0, r1, rl, rf⟩ := known2' (keepB hb2 HP1.out)
  rw [HS.out] at f5 f5'
  have F2 := Lib.hid (F1.out.step hb2)
  clear hb2
  go_wp2_with fail
  rw [rounds_succ]
  go_wp2_with fail
  go_ret
  exact ⟨rfl, F2.out.1⟩
set_option maxRecDepth 100000 in
set_option maxHeartbeats 4000000 in
theorem join_one (B g cap p a lo : Nat) (w : World) (ho : w.ownsRow B 97 3 (.slice (some ⟨g, 0, none⟩) 1 cap) 1 (pc1 a 8 0)) (hp : w.heap[p]? = some (.cells #[.int .u64 (lo : Int)] 22)) (hlo : lo < 18446744073709551616) :
    Calls Try.prog 40 #[.slice (some ⟨g, 0, none⟩) 1 cap, .slice (some ⟨p, 0, none⟩) 1 1] w fun e w' => e = .returned (.int .u64 ((lo : Nat) : Int)) ∧ Below w.heap.size w w' := by
  obtain ⟨c0, c1, c2, c2'⟩ := known_pc1 ho
  have p0 : w.cell? ⟨p, 0, none⟩ = some (.int .u64 (lo : Int)) := by rw [cell_at hp]; rfl
  have gl := (own_lt ho).2
  obtain ⟨M, hM⟩ : ∃ M, maskN 8 = M := ⟨_, rfl⟩
  have wM : IntKind.u64.wrap (M : Int) = M := by have := maskN_lt (n := 8) (by omega) (by omega); rw [IntKind.wrap_u64]; omega
  have A1 : bits BinOp.and IntKind.u64 (lo : Int) (M : Int) = (lo : Int) := by
    have e8 : 256 ^ 8 = 18446744073709551616 := rfl
    rw [← hM, and_mask lo 8 hlo (by omega) (by omega), Nat.mod_eq_of_lt (by omega)]
  have wlo : IntKind.u64.wrap (lo : Int) = lo := by rw [IntKind.wrap_u64]; omega
  have A2 : bits BinOp.andNot IntKind.u64 0 (M : Int) = 0 := by
    have h := u64_andNot_nat 0 M (by omega) (by have := (maskN_lt (n := 8) (by omega) (by omega)).2; omega)
    rw [Nat.zero_and] at h
    exact h
  have A3 : bits BinOp.or IntKind.u64 0 (lo : Int) = (lo : Int) := by
    have h := u64_or_nat 0 lo (by omega) hlo
    rw [Nat.zero_or] at h
    exact h
  have hm1 : (((M : Nat) : Int) != 0) = true := by have := (maskN_lt (n := 8) (by omega) (by omega)).1; simp; omega
  have HM := Lib.hid hM
  clear hM hlo
  have ma := mask_any a 8 0
  have Hma : Hid (∀ (w : World), Calls Try.prog 72 #[.agg #[.int .u64 (a : Int), .int .i64 8, .int .i64 0]] w fun e w' => e = .returned (.int .u64 ((M : Nat) : Int)) ∧ Below w.heap.size w w') := Lib.hid (fun w => by have h := ma w (by omega) (by omega) (by omega); rw [HM.out] at h; exact h)
  clear ma
  go_enter Try.func40, Try.ntmps40
  go_wp2
  refine wp_loop_rounds 2 ?_
  rw [rounds_succ]
  go_wp2_with fail
  refine (Hma.out _).mono ?_
  rintro e w1 ⟨rfl, hb1⟩
  obtain ⟨d0, d1, d2, d2'⟩ := known_pc1 (own_keep ho hb1)
  have q0 : w1.cell? ⟨p, 0, none⟩ = some (.int .u64 (lo : Int)) := by rw [cell_at (keepB hb1 hp)]; rfl
  have F1 := Lib.hid ((Fr.refl w).step hb1)
  clear hb1
  go_wp2_with fail
  rw [rounds_succ]
  go_wp2_with fail
  go_ret
  exact ⟨rfl, F1.out.1⟩
end Go.Proofs.Ytdeheoaeagoidaa
