/- split's Pieces, mask, Part, Join. -/
import Derived.Test.YtdeheoaeagoidaaTwJ
namespace Go.Proofs.Ytdeheoaeagoidaa
open Go.RowKit
set_option linter.unusedSimpArgs false
set_option linter.unusedVariables false

theorem own_keep {w w' : World} {B : Nat} {e : TypeId} {s : Nat} {v : Value} {n : Nat} {xs : List Value} (h : w.ownsRow B e s v n xs) (hb : Below w.heap.size w w') : w'.ownsRow B e s v n xs := by
  obtain ⟨h1, h2⟩ := h
  refine ⟨h1, ?_⟩
  rcases h2 with h2 | ⟨g, cap, cur, hv, hg, hh, r⟩
  · exact .inl h2
  · exact .inr ⟨g, cap, cur, hv, hg, keepB hb hh, r⟩
theorem own_base {w : World} {B B' : Nat} {e : TypeId} {s : Nat} {v : Value} {n : Nat} {xs : List Value} (h : w.ownsRow B e s v n xs) (hb : B' ≤ B) : w.ownsRow B' e s v n xs := by
  obtain ⟨h1, h2⟩ := h
  refine ⟨h1, ?_⟩
  rcases h2 with h2 | ⟨g, cap, cur, hv, hg, r⟩
  · exact .inl h2
  · exact .inr ⟨g, cap, cur, hv, Nat.le_trans hb hg, r⟩
theorem own_cell {w : World} {B g cap : Nat} {e : TypeId} {s n : Nat} {xs : List Value} (h : w.ownsRow B e s (.slice (some ⟨g, 0, none⟩) n cap) n xs) {j : Nat} {u : Value} (hj : xs[j]? = some u) : w.cell? ⟨g, j, none⟩ = some u := by
  have := h.cells (g := g) rfl j u hj
  rw [Addr.add_mid] at this
  simpa using this
theorem own_lt {w : World} {B g cap : Nat} {e : TypeId} {s n : Nat} {xs : List Value} (h : w.ownsRow B e s (.slice (some ⟨g, 0, none⟩) n cap) n xs) : B ≤ g ∧ g < w.heap.size := h.lt g rfl
/-- What the walk wants to know of one piece, or two. -/
theorem known_pc1 {w : World} {B g cap : Nat} {a n s : Int} (h : w.ownsRow B 97 3 (.slice (some ⟨g, 0, none⟩) 1 cap) 1 (pc1 a n s)) : w.cell? ⟨g, 0, none⟩ = some (.int .u64 a) ∧ w.cell? ⟨g, 1, none⟩ = some (.int .i64 n) ∧ w.cell? ⟨g, 2, none⟩ = some (.int .i64 s) ∧ w.cell? ⟨g, 1 + 1, none⟩ = some (.int .i64 s) :=
  ⟨own_cell h rfl, own_cell h rfl, own_cell h rfl, own_cell h rfl⟩
theorem known_pc2 {w : World} {B g cap : Nat} {a n s a' n' s' : Int} (h : w.ownsRow B 97 3 (.slice (some ⟨g, 0, none⟩) 2 cap) 2 (pc1 a n s ++ pc1 a' n' s')) : w.cell? ⟨g, 0, none⟩ = some (.int .u64 a) ∧ w.cell? ⟨g, 1, none⟩ = some (.int .i64 n) ∧ w.cell? ⟨g, 2, none⟩ = some (.int .i64 s) ∧ w.cell? ⟨g, 1 + 1, none⟩ = some (.int .i64 s) ∧ w.cell? ⟨g, 3, none⟩ = some (.int .u64 a') ∧ w.cell? ⟨g, 4, none⟩ = some (.int .i64 n') ∧ w.cell? ⟨g, 3 + 1, none⟩ = some (.int .i64 n') ∧ w.cell? ⟨g, 5, none⟩ = some (.int .i64 s') ∧ w.cell? ⟨g, 3 + 1 + 1, none⟩ = some (.int .i64 s') :=
  ⟨own_cell h rfl, own_cell h rfl, own_cell h rfl, own_cell h rfl, own_cell h rfl, own_cell h rfl, own_cell h rfl, own_cell h rfl, own_cell h rfl⟩
set_option maxRecDepth 100000 in
set_option maxHeartbeats 4000000 in
theorem pieces_one (a : Nat) (w : World) (ha : a < 9223372036854775808) (hq : a % 64 ≤ 56) :
    Calls Try.prog 34 #[.agg #[.int .u64 (a : Int), .int .u64 0, .int .i64 0, .int .i64 8]] w fun e w' => ∃ g cap, e = .returned (.slice (some ⟨g, 0, none⟩) 1 cap) ∧ w'.ownsRow w.heap.size 97 3 (.slice (some ⟨g, 0, none⟩) 1 cap) 1 (pc1 a 8 0) ∧ Below w.heap.size w w' := by
  have HA := Lib.hid ha
  clear ha
  go_enter Try.func34, Try.ntmps34
  go_wp2_with fail
  refine (may_any _ _).mono ?_
  rintro e w1 ⟨rfl, hb1⟩
  have k1 := keepB hb1 (heap_alloc_new w (.cells #[.int .u64 (a : Int), .int .u64 0, .int .i64 0, .int .i64 8] 77))
  have F1 := ((Fr.refl w).alloc (.cells #[.int .u64 (a : Int), .int .u64 0, .int .i64 0, .int .i64 8] 77)).step hb1
  have c0 : w1.cell? ⟨w.heap.size, 0, none⟩ = some (.int .u64 (a : Int)) := by rw [cell_at k1]; rfl
  have c2 : w1.cell? ⟨w.heap.size, 2, none⟩ = some (.int .i64 0) := by rw [cell_at k1]; rfl
  have c3 : w1.cell? ⟨w.heap.size, 3, none⟩ = some (.int .i64 8) := by rw [cell_at k1]; rfl
  go_wp2_with fail
  refine (run_one a _ HA.out hq).mono ?_
  rintro e w2 ⟨g, cap, rfl, ho, hb2⟩
  have F2 := Lib.hid (F1.step hb2)
  have HO := Lib.hid (own_base ho F1.2)
  clear ho
  go_wp2
  go_ret
  exact ⟨g, cap, rfl, HO.out, F2.out.1⟩
set_option maxRecDepth 100000 in
set_option maxHeartbeats 4000000 in
theorem pieces_two (a z n : Nat) (w : World) (ha : a < 9223372036854775808) (hz1' : 1 ≤ z) (hzn : z + n = 8) (hn : 1 ≤ n) (hq : a % 64 + z = 64) :
    Calls Try.prog 34 #[.agg #[.int .u64 (a : Int), .int .u64 0, .int .i64 0, .int .i64 8]] w fun e w' => ∃ g cap, e = .returned (.slice (some ⟨g, 0, none⟩) 2 cap) ∧ w'.ownsRow w.heap.size 97 3 (.slice (some ⟨g, 0, none⟩) 2 cap) 2 (pc1 a z 0 ++ pc1 ((a + z : Nat) : Int) n ((8 * z : Nat) : Int)) ∧ Below w.heap.size w w' := by
  have HA := Lib.hid ha
  have HZ := Lib.hid hzn
  have HQ := Lib.hid hq
  clear ha hzn hq
  go_enter Try.func34, Try.ntmps34
  go_wp2_with fail
  refine (may_any _ _).mono ?_
  rintro e w1 ⟨rfl, hb1⟩
  have k1 := keepB hb1 (heap_alloc_new w (.cells #[.int .u64 (a : Int), .int .u64 0, .int .i64 0, .int .i64 8] 77))
  have F1 := ((Fr.refl w).alloc (.cells #[.int .u64 (a : Int), .int .u64 0, .int .i64 0, .int .i64 8] 77)).step hb1
  have c0 : w1.cell? ⟨w.heap.size, 0, none⟩ = some (.int .u64 (a : Int)) := by rw [cell_at k1]; rfl
  have c2 : w1.cell? ⟨w.heap.size, 2, none⟩ = some (.int .i64 0) := by rw [cell_at k1]; rfl
  have c3 : w1.cell? ⟨w.heap.size, 3, none⟩ = some (.int .i64 8) := by rw [cell_at k1]; rfl
  go_wp2_with fail
  refine (run_two a z n _ HA.out hz1' HZ.out hn HQ.out).mono ?_
  rintro e w2 ⟨g, cap, rfl, ho, hb2⟩
  have F2 := Lib.hid (F1.step hb2)
  have HO := Lib.hid (own_base ho F1.2)
  clear ho
  go_wp2
  go_ret
  exact ⟨g, cap, rfl, HO.out, F2.out.1⟩
/-- n bytes of ones. -/
def maskN (n : Nat) : Nat := 2 ^ (8 * n) - 1
theorem mask_shr {n : Nat} (h8 : n ≤ 8) (h1 : 1 ≤ n) : 18446744073709551615 / 2 ^ (64 - 8 * n) = maskN n := by
  have : n = 1 ∨ n = 2 ∨ n = 3 ∨ n = 4 ∨ n = 5 ∨ n = 6 ∨ n = 7 ∨ n = 8 := by omega
  rcases this with rfl | rfl | rfl | rfl | rfl | rfl | rfl | rfl <;> rfl
set_option maxRecDepth 100000 in
set_option maxHeartbeats 4000000 in
theorem mask_any (a : Int) (n s : Nat) (w : World) (h1 : 1 ≤ n) (h8 : n ≤ 8) (hs : s ≤ 63) :
    Calls Try.prog 72 #[.agg #[.int .u64 a, .int .i64 (n : Int), .int .i64 (s : Int)]] w fun e w' => e = .returned (.int .u64 ((maskN n : Nat) : Int)) ∧ Below w.heap.size w w' := by
  have d1 : decide ((n : Int) < 1) = false := by simp; omega
  have d2 : decide ((8 : Int) < n) = false := by simp; omega
  have d3 : decide ((s : Int) < 0) = false := by simp
  have d4 : decide ((63 : Int) < s) = false := by simp; omega
  obtain ⟨t, ht⟩ : ∃ t : Nat, 64 - 8 * n = t := ⟨_, rfl⟩
  have e1 : IntKind.i64.wrap (8 * (n : Int)) = 8 * n := by rw [IntKind.wrap_i64]; omega
  have e2 : IntKind.i64.wrap (64 - 8 * (n : Int)) = (t : Int) := by rw [IntKind.wrap_i64]; omega
  have e2' : 64 - 8 * (n : Int) = (t : Int) := by omega
  have e3 : IntKind.u64.wrap (t : Int) = t := by rw [IntKind.wrap_u64]; omega
  have t0 : (0 : Int) ≤ t := by omega
  have t64 : (t : Int) < 64 := by omega
  have t63 : t < 64 := by omega
  have hm : min t 64 = t := by omega
  have HM : Hid ((18446744073709551615 : Int) / 2 ^ t = ((maskN n : Nat) : Int)) := Lib.hid (by have h := mask_shr h8 h1; rw [ht] at h; rw [← h]; simp)
  clear ht
  go_enter Try.func72, Try.ntmps72
  go_wp2
  go_ret
  exact ⟨by rw [HM.out]; rfl, ((Fr.refl w).alloc _).1⟩
theorem maskN_lt {n : Nat} (h8 : n ≤ 8) (h1 : 1 ≤ n) : 0 < maskN n ∧ maskN n < 18446744073709551616 := by
  have : n = 1 ∨ n = 2 ∨ n = 3 ∨ n = 4 ∨ n = 5 ∨ n = 6 ∨ n = 7 ∨ n = 8 := by omega
  rcases this with rfl | rfl | rfl | rfl | rfl | rfl | rfl | rfl <;> exact ⟨by decide, by decide⟩
theorem and_mask (x n : Nat) (hx : x < 18446744073709551616) (h8 : n ≤ 8) (h1 : 1 ≤ n) : bits BinOp.and IntKind.u64 (x : Int) ((maskN n : Nat) : Int) = ((x % 256 ^ n : Nat) : Int) := by
  have hp : (256 : Nat) ^ n = 2 ^ (8 * n) := by rw [Nat.pow_mul]
  rw [u64_and_nat _ _ hx (maskN_lt h8 h1).2, hp]
  congr 1
  exact Nat.and_two_pow_sub_one_eq_mod x (8 * n)
set_option maxRecDepth 100000 in
set_option maxHeartbeats 4000000 in
theorem part_any (v : Nat) (a : Int) (n s : Nat) (w : World) (hv : v < 18446744073709551616) (h1 : 1 ≤ n) (h8 : n ≤ 8) (hs : s ≤ 63) :
    Calls Try.prog 42 #[.int .u64 (v : Int), .agg #[.int .u64 a, .int .i64 (n : Int), .int .i64 (s : Int)]] w fun e w' => e = .returned (.int .u64 ((v / 2 ^ s % 256 ^ n : Nat) : Int)) ∧ Below w.heap.size w w' := by
  obtain ⟨M, hM⟩ : ∃ M, maskN n = M := ⟨_, rfl⟩
  have m0 : (((M : Nat) : Int) == 0) = false := by have := (maskN_lt h8 h1).1; simp; omega
  have v0 : (0 : Int) ≤ v := by omega
  have hv1 : v / 2 ^ s ≤ v := Nat.div_le_self _ _
  obtain ⟨q, hq⟩ : ∃ q, v / 2 ^ s = q := ⟨_, rfl⟩
  have HB : Hid (bits BinOp.and IntKind.u64 ((v : Int) / 2 ^ s) (M : Int) = ((q % 256 ^ n : Nat) : Int)) := Lib.hid (by
    have e : (v : Int) / 2 ^ s = ((q : Nat) : Int) := by rw [← hq]; simp
    rw [e, ← hM]
    exact and_mask q n (by omega) h8 h1)
  rw [hq]
  have HM := Lib.hid hM
  have t63 : s < 64 := by omega
  have t64 : (s : Int) < 64 := by omega
  have t0 : (0 : Int) ≤ s := by omega
  have hm : min s 64 = s := by omega
  have e3 : IntKind.u64.wrap (s : Int) = s := by rw [IntKind.wrap_u64]; omega
  clear hM hq hv hv1
  go_enter Try.func42, Try.ntmps42
  go_wp2_with fail
  refine (mask_any a n s _ h1 h8 hs).mono ?_
  rintro e w1 ⟨rfl, hb1⟩
  have k1 := keepB hb1 (heap_alloc_new w (.cells #[.int .u64 a, .int .i64 (n : Int), .int .i64 (s : Int)] 97))
  have c2 : w1.cell? ⟨w.heap.size, 2, none⟩ = some (.int .i64 (s : Int)) := by rw [cell_at k1]; rfl
  have c2' : w1.cell? ⟨w.heap.size, 1 + 1, none⟩ = some (.int .i64 (s : Int)) := by rw [cell_at k1]; rfl
  have F1 := Lib.hid (((Fr.refl w).alloc (.cells #[.int .u64 a, .int .i64 (n : Int), .int .i64 (s : Int)] 97)).step hb1)
  rw [HM.out]
  go_wp2
  go_ret
  exact ⟨by rw [HB.out]; rfl, F1.out.1⟩
end Go.Proofs.Ytdeheoaeagoidaa
