/- ram's Load. -/
import Derived.Test.YtdeheoaeagoidaaTwE
namespace Go.Proofs.Ytdeheoaeagoidaa
open Go.RowKit
set_option linter.unusedSimpArgs false
set_option linter.unusedVariables false
attribute [local simp high] sizeLL zeroLL

/-- All the bytes. -/
def fl (g : Nat → Nat → Nat) (p : Nat) : Nat := g (p / 64) (p % 64)
theorem fl_ok {g : Nat → Nat → Nat} (ok : ∀ i, OkL (g i)) : OkL (fl g) := fun p => ok _ _
theorem numL_fl (g : Nat → Nat → Nat) : ∀ (n f : Nat), f % 64 + n ≤ 64 → numL (g (f / 64)) (f % 64) n = numL (fl g) f n
  | 0, f, _ => rfl
  | n + 1, f, h => by
      show g (f / 64) (f % 64) + 256 * numL (g (f / 64)) (f % 64 + 1) n = fl g f + 256 * numL (fl g) (f + 1) n
      by_cases h0 : n = 0
      · subst h0; rfl
      · have ih := numL_fl g n (f + 1) (by omega)
        rw [show (f + 1) / 64 = f / 64 by omega, show (f + 1) % 64 = f % 64 + 1 by omega] at ih
        rw [ih]; rfl
theorem numL_split (x : Nat → Nat) : ∀ (a f b : Nat), numL x f (a + b) = numL x f a + 256 ^ a * numL x (f + a) b
  | 0, f, b => by simp [numL]
  | a + 1, f, b => by
      have ih := numL_split x a (f + 1) b
      rw [show a + 1 + b = (a + b) + 1 by omega]
      show x f + 256 * numL x (f + 1) (a + b) = x f + 256 * numL x (f + 1) a + 256 ^ (a + 1) * numL x (f + (a + 1)) b
      rw [ih, Nat.pow_succ, show f + 1 + a = f + (a + 1) by omega, Nat.mul_add, Nat.mul_comm (256 ^ a) 256, Nat.mul_assoc, Nat.add_assoc]
theorem ramsplit_v {f n addr x y z : Nat} (ha : 2147483648 + f = addr) (hx : f / 64 = x) (hy : f % 64 = y) (hz : min n (64 - y) = z) (w : World) (hf : f < 262144) (hn : (n : Int) ≤ 9223372036854775807) :
    Calls Try.prog 69 #[.int .u64 (addr : Int), .int .i64 (n : Int)] w fun e w' => e = .returned (.tuple #[.int .i64 (x : Int), .int .i64 (y : Int), .int .i64 (z : Int)]) ∧ w' = w := by
  subst ha hx hy hz
  exact ramsplit_any f n w hf hn
theorem ramline_v {b m k L : Nat} {g : Nat → Nat → Nat} {i : Nat} {h : Nat → Nat} (hg : g i = h) (w : World) (hi : i < L) (hL : L ≤ 4096) (hR : RamAt w b m k L g) :
    Calls Try.prog 70 #[.pointer (some ⟨b, 0, none⟩), .int .i64 (i : Int)] w fun e w' => e = .returned (.agg (cellsL h)) ∧ Below w.heap.size w w' := by
  rw [← hg]; exact ramline_yes b m k L g i w hi hL hR
theorem has_true {L f n : Nat} (h1 : 1 ≤ n) (hf : f + n ≤ 64 * L) : hasR L (2147483648 + f) (n : Int) = true := by
  unfold hasR
  have a1 : decide ((1 : Int) ≤ n) = true := by simp; omega
  have a2 : decide (2147483648 ≤ 2147483648 + f) = true := by simp
  have a3 : decide ((((2147483648 + f : Nat) : Int) - 2147483648) + (n : Int) ≤ 64 * (L : Int)) = true := by simp; omega
  rw [a1, a2, a3]; rfl
set_option maxRecDepth 100000 in
set_option maxHeartbeats 4000000 in
theorem ramload_one (b m k L : Nat) (g : Nat → Nat → Nat) (f n addr : Nat) (w : World) (hA : Hid (2147483648 + f = addr)) (okg : ∀ i, OkL (g i)) (hf : f + n ≤ 64 * L) (h1 : 1 ≤ n) (h8 : n ≤ 8) (hL : L ≤ 4096) (hs : f % 64 + n ≤ 64) (hR : RamAt w b m k L g) :
    Calls Try.prog 39 #[.pointer (some ⟨b, 0, none⟩), .int .u64 (addr : Int), .int .i64 (n : Int)] w fun e w' => e = .returned (.tuple #[.int .u64 (numL (fl g) f n : Int), .bool true]) ∧ Below w.heap.size w w' := by
  have HH : Hid (hasR L addr (n : Int) = true) := by show _ = _; rw [← hA.out]; exact has_true h1 hf
  have HAB : Hid (addr < 18446744073709551616) := by show _ < _; have := hA.out; omega
  obtain ⟨x, hx⟩ : ∃ x, f / 64 = x := ⟨_, rfl⟩
  obtain ⟨y, hy⟩ : ∃ y, f % 64 = y := ⟨_, rfl⟩
  have hxL : x < L := by omega
  have hz : min n (64 - y) = n := by omega
  have hfy : fitB (y : Int) (n : Int) = true := by unfold fitB; simp; omega
  obtain ⟨r, hr⟩ : ∃ r, numL (fl g) f n = r := ⟨_, rfl⟩
  have hgv : getV (g x) (y : Int) (n : Int) = r := by
    unfold getV
    rw [if_pos hfy, Int.toNat_natCast, Int.toNat_natCast, ← hr, ← hx, ← hy]
    exact numL_fl g n f (by omega)
  rw [hr]
  have HX := Lib.hid hx
  have HY := Lib.hid hy
  have HZ := Lib.hid hz
  have HF := Lib.hid hfy
  have HG := Lib.hid hgv
  have HFB : Hid (f < 262144) := by show _ < _; omega
  have hn8 : (n : Int) ≤ 8 := by omega
  have hn1 : (1 : Int) ≤ n := by omega
  have d1 : decide (8 < (n : Int)) = false := by simp; omega
  clear hx hy hz hfy hgv hf hs hr
  go_enter Try.func39, Try.ntmps39
  go_wp2_with fail
  refine (ramhas_v HH.out _ HAB.out (by omega) hL hR).mono ?_
  rintro e w1 ⟨rfl, hw⟩
  rw [hw]
  clear hw w1
  go_wp2_with fail
  refine (ramsplit_v hA.out HX.out HY.out HZ.out _ HFB.out (by omega)).mono ?_
  rintro e w1 ⟨rfl, hw⟩
  rw [hw]
  clear hw w1
  go_wp2_with fail
  refine (ramline_v rfl _ hxL hL hR).mono ?_
  rintro e w2 ⟨rfl, hb2⟩
  go_wp2_with fail
  refine (lget_v HG.out HF.out _ (okg x)).mono ?_
  rintro e w3 ⟨rfl, hb3⟩
  have FE := Lib.hid (((Fr.refl w).step hb2).step hb3)
  go_wp2
  go_ret2
  exact ⟨rfl, FE.out.1⟩
set_option maxRecDepth 100000 in
set_option maxHeartbeats 4000000 in
theorem ramload_two (b m k L : Nat) (g : Nat → Nat → Nat) (f n addr : Nat) (w : World) (hA : Hid (2147483648 + f = addr)) (okg : ∀ i, OkL (g i)) (hf : f + n ≤ 64 * L) (h1 : 1 ≤ n) (h8 : n ≤ 8) (hL : L ≤ 4096) (hs : 64 < f % 64 + n) (hR : RamAt w b m k L g) :
    Calls Try.prog 39 #[.pointer (some ⟨b, 0, none⟩), .int .u64 (addr : Int), .int .i64 (n : Int)] w fun e w' => e = .returned (.tuple #[.int .u64 (numL (fl g) f n : Int), .bool true]) ∧ Below w.heap.size w w' := by
  have HH : Hid (hasR L addr (n : Int) = true) := by show _ = _; rw [← hA.out]; exact has_true h1 hf
  have HAB : Hid (addr < 18446744073709551616) := by show _ < _; have := hA.out; omega
  obtain ⟨x, hx⟩ : ∃ x, f / 64 = x := ⟨_, rfl⟩
  obtain ⟨y, hy⟩ : ∃ y, f % 64 = y := ⟨_, rfl⟩
  obtain ⟨z, hz⟩ : ∃ z, min n (64 - y) = z := ⟨_, rfl⟩
  have hzy : y + z = 64 := by omega
  have hzn : z < n := by omega
  have hz1 : 1 ≤ z := by omega
  have hxL : x + 1 < L := by omega
  have HXL : Hid (x < L) := by show _ < _; omega
  have hfy : fitB (y : Int) (z : Int) = true := by unfold fitB; simp; omega
  have hfz : fitB 0 (((n - z : Nat) : Int)) = true := by unfold fitB; simp; omega
  obtain ⟨lo, hlo⟩ : ∃ r, numL (fl g) f z = r := ⟨_, rfl⟩
  obtain ⟨hi, hhi⟩ : ∃ r, numL (fl g) (f + z) (n - z) = r := ⟨_, rfl⟩
  have hsum : numL (fl g) f n = lo + 256 ^ z * hi := by
    have := numL_split (fl g) z f (n - z)
    rw [show z + (n - z) = n by omega, hlo, hhi] at this
    exact this
  have hgv : getV (g x) (y : Int) (z : Int) = lo := by
    unfold getV
    rw [if_pos hfy, Int.toNat_natCast, Int.toNat_natCast, ← hlo, ← hx, ← hy]
    exact numL_fl g z f (by omega)
  have hgw : getV (g (x + 1)) 0 (((n - z : Nat) : Int)) = hi := by
    unfold getV
    rw [if_pos hfz, Int.toNat_natCast, ← hhi]
    have e1 : (f + z) / 64 = x + 1 := by omega
    have e2 : (f + z) % 64 = 0 := by omega
    have := numL_fl g (n - z) (f + z) (by omega)
    rw [e1, e2] at this
    exact this
  have hlo2 : lo < 256 ^ z := by rw [← hlo]; exact numL_lt (fl_ok okg) _ _
  have htot := numL_64 (fl_ok okg) f h8
  obtain ⟨P, hP⟩ : ∃ P, 256 ^ z = P := ⟨_, rfl⟩
  have hP2 : 2 ^ (8 * z) = P := by rw [← hP, Nat.pow_mul]
  rw [hsum, hP] at htot
  rw [hP] at hsum hlo2
  have hor : bits BinOp.or IntKind.u64 ((P * hi : Nat) : Int) (lo : Int) = ((lo + P * hi : Nat) : Int) := by
    rw [u64_or_nat _ _ (by omega) (by omega), ← hP2, ← Nat.two_pow_add_eq_or_of_lt (by rw [hP2]; exact hlo2)]
    congr 1
    omega
  have hmul : IntKind.u64.wrap ((hi : Int) * (2 : Int) ^ (8 * z)) = ((P * hi : Nat) : Int) := by
    have e : ((2 ^ (8 * z) : Nat) : Int) = (2 : Int) ^ (8 * z) := by simp
    rw [← e, hP2, ← Int.natCast_mul, Nat.mul_comm hi P, IntKind.wrap_u64]
    omega
  rw [← hmul] at hor
  rw [hsum]
  have HX := Lib.hid hx
  have HY := Lib.hid hy
  have HZ := Lib.hid hz
  have HF := Lib.hid hfy
  have HF2 := Lib.hid hfz
  have HG := Lib.hid hgv
  have HG2 := Lib.hid hgw
  have HOR := Lib.hid hor
  have HFB : Hid (f < 262144) := by show _ < _; omega
  have hn8 : (n : Int) ≤ 8 := by omega
  have hn1 : (1 : Int) ≤ n := by omega
  have d1 : decide (8 < (n : Int)) = false := by simp; omega
  have hzneq : ((z : Int) == (n : Int)) = false := by simp; omega
  have hzi : (z : Int) < n := by omega
  have hz0 : (1 : Int) ≤ z := by omega
  have hx1 : IntKind.i64.wrap ((x : Int) + 1) = ((x + 1 : Nat) : Int) := by rw [IntKind.wrap_i64]; omega
  have hnz : IntKind.i64.wrap ((n : Int) - z) = ((n - z : Nat) : Int) := by rw [IntKind.wrap_i64]; omega
  have hz8 : IntKind.i64.wrap (8 * (z : Int)) = ((8 * z : Nat) : Int) := by rw [IntKind.wrap_i64]; omega
  have hnz' : (n : Int) - z = ((n - z : Nat) : Int) := by omega
  obtain ⟨nz, hnzz⟩ : ∃ q, n - z = q := ⟨_, rfl⟩
  rw [hnzz] at HF2 HG2 hnz hnz'
  obtain ⟨x1, hxx⟩ : ∃ q, x + 1 = q := ⟨_, rfl⟩
  rw [hxx] at hx1 hxL HG2
  clear hx hy hz hfy hfz hgv hgw hf hs hlo hhi hsum hor hmul hP hP2 hnzz hxx hzy hzn
  go_enter Try.func39, Try.ntmps39
  go_wp2_with fail
  refine (ramhas_v HH.out _ HAB.out (by omega) hL hR).mono ?_
  rintro e w1 ⟨rfl, hw⟩
  rw [hw]
  clear hw w1
  go_wp2_with fail
  refine (ramsplit_v hA.out HX.out HY.out HZ.out _ HFB.out (by omega)).mono ?_
  rintro e w1 ⟨rfl, hw⟩
  rw [hw]
  clear hw w1
  go_wp2_with fail
  refine (ramline_v rfl _ HXL.out hL hR).mono ?_
  rintro e w2 ⟨rfl, hb2⟩
  have hR2 := hR.keep hb2
  go_wp2_with fail
  refine (lget_v HG.out HF.out _ (okg x)).mono ?_
  rintro e w3 ⟨rfl, hb3⟩
  have hR3 := hR2.keep hb3
  go_wp2_with fail
  refine (ramline_v rfl _ hxL hL hR3).mono ?_
  rintro e w4 ⟨rfl, hb4⟩
  go_wp2_with fail
  refine (lget_v HG2.out HF2.out _ (okg x1)).mono ?_
  rintro e w5 ⟨rfl, hb5⟩
  have FE := Lib.hid (((((Fr.refl w).step hb2).step hb3).step hb4).step hb5)
  go_wp2
  go_ret2
  exact ⟨by rw [← HOR.out]; rfl, FE.out.1⟩
/-- What Load tells. -/
def loadR (g : Nat → Nat → Nat) (L addr : Nat) (n : Int) : Nat × Bool := if n ≤ 8 ∧ hasR L addr n = true then (numL (fl g) (addr - 2147483648) n.toNat, true) else (0, false)
set_option maxRecDepth 100000 in
set_option maxHeartbeats 4000000 in
theorem ramload_no (b m k L : Nat) (g : Nat → Nat → Nat) (n : Int) (addr : Nat) (w : World) (ha : addr < 18446744073709551616) (hn1 : n ≤ 9223372036854775807) (hL : L ≤ 4096) (hq : ¬ (n ≤ 8 ∧ hasR L addr n = true)) (hR : RamAt w b m k L g) :
    Calls Try.prog 39 #[.pointer (some ⟨b, 0, none⟩), .int .u64 (addr : Int), .int .i64 n] w fun e w' => e = .returned (.tuple #[.int .u64 0, .bool false]) ∧ w' = w := by
  by_cases h8 : 8 < n
  · have d1 : decide (8 < n) = true := by simp; omega
    go_enter Try.func39, Try.ntmps39
    go_wp2
    go_ret2
    exact ⟨rfl, rfl⟩
  · have d1 : decide (8 < n) = false := by simp; omega
    have hh : hasR L addr n = false := by
      cases h : hasR L addr n
      · rfl
      · exact absurd ⟨by omega, h⟩ hq
    have HH := Lib.hid hh
    clear hh hq
    go_enter Try.func39, Try.ntmps39
    go_wp2_with fail
    refine (ramhas_v HH.out _ ha hn1 hL hR).mono ?_
    rintro e w1 ⟨rfl, hw⟩
    rw [hw]
    clear hw w1
    go_wp2
    go_ret2
    exact ⟨rfl, rfl⟩
theorem has_t {L addr : Nat} {n : Int} (h : hasR L addr n = true) : 1 ≤ n ∧ 2147483648 ≤ addr ∧ ((addr : Int) - 2147483648) + n ≤ 64 * (L : Int) := by
  unfold hasR at h
  simp only [Bool.and_eq_true, decide_eq_true_eq] at h
  exact ⟨h.1.1, h.1.2, h.2⟩
theorem ramload_any (b m k L : Nat) (g : Nat → Nat → Nat) (n : Int) (addr : Nat) (w : World) (okg : ∀ i, OkL (g i)) (ha : addr < 18446744073709551616) (hn1 : n ≤ 9223372036854775807) (hL : L ≤ 4096) (hR : RamAt w b m k L g) :
    Calls Try.prog 39 #[.pointer (some ⟨b, 0, none⟩), .int .u64 (addr : Int), .int .i64 n] w fun e w' => e = .returned (.tuple #[.int .u64 (((loadR g L addr n).1 : Nat) : Int), .bool (loadR g L addr n).2]) ∧ Below w.heap.size w w' := by
  by_cases hq : n ≤ 8 ∧ hasR L addr n = true
  · obtain ⟨h1, h2, h3⟩ := has_t hq.2
    obtain ⟨N, rfl⟩ := Int.eq_ofNat_of_zero_le (by omega : 0 ≤ n)
    have e : loadR g L addr (N : Int) = (numL (fl g) (addr - 2147483648) N, true) := by unfold loadR; rw [if_pos hq, Int.toNat_natCast]
    rw [e]
    have hA : Hid (2147483648 + (addr - 2147483648) = addr) := by show _ = _; omega
    by_cases hs : (addr - 2147483648) % 64 + N ≤ 64
    · exact ramload_one b m k L g _ N addr w hA okg (by omega) (by omega) (by omega) hL hs hR
    · exact ramload_two b m k L g _ N addr w hA okg (by omega) (by omega) (by omega) hL (by omega) hR
  · have e : loadR g L addr n = (0, false) := by unfold loadR; rw [if_neg hq]
    rw [e]
    exact (ramload_no b m k L g n addr w ha hn1 hL hq hR).mono fun e w' ⟨he, hw⟩ => ⟨he, by rw [hw]; exact (Fr.refl w).1⟩
end Go.Proofs.Ytdeheoaeagoidaa
