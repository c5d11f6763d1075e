/- ram's Store over two lines; joined. -/
import Derived.Test.YtdeheoaeagoidaaTwG
namespace Go.Proofs.Ytdeheoaeagoidaa
open Go.RowKit
set_option linter.unusedSimpArgs false
set_option linter.unusedVariables false
attribute [local simp high] sizeLL zeroLL

set_option maxRecDepth 100000 in
set_option maxHeartbeats 4000000 in
theorem ramstore_two (b m k L : Nat) (g : Nat → Nat → Nat) (f n v addr : Nat) (w : World) (hA : Hid (2147483648 + f = addr)) (hv : v < 18446744073709551616) (okg : ∀ i, OkL (g i)) (hf : f + n ≤ 64 * L) (h1 : 1 ≤ n) (h8 : n ≤ 8) (hL : L ≤ 4096) (hs : 64 < f % 64 + n) (hk : k < 1000000) (hR : RamAt w b m k L g) :
    Calls Try.prog 41 #[.pointer (some ⟨b, 0, none⟩), .int .u64 (addr : Int), .int .i64 (n : Int), .int .u64 (v : Int)] w fun e w' => e = .returned (.bool true) ∧ RamAt w' b m (k + 2) L (storeG g f n v) ∧ Wrote m w w' := by
  have HH : Hid (hasR L addr (n : Int) = true) := by show _ = _; rw [← hA.out]; exact has_true h1 hf
  have HAB : Hid (addr < 18446744073709551616) := by show _ < _; have := hA.out; omega
  obtain ⟨x, hx⟩ : ∃ x, f / 64 = x := ⟨_, rfl⟩
  obtain ⟨y, hy⟩ : ∃ y, f % 64 = y := ⟨_, rfl⟩
  obtain ⟨z, hz⟩ : ∃ z, min n (64 - y) = z := ⟨_, rfl⟩
  obtain ⟨nz, hnzz⟩ : ∃ q, n - z = q := ⟨_, rfl⟩
  obtain ⟨x1, hxx⟩ : ∃ q, x + 1 = q := ⟨_, rfl⟩
  obtain ⟨vz, hvz⟩ : ∃ q, v / 2 ^ (8 * z) = q := ⟨_, rfl⟩
  have hzy : y + z = 64 := by omega
  have hzn : z < n := by omega
  have hz1 : 1 ≤ z := by omega
  have hxL : x1 < L := by omega
  have HXL : Hid (x < L) := by show _ < _; omega
  have hvz64 : vz < 18446744073709551616 := by rw [← hvz]; exact Nat.lt_of_le_of_lt (Nat.div_le_self _ _) hv
  have hfy : fitB (y : Int) (z : Int) = true := by unfold fitB; simp; omega
  have hfz : fitB 0 (nz : Int) = true := by unfold fitB; simp; omega
  have hpv : putV (g x) (y : Int) (z : Int) v = putL (g x) y z v := by unfold putV; rw [if_pos hfy, Int.toNat_natCast, Int.toNat_natCast]
  have hpw : putV (g x1) 0 (nz : Int) vz = putL (g x1) 0 nz vz := by unfold putV; rw [if_pos hfz, Int.toNat_natCast]; rfl
  have okp : OkL (putL (g x) y z v) := (okg x).put _ _ _
  have okq : OkL (putL (g x1) 0 nz vz) := (okg x1).put _ _ _
  have hext := store_two g f n v x y z x1 nz vz hx hy hzy hxx (by omega) (by omega) hvz
  obtain ⟨h, hh⟩ : ∃ h, putL (g x) y z v = h := ⟨_, rfl⟩
  obtain ⟨h', hh'⟩ : ∃ h, putL (g x1) 0 nz vz = h := ⟨_, rfl⟩
  rw [hh] at hpv okp hext
  rw [hh'] at hpw okq hext
  obtain ⟨g2, hg2⟩ : ∃ g2, updG g x h = g2 := ⟨_, rfl⟩
  rw [hg2] at hext
  obtain ⟨g3, hg3⟩ : ∃ g3, updG g2 x1 h' = g3 := ⟨_, rfl⟩
  rw [hg3] at hext
  have hgx1 : g2 x1 = g x1 := by rw [← hg2]; unfold updG; rw [if_neg (by omega)]
  have HX := Lib.hid hx
  have HY := Lib.hid hy
  have HZ := Lib.hid hz
  have HF := Lib.hid hfy
  have HF2 := Lib.hid hfz
  have HG := Lib.hid hpv
  have HGW := Lib.hid hpw
  have HG2 := Lib.hid hg2
  have HG3 := Lib.hid hg3
  have HGX := Lib.hid hgx1
  have HE := Lib.hid hext
  have OKP := Lib.hid okp
  have OKQ := Lib.hid okq
  have HFB : Hid (f < 262144) := by show _ < _; omega
  have HK : Hid (k < maxLen ∧ k + 1 < maxLen) := by show _ ∧ _; unfold maxLen; omega
  have HV := Lib.hid hv
  have HVZ := Lib.hid hvz64
  have hn8 : (n : Int) ≤ 8 := by omega
  have hn1 : (1 : Int) ≤ n := by omega
  have hzi : (z : Int) < n := by omega
  have hz0 : (1 : Int) ≤ z := by omega
  have d1 : decide (8 < (n : Int)) = false := by simp; omega
  have d2 : decide ((z : Int) < (n : Int)) = true := by simp; omega
  have hx1 : IntKind.i64.wrap ((x : Int) + 1) = (x1 : Int) := by rw [IntKind.wrap_i64]; omega
  have hx1' : (x : Int) + 1 = (x1 : Int) := by omega
  have hnz : IntKind.i64.wrap ((n : Int) - z) = (nz : Int) := by rw [IntKind.wrap_i64]; omega
  have hnz' : (n : Int) - z = (nz : Int) := by omega
  have hsh : (v : Int) / (2 : Int) ^ (8 * z) = (vz : Int) := by
    have e : ((2 ^ (8 * z) : Nat) : Int) = (2 : Int) ^ (8 * z) := by simp
    rw [← e, ← hvz]; simp
  clear hx hy hz hfy hfz hpv hpw hf hs hh hh' hg2 hg3 hext okp okq hv hvz hvz64 hzy hzn hnzz hxx hgx1
  have l3 := size_cellsL
  have sn := stnLL
  go_enter Try.func41, Try.ntmps41
  go_wp2_with fail
  refine (ramhas_v HH.out _ HAB.out (by omega) hL hR).mono ?_
  rintro e w1 ⟨rfl, hw⟩
  rw [hw]
  clear hw w1
  go_wp2_with fail
  refine (ramsplit_v hA.out HX.out HY.out HZ.out _ HFB.out (by omega)).mono ?_
  rintro e w1 ⟨rfl, hw⟩
  rw [hw]
  clear hw w1
  go_wp2_with fail
  refine (ramline_v rfl _ HXL.out hL hR).mono ?_
  rintro e w2 ⟨rfl, hb2⟩
  have hR2 := hR.keep hb2
  have W2 := (Wrote.refl m w).below hb2
  go_wp2_with fail
  refine (lput_v HG.out HF.out _ (okg x) HV.out).mono ?_
  rintro e w3 ⟨rfl, hb3⟩
  have hR3 := hR2.keep hb3
  have W3 := (W2.below hb3).alloc (.cells (cellsL h) 135)
  have ky := heap_alloc_new w3 (.cells (cellsL h) 135)
  have hR4 := hR3.keep ((Fr.refl w3).alloc (.cells (cellsL h) 135)).1
  have hlm : m < w3.heap.size := hR3.2.lt
  have hym : w3.heap.size ≠ m := by omega
  have ld := ld_rowL (P := Try.prog) ky
  go_wp2_with fail
  refine (setline_v HG2.out _ OKP.out HXL.out hL HK.out.1 hR4).mono ?_
  rintro e w5 ⟨rfl, hR5, W5⟩
  have ky5 := W5.2 _ _ hym ky
  have WW := W3.trans W5
  clear ld sn
  go_wp2_with fail
  refine (ramline_v HGX.out _ hxL hL hR5).mono ?_
  rintro e w6 ⟨rfl, hb6⟩
  have hR6 := hR5.keep hb6
  have ky6 := keepB hb6 ky5
  have W6 := WW.below hb6
  go_wp2_with fail
  refine (lput_v HGW.out HF2.out _ (okg x1) HVZ.out).mono ?_
  rintro e w7 ⟨rfl, hb7⟩
  have hR7 := hR6.keep hb7
  have ky7 := keepB hb7 ky6
  have W7 := W6.below hb7
  have ss := st_rowL Try.prog ky7 h'
  have ky8 := row_at ky7 (cellsL h')
  have ld2 := ld_rowL (P := Try.prog) ky8
  have hbm : w3.heap.size ≠ b := by have := lt_of_at hR3.1; omega
  have hR8 : RamAt (w7.setRow w3.heap.size (cellsL h')) b m (k + 1) L g2 := ⟨keep_row hR7.1 hbm _, hR7.2.same (by simp [World.setRow, Array.getElem?_modify, hym])⟩
  have hlw : w.heap.size ≤ w3.heap.size := (((Fr.refl w).step hb2).step hb3).2
  have hlm0 : m < w.heap.size := hR.2.lt
  have W8 : Wrote m w (w7.setRow w3.heap.size (cellsL h')) :=
    ⟨fun B w0 hB hf => (W7.1 B w0 hB hf).row (Nat.le_trans hB (Nat.le_of_lt hlm)) _, fun b' o hne ho => keep_row (W7.2 b' o hne ho) (by have := lt_of_at ho; omega) _⟩
  go_wp2_with fail
  refine (setline_v HG3.out _ OKQ.out hxL hL HK.out.2 hR8).mono ?_
  rintro e w9 ⟨rfl, hR9, W9⟩
  have HR9 := Lib.hid (hR9.ext HE.out)
  have WE := Lib.hid (W8.trans W9)
  clear ld2 ss
  go_wp2
  go_ret
  exact ⟨rfl, HR9.out, WE.out⟩
set_option maxRecDepth 100000 in
set_option maxHeartbeats 4000000 in
theorem ramstore_no (b m k L : Nat) (g : Nat → Nat → Nat) (n : Int) (v addr : Nat) (w : World) (ha : addr < 18446744073709551616) (hn1 : n ≤ 9223372036854775807) (hL : L ≤ 4096) (hq : ¬ (n ≤ 8 ∧ hasR L addr n = true)) (hR : RamAt w b m k L g) :
    Calls Try.prog 41 #[.pointer (some ⟨b, 0, none⟩), .int .u64 (addr : Int), .int .i64 n, .int .u64 (v : Int)] w fun e w' => e = .returned (.bool false) ∧ w' = w := by
  by_cases h8 : 8 < n
  · have d1 : decide (8 < n) = true := by simp; omega
    go_enter Try.func41, Try.ntmps41
    go_wp2
    go_ret
    exact ⟨rfl, rfl⟩
  · have d1 : decide (8 < n) = false := by simp; omega
    have hh : hasR L addr n = false := by
      cases h : hasR L addr n
      · rfl
      · exact absurd ⟨by omega, h⟩ hq
    have HH := Lib.hid hh
    clear hh hq
    go_enter Try.func41, Try.ntmps41
    go_wp2_with fail
    refine (ramhas_v HH.out _ ha hn1 hL hR).mono ?_
    rintro e w1 ⟨rfl, hw⟩
    rw [hw]
    clear hw w1
    go_wp2
    go_ret
    exact ⟨rfl, rfl⟩
/-- What Store leaves, and tells. -/
def storeR (g : Nat → Nat → Nat) (L addr : Nat) (n : Int) (v : Nat) : (Nat → Nat → Nat) × Bool := if n ≤ 8 ∧ hasR L addr n = true then (storeG g (addr - 2147483648) n.toNat v, true) else (g, false)
theorem ramstore_any (b m k L : Nat) (g : Nat → Nat → Nat) (n : Int) (v addr : Nat) (w : World) (okg : ∀ i, OkL (g i)) (ha : addr < 18446744073709551616) (hv : v < 18446744073709551616) (hn1 : n ≤ 9223372036854775807) (hL : L ≤ 4096) (hk : k < 1000000) (hR : RamAt w b m k L g) :
    Calls Try.prog 41 #[.pointer (some ⟨b, 0, none⟩), .int .u64 (addr : Int), .int .i64 n, .int .u64 (v : Int)] w fun e w' => e = .returned (.bool (storeR g L addr n v).2) ∧ RamAt w' b m (k + 2) L (storeR g L addr n v).1 ∧ Wrote m w w' := by
  by_cases hq : n ≤ 8 ∧ hasR L addr n = true
  · obtain ⟨h1, h2, h3⟩ := has_t hq.2
    obtain ⟨N, rfl⟩ := Int.eq_ofNat_of_zero_le (by omega : 0 ≤ n)
    have e : storeR g L addr (N : Int) v = (storeG g (addr - 2147483648) N v, true) := by unfold storeR; rw [if_pos hq, Int.toNat_natCast]
    rw [e]
    have hA : Hid (2147483648 + (addr - 2147483648) = addr) := by show _ = _; omega
    by_cases hs : (addr - 2147483648) % 64 + N ≤ 64
    · exact ramstore_one b m k L g _ N v addr w hA hv okg (by omega) (by omega) (by omega) hL hs hk hR
    · exact ramstore_two b m k L g _ N v addr w hA hv okg (by omega) (by omega) (by omega) hL (by omega) hk hR
  · have e : storeR g L addr n v = (g, false) := by unfold storeR; rw [if_neg hq]
    rw [e]
    exact (ramstore_no b m k L g n v addr w ha hn1 hL hq hR).mono fun e w' ⟨he, hw⟩ => ⟨he, by rw [hw]; exact hR.mono (by omega), by rw [hw]; exact Wrote.refl _ _⟩
theorem storeR_ok {g : Nat → Nat → Nat} (ok : ∀ i, OkL (g i)) (L addr : Nat) (n : Int) (v : Nat) : ∀ i, OkL ((storeR g L addr n v).1 i) := by
  unfold storeR
  split
  · exact storeG_ok ok _ _ _
  · exact ok
theorem RamAt.wrote {w w' : World} {b m k L m' : Nat} {g : Nat → Nat → Nat} (h : RamAt w b m k L g) (hW : Wrote m' w w') (hb : b ≠ m') (hm : m ≠ m') : RamAt w' b m k L g := by
  obtain ⟨h1, D, ⟨es, clock, h2, h3⟩, hD⟩ := h
  exact ⟨hW.2 _ _ hb h1, D, ⟨es, clock, hW.2 _ _ hm h2, h3⟩, hD⟩
theorem ramload_v {b m k L : Nat} {g : Nat → Nat → Nat} {n : Int} {addr x : Nat} {q : Bool} (hr : loadR g L addr n = (x, q)) (w : World) (okg : ∀ i, OkL (g i)) (ha : addr < 18446744073709551616) (hn1 : n ≤ 9223372036854775807) (hL : L ≤ 4096) (hR : RamAt w b m k L g) :
    Calls Try.prog 39 #[.pointer (some ⟨b, 0, none⟩), .int .u64 (addr : Int), .int .i64 n] w fun e w' => e = .returned (.tuple #[.int .u64 (x : Int), .bool q]) ∧ Below w.heap.size w w' := by
  have := ramload_any b m k L g n addr w okg ha hn1 hL hR
  rw [hr] at this
  exact this
theorem ramstore_v {b m k L : Nat} {g g' : Nat → Nat → Nat} {n : Int} {v addr : Nat} {q : Bool} (hr : storeR g L addr n v = (g', q)) (w : World) (okg : ∀ i, OkL (g i)) (ha : addr < 18446744073709551616) (hv : v < 18446744073709551616) (hn1 : n ≤ 9223372036854775807) (hL : L ≤ 4096) (hk : k < 1000000) (hR : RamAt w b m k L g) :
    Calls Try.prog 41 #[.pointer (some ⟨b, 0, none⟩), .int .u64 (addr : Int), .int .i64 n, .int .u64 (v : Int)] w fun e w' => e = .returned (.bool q) ∧ RamAt w' b m (k + 2) L g' ∧ Wrote m w w' := by
  have := ramstore_any b m k L g n v addr w okg ha hv hn1 hL hk hR
  rw [hr] at this
  exact this
def z10 : Nat → Nat → Nat := fun _ _ => 0
theorem z10_ok : ∀ i, OkL (z10 i) := fun i j => by show 0 < 256; omega
theorem pair2 {A : Type} {s : A × Bool} {q : Bool} (h : s.2 = q) : s = (s.1, q) := by rw [← h]
end Go.Proofs.Ytdeheoaeagoidaa
