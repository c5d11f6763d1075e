/- ram's Store. -/
import Derived.Test.YtdeheoaeagoidaaTwF
namespace Go.Proofs.Ytdeheoaeagoidaa
open Go.RowKit
set_option linter.unusedSimpArgs false
set_option linter.unusedVariables false
attribute [local simp high] sizeLL zeroLL

theorem MemAt.ext {w : World} {m n : Nat} {g g' : Nat → Nat → Nat} (h : MemAt w m n g) (e : ∀ i, cellsL (g i) = cellsL (g' i)) : MemAt w m n g' := by
  obtain ⟨D, ho, hD⟩ := h
  exact ⟨D, ho, fun i hi => by rw [← e i]; exact hD.1 i hi, hD.2⟩
theorem MemAt.ext' {w : World} {m n : Nat} {g g' : Nat → Nat → Nat} (h : MemAt w m n g) (e : ∀ i, i < 65536 → cellsL (g i) = cellsL (g' i)) : MemAt w m n g' := by
  obtain ⟨D, ho, hD⟩ := h
  exact ⟨D, ho, fun i hi => by rw [← e i hi]; exact hD.1 i hi, hD.2⟩
theorem RamAt.ext {w : World} {b m n L : Nat} {g g' : Nat → Nat → Nat} (h : RamAt w b m n L g) (e : ∀ i, cellsL (g i) = cellsL (g' i)) : RamAt w b m n L g' := ⟨h.1, h.2.ext e⟩
theorem RamAt.mono {w : World} {b m n n' L : Nat} {g : Nat → Nat → Nat} (h : RamAt w b m n L g) (hn : n ≤ n') : RamAt w b m n' L g := ⟨h.1, h.2.mono hn⟩
theorem setline_any (b m k L : Nat) (g : Nat → Nat → Nat) (i : Nat) (h : Nat → Nat) (w : World) (ok : OkL h) (hi : i < L) (hL : L ≤ 4096) (hk : k < maxLen) (hR0 : RamAt w b m k L g) :
    Calls Try.prog 74 #[.pointer (some ⟨b, 0, none⟩), .int .i64 (i : Int), .agg (cellsL h)] w fun e w' => e = .returned (.bool true) ∧ RamAt w' b m (k + 1) L (updG g i h) ∧ Wrote m w w' := by
  by_cases hz : Value.agg (cellsL h) = zline
  · exact (setline_zero b m k L g i h w ok hi hL hz hR0).mono fun e w' ⟨he, hR, hW⟩ => ⟨he, hR.mono (Nat.le_succ _), hW⟩
  · exact setline_some b m k L g i h w ok hi hL hk hz hR0
theorem setline_v {b m k L : Nat} {g g' : Nat → Nat → Nat} {i : Nat} {h : Nat → Nat} (hg : updG g i h = g') (w : World) (ok : OkL h) (hi : i < L) (hL : L ≤ 4096) (hk : k < maxLen) (hR0 : RamAt w b m k L g) :
    Calls Try.prog 74 #[.pointer (some ⟨b, 0, none⟩), .int .i64 (i : Int), .agg (cellsL h)] w fun e w' => e = .returned (.bool true) ∧ RamAt w' b m (k + 1) L g' ∧ Wrote m w w' := by
  rw [← hg]; exact setline_any b m k L g i h w ok hi hL hk hR0
/-- What a store leaves. -/
def storeG (g : Nat → Nat → Nat) (f n v : Nat) : Nat → Nat → Nat := fun i j => if j < 64 then putL (fl g) f n v (64 * i + j) else g i j
theorem fl_storeG (g : Nat → Nat → Nat) (f n v p : Nat) : fl (storeG g f n v) p = putL (fl g) f n v p := by
  unfold fl storeG
  rw [if_pos (by omega), show 64 * (p / 64) + p % 64 = p by omega]
  rfl
theorem storeG_ok {g : Nat → Nat → Nat} (ok : ∀ i, OkL (g i)) (f n v : Nat) : ∀ i, OkL (storeG g f n v i) := by
  intro i j
  unfold storeG
  split
  · exact (fl_ok ok).put f n v _
  · exact ok i j
theorem fl_at (g : Nat → Nat → Nat) (i j : Nat) (hj : j < 64) : fl g (64 * i + j) = g i j := by
  unfold fl
  rw [show (64 * i + j) / 64 = i by omega, show (64 * i + j) % 64 = j by omega]
theorem store_one (g : Nat → Nat → Nat) (f n v x y : Nat) (hx : f / 64 = x) (hy : f % 64 = y) (hs : y + n ≤ 64) (i : Nat) : cellsL (updG g x (putL (g x) y n v) i) = cellsL (storeG g f n v i) := by
  refine cellsL_ext fun j hj => ?_
  unfold storeG updG
  rw [if_pos hj]
  by_cases e : i = x
  · subst e
    rw [if_pos rfl]
    unfold putL
    by_cases h : y ≤ j ∧ j < y + n
    · rw [if_pos h, if_pos (by omega), show 64 * i + j - f = j - y by omega]
    · rw [if_neg h, if_neg (by omega), fl_at g i j hj]
  · rw [if_neg e]
    unfold putL
    rw [if_neg (by omega), fl_at g i j hj]
theorem store_two (g : Nat → Nat → Nat) (f n v x y z x1 nz vz : Nat) (hx : f / 64 = x) (hy : f % 64 = y) (hz : y + z = 64) (h1 : x + 1 = x1) (hn : n = z + nz) (hnz : nz ≤ 64) (hv : v / 2 ^ (8 * z) = vz) (i : Nat) :
    cellsL (updG (updG g x (putL (g x) y z v)) x1 (putL (g x1) 0 nz vz) i) = cellsL (storeG g f n v i) := by
  refine cellsL_ext fun j hj => ?_
  unfold storeG updG
  rw [if_pos hj]
  by_cases e1 : i = x1
  · rw [if_pos e1, ← e1]
    unfold putL
    by_cases h : 0 ≤ j ∧ j < 0 + nz
    · rw [if_pos h, if_pos (by omega), show 64 * i + j - f = z + j by omega, ← hv, Nat.sub_zero, Nat.div_div_eq_div_mul]
      congr 2
      rw [Nat.pow_add, Nat.pow_mul]
    · rw [if_neg h, if_neg (by omega), fl_at g i j hj]
  · rw [if_neg e1]
    by_cases e : i = x
    · rw [if_pos e, ← e]
      unfold putL
      by_cases h : y ≤ j ∧ j < y + z
      · rw [if_pos h, if_pos (by omega), show 64 * i + j - f = j - y by omega]
      · rw [if_neg h, if_neg (by omega), fl_at g i j hj]
    · rw [if_neg e]
      unfold putL
      rw [if_neg (by omega), fl_at g i j hj]
set_option maxRecDepth 100000 in
set_option maxHeartbeats 4000000 in
theorem ramstore_one (b m k L : Nat) (g : Nat → Nat → Nat) (f n v addr : Nat) (w : World) (hA : Hid (2147483648 + f = addr)) (hv : v < 18446744073709551616) (okg : ∀ i, OkL (g i)) (hf : f + n ≤ 64 * L) (h1 : 1 ≤ n) (h8 : n ≤ 8) (hL : L ≤ 4096) (hs : f % 64 + n ≤ 64) (hk : k < 1000000) (hR : RamAt w b m k L g) :
    Calls Try.prog 41 #[.pointer (some ⟨b, 0, none⟩), .int .u64 (addr : Int), .int .i64 (n : Int), .int .u64 (v : Int)] w fun e w' => e = .returned (.bool true) ∧ RamAt w' b m (k + 2) L (storeG g f n v) ∧ Wrote m w w' := by
  have HH : Hid (hasR L addr (n : Int) = true) := by show _ = _; rw [← hA.out]; exact has_true h1 hf
  have HAB : Hid (addr < 18446744073709551616) := by show _ < _; have := hA.out; omega
  obtain ⟨x, hx⟩ : ∃ x, f / 64 = x := ⟨_, rfl⟩
  obtain ⟨y, hy⟩ : ∃ y, f % 64 = y := ⟨_, rfl⟩
  have hxL : x < L := by omega
  have hz : min n (64 - y) = n := by omega
  have hfy : fitB (y : Int) (n : Int) = true := by unfold fitB; simp; omega
  have hpv : putV (g x) (y : Int) (n : Int) v = putL (g x) y n v := by unfold putV; rw [if_pos hfy, Int.toNat_natCast, Int.toNat_natCast]
  have okp : OkL (putL (g x) y n v) := (okg x).put _ _ _
  have hext := store_one g f n v x y hx hy (by omega)
  obtain ⟨h, hh⟩ : ∃ h, putL (g x) y n v = h := ⟨_, rfl⟩
  obtain ⟨g2, hg2⟩ : ∃ g2, updG g x h = g2 := ⟨_, rfl⟩
  rw [hh] at hpv okp hext
  rw [hg2] at hext
  have HX := Lib.hid hx
  have HY := Lib.hid hy
  have HZ := Lib.hid hz
  have HF := Lib.hid hfy
  have HG := Lib.hid hpv
  have HG2 := Lib.hid hg2
  have HE := Lib.hid hext
  have OKP := Lib.hid okp
  have HFB : Hid (f < 262144) := by show _ < _; omega
  have HK : Hid (k < maxLen) := by show k < maxLen; unfold maxLen; omega
  have HV := Lib.hid hv
  have hn8 : (n : Int) ≤ 8 := by omega
  have hn1 : (1 : Int) ≤ n := by omega
  have d1 : decide (8 < (n : Int)) = false := by simp; omega
  clear hx hy hz hfy hpv hf hs hh hg2 hext okp hv
  have l3 := size_cellsL
  have sn := stnLL
  go_enter Try.func41, Try.ntmps41
  go_wp2_with fail
  refine (ramhas_v HH.out _ HAB.out (by omega) hL hR).mono ?_
  rintro e w1 ⟨rfl, hw⟩
  rw [hw]
  clear hw w1
  go_wp2_with fail
  refine (ramsplit_v hA.out HX.out HY.out HZ.out _ HFB.out (by omega)).mono ?_
  rintro e w1 ⟨rfl, hw⟩
  rw [hw]
  clear hw w1
  go_wp2_with fail
  refine (ramline_v rfl _ hxL hL hR).mono ?_
  rintro e w2 ⟨rfl, hb2⟩
  have hR2 := hR.keep hb2
  have W2 := (Wrote.refl m w).below hb2
  go_wp2_with fail
  refine (lput_v HG.out HF.out _ (okg x) HV.out).mono ?_
  rintro e w3 ⟨rfl, hb3⟩
  have hR3 := hR2.keep hb3
  have W3 := (W2.below hb3).alloc (.cells (cellsL h) 135)
  have ky := heap_alloc_new w3 (.cells (cellsL h) 135)
  have hR4 := hR3.keep ((Fr.refl w3).alloc (.cells (cellsL h) 135)).1
  have ld := ld_rowL (P := Try.prog) ky
  go_wp2_with fail
  refine (setline_v HG2.out _ OKP.out hxL hL HK.out hR4).mono ?_
  rintro e w5 ⟨rfl, hR5, W5⟩
  have HR5 := Lib.hid ((hR5.ext HE.out).mono (Nat.le_succ _))
  have WE := Lib.hid (W3.trans W5)
  clear ld
  go_wp2
  go_ret
  exact ⟨rfl, HR5.out, WE.out⟩
end Go.Proofs.Ytdeheoaeagoidaa
