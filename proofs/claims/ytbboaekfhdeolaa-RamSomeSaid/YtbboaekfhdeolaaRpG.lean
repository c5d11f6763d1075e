/- ram's Fill. -/
import Derived.Test.YtbboaekfhdeolaaRpF
import Derived.DataElems
namespace Go.Proofs.Ytbboaekfhdeolaa
open Go.RowKit
set_option linter.unusedSimpArgs false
set_option linter.unusedVariables false
attribute [local simp high] sizeLL zeroLL sizeLR zeroLR

def restA (a : Option Addr) (z cap : Nat) : Option Addr := if cap = z then a else a.map (·.add z)
theorem Bytes.rest {w : World} {a : Option Addr} {r cap z : Nat} {bs : Nat → Nat} (h : Bytes w a r bs) (hz : z ≤ r) (hc : r ≤ cap) : Bytes w (restA a z cap) (r - z) (fun i => bs (z + i)) := by
  unfold restA
  split
  · intro i hi; omega
  · intro i hi
    obtain ⟨ad, rfl, hl, hx⟩ := h (z + i) (by omega)
    refine ⟨ad.add z, rfl, ?_, ?_⟩
    · have : (ad.add z).block = ad.block := by unfold Addr.add; split <;> rfl
      rw [this]; exact hl
    · rw [Go.Addr.add_add]; exact hx
theorem restA_ne {a : Option Addr} {z cap m : Nat} (h : ∀ ad, a = some ad → ad.block ≠ m) : ∀ ad, restA a z cap = some ad → ad.block ≠ m := by
  unfold restA
  split
  · exact h
  · intro ad e
    cases a with
    | none => cases e
    | some b =>
      simp only [Option.map_some, Option.some.injEq] at e
      subst e
      have : (b.add z).block = b.block := by unfold Addr.add; split <;> rfl
      rw [this]; exact h b rfl
theorem run_rest (a : Option Addr) (r cap z : Nat) (hz : z ≤ r) (w : World) : (Instr.slice 22 (.slice a r cap) (some (.int .i64 (z : Int))) none none).run Try.prog w = .ok (.slice (restA a z cap) (r - z) (cap - z)) w := by
  have h8 : (sizeOf 5).run Try.prog w = .ok 1 w := by kernel_rfl
  have he : Try.prog.elem 22 = 5 := by kernel_rfl
  rw [run_slice_l w _ a r cap (by rw [he]; exact Try.underlying22) .i64 (z : Int) (by omega) (by omega), he, h8]
  simp [Result.andThen, sliced, restA]
theorem run_front (a : Option Addr) (r cap z : Nat) (hz : z ≤ cap) (w : World) : (Instr.slice 22 (.slice a r cap) none (some (.int .i64 (z : Int))) none).run Try.prog w = .ok (.slice a z cap) w := by
  have h8 : (sizeOf 5).run Try.prog w = .ok 1 w := by kernel_rfl
  have he : Try.prog.elem 22 = 5 := by kernel_rfl
  rw [run_slice_h w _ a r cap (by rw [he]; exact Try.underlying22) .i64 (z : Int) (by omega) (by omega), he, h8]
  simp [Result.andThen, sliced]
  intro _
  cases a <;> simp [Addr.add]
/-- A line with bytes laid over a part of it. -/
theorem copyL_mid (h b : Nat → Nat) (y z : Nat) (hz : y + z ≤ 64) : ((cellsL h).toList.take y ++ byteCells b z ++ (cellsL h).toList.drop (y + z)).toArray = cellsL (fillL h y b z) := by
  apply Array.ext_getElem?
  intro j
  simp only [List.getElem?_toArray]
  have ll : (cellsL h).toList.length = 64 := by rw [Array.length_toList, size_cellsL']
  by_cases hj : j < 64
  · rw [cellsL_get _ hj]
    unfold fillL
    rw [List.append_assoc]
    by_cases h1 : j < y
    · rw [List.getElem?_append_left (by rw [List.length_take, ll]; omega), List.getElem?_take, if_pos h1, if_neg (by omega)]
      simpa using cellsL_get h hj
    · rw [List.getElem?_append_right (by rw [List.length_take, ll]; omega), List.length_take, ll, Nat.min_eq_left (by omega)]
      by_cases h2 : j < y + z
      · rw [List.getElem?_append_left (by rw [byteCells_len]; omega), if_pos (by omega)]
        unfold byteCells
        simp [show j - y < z by omega]
      · rw [List.getElem?_append_right (by rw [byteCells_len]; omega), byteCells_len, List.getElem?_drop, if_neg (by omega), show y + z + (j - y - z) = j by omega]
        simpa using cellsL_get h hj
  · have n2 : (cellsL (fillL h y b z))[j]? = none := by rw [Array.getElem?_eq_none]; rw [size_cellsL']; omega
    rw [n2, List.getElem?_eq_none]
    rw [List.length_append, List.length_append, byteCells_len, List.length_drop, List.length_take, ll]
    omega
theorem fill_next (g : Nat → Nat → Nat) (f j z : Nat) (bs : Nat → Nat) (x y : Nat) (hx : (f + j) / 64 = x) (hy : (f + j) % 64 = y) (hz : y + z ≤ 64) (i : Nat) :
    cellsL (updG (fillG g f bs j) x (fillL (fillG g f bs j x) y (fun p => bs (j + p)) z) i) = cellsL (fillG g f bs (j + z) i) := by
  refine cellsL_ext fun q hq => ?_
  unfold updG
  by_cases e : i = x
  · subst e
    rw [if_pos rfl]
    unfold fillL fillG
    simp only [if_pos hq]
    unfold fillL
    rw [fl_at _ _ _ hq]
    by_cases h1 : y ≤ q ∧ q < y + z
    · rw [if_pos h1, if_pos (by omega)]
      congr 1; omega
    · rw [if_neg h1]
      by_cases h2 : f ≤ 64 * i + q ∧ 64 * i + q < f + j
      · rw [if_pos h2, if_pos (by omega)]
      · rw [if_neg h2, if_neg (by omega)]
  · rw [if_neg e]
    unfold fillG
    simp only [if_pos hq]
    unfold fillL
    by_cases h2 : f ≤ 64 * i + q ∧ 64 * i + q < f + j
    · rw [if_pos h2, if_pos (by omega)]
    · rw [if_neg h2, if_neg (by omega)]
theorem fillG_zero (g : Nat → Nat → Nat) (f : Nat) (bs : Nat → Nat) (i : Nat) : cellsL (g i) = cellsL (fillG g f bs 0 i) := by
  refine cellsL_ext fun q hq => ?_
  unfold fillG
  rw [if_pos hq, fillL_zero, fl_at _ _ _ hq]
theorem fillL_ok {h : Nat → Nat} (ok : OkL h) (y : Nat) {b : Nat → Nat} {z : Nat} (hb : ∀ i, i < z → b i < 256) : OkL (fillL h y b z) := by
  intro i; unfold fillL; split
  · exact hb _ (by omega)
  · exact ok i
theorem fillG_ok {g : Nat → Nat → Nat} (ok : ∀ i, OkL (g i)) (f : Nat) {bs : Nat → Nat} {n : Nat} (hb : ∀ i, i < n → bs i < 256) : ∀ i, OkL (fillG g f bs n i) := by
  intro i j
  unfold fillG
  split
  · exact fillL_ok (fl_ok ok) f hb _
  · exact ok i j
theorem run_lineRest (B y : Nat) (hy : y < 64) (w : World) : (Instr.sliceAt 26 (.pointer (some ⟨B, 0, none⟩)) (some (.int .i64 (y : Int))) none none).run Try.prog w = .ok (.slice (some ⟨B, y, none⟩) (64 - y) (64 - y)) w := by
  have h8 : (sizeOf 5).run Try.prog w = .ok 1 w := by kernel_rfl
  have he : Try.prog.elem 26 = 5 := by kernel_rfl
  have ha : Try.prog.arrayLen 26 = 64 := by kernel_rfl
  rw [run_sliceAt_array_l w _ _ (by rw [he, ha]; exact Try.underlying26) .i64 (y : Int) (by omega) (by rw [ha]; omega), he, h8, ha]
  have : ¬ (64 = y) := by omega
  simp [Result.andThen, slicedAt, this, Addr.add_mid, go_sem]
theorem run_copy_mid (B y z cap c1 c2 : Nat) (a : Option Addr) (h b : Nat → Nat) (t : TypeId) (w : World) (hz : y + z ≤ 64) (hz1 : 1 ≤ z) (hb : Bytes w a z b) (hB : w.heap[B]? = some (.cells (cellsL h) t)) :
    (Builtin.copy_ #[22, 22] 3 #[.slice (some ⟨B, y, none⟩) (64 - y) c1, .slice a z cap]).run Try.prog w = .ok (goInt z) (w.setRow B (cellsL (fillL h y b z))) := by
  obtain ⟨ad, rfl, _, _⟩ := hb 0 hz1
  have := run_copy_row (P := Try.prog) w 22 22 3 5 B y (64 - y) c1 ad z cap (cellsL h) t (byteCells b z) Try.underlying22 sz8 hB
    (by rw [byteCells_len]; exact (Nat.min_eq_left (by omega)).symm)
    (fun j v hj => by
      have hjz : j < z := by
        have := (List.getElem?_eq_some_iff.1 hj).1
        rwa [byteCells_len] at this
      obtain ⟨ad', e, hl, hc⟩ := hb j hjz
      cases e
      rw [hc]
      unfold byteCells at hj
      simpa [hjz] using hj)
    (by rw [byteCells_len, size_cellsL']; omega) (byteCells_one _ _)
  rw [byteCells_len, copyL_mid h b y z hz] at this
  exact this
theorem Bytes.front {w : World} {a : Option Addr} {r z : Nat} {bs : Nat → Nat} (h : Bytes w a r bs) (hz : z ≤ r) : Bytes w a z bs := fun i hi => h i (by omega)
theorem ramline_w {b m k L : Nat} {g : Nat → Nat → Nat} {i : Nat} (w : World) (hi : i < L) (hL : L ≤ 4096) (hR : RamAt w b m k L g) :
    Calls Try.prog 38 #[.pointer (some ⟨b, 0, none⟩), .int .i64 (i : Int)] w fun e w' => e = .returned (.agg (cellsL (g i))) ∧ Below w.heap.size w w' := ramline_yes b m k L g i w hi hL hR
set_option maxRecDepth 100000 in
set_option maxHeartbeats 8000000 in
theorem ramfill_yes (b m k L f n addr bcap : Nat) (a : Option Addr) (g : Nat → Nat → Nat) (bs : Nat → Nat) (w : World) (hA : Hid (2147483648 + f = addr)) (okg : ∀ i, OkL (g i)) (hf : f + n ≤ 64 * L) (h1 : 1 ≤ n) (hn : n ≤ 500) (hcp : n ≤ bcap) (hL : L ≤ 4096) (hk : k < 1000000) (hR : RamAt w b m k L g) (hb : Bytes w a n bs) (hb8 : ∀ i, i < n → bs i < 256) (hne : ∀ ad, a = some ad → ad.block ≠ m) :
    Calls Try.prog 40 #[.pointer (some ⟨b, 0, none⟩), .int .u64 (addr : Int), .slice a n bcap] w fun e w' => e = .returned (.bool true) ∧ RamAt w' b m (k + n) L (fillG g f bs n) ∧ Wrote m w w' := by
  have HH : Hid (hasR L addr (n : Int) = true) := by show _ = _; rw [← hA.out]; exact has_true h1 hf
  have HAB : Hid (addr < 18446744073709551616) := by show _ < _; have := hA.out; omega
  have hmt : decide ((n : Int) = 0) = false := by simp; omega
  have hmt' : ¬ ((n : Int) = 0) := by omega
  go_enter Try.func40, Try.ntmps40
  go_wp2_with fail
  refine (ramhas_v HH.out _ HAB.out (by omega) hL hR).mono ?_
  rintro e w1 ⟨rfl, hw⟩
  rw [hw]
  clear hw w1
  go_wp2_with fail
  go_loopw [1, 2] (fun u v wr => ∃ (j : Nat) (a' : Option Addr) (cap' : Nat), j ≤ n ∧ u = .int .u64 ((addr + j : Nat) : Int) ∧ v = .slice a' (n - j) cap' ∧ n - j ≤ cap' ∧ Bytes w a' (n - j) (fun i => bs (j + i)) ∧ (∀ ad, a' = some ad → ad.block ≠ m) ∧ RamAt wr b m (k + j) L (fillG g f bs j) ∧ Wrote m w wr)
    (fun _ v _ => match v with | .slice _ l _ => l | _ => 0)
  case atStart => exact ⟨0, a, bcap, by omega, by simp, by simp, by omega, by simpa using hb, hne, hR.ext (fillG_zero g f bs), Wrote.refl _ _⟩
  case round =>
    obtain ⟨j, a', cap', hj, rfl, rfl, hrc, hby, hne', hRj, hWj⟩ := hrel
    clear hb hne HH HAB hmt hmt'
    by_cases hlt : j < n
    · obtain ⟨r, hr⟩ : ∃ r, n - j = r := ⟨_, rfl⟩
      obtain ⟨A, hAe⟩ : ∃ A, addr + j = A := ⟨_, rfl⟩
      obtain ⟨x, hx⟩ : ∃ x, (f + j) / 64 = x := ⟨_, rfl⟩
      obtain ⟨y, hy⟩ : ∃ y, (f + j) % 64 = y := ⟨_, rfl⟩
      obtain ⟨z, hz⟩ : ∃ z, min r (64 - y) = z := ⟨_, rfl⟩
      obtain ⟨h, hh⟩ : ∃ h, fillG g f bs j x = h := ⟨_, rfl⟩
      rw [hr] at hrc hby
      rw [hAe, hr]
      have hAj : Hid (2147483648 + (f + j) = A) := by show _ = _; have := hA.out; omega
      have okh : OkL h := by rw [← hh]; exact fillG_ok okg f (fun i hi => hb8 i (by omega)) x
      have hzy : y + z ≤ 64 := by omega
      have hy64 : y < 64 := by omega
      have hzr : z ≤ r := by omega
      have hz1 : 1 ≤ z := by omega
      have hr5 : r ≤ 500 := by omega
      have hxL : x < L := by omega
      have okq : OkL (fillL h y (fun p => bs (j + p)) z) := fillL_ok okh y (fun i hi => hb8 _ (by omega))
      have hext := fill_next g f j z bs x y hx hy hzy
      rw [hh] at hext
      obtain ⟨q, hq⟩ : ∃ q, fillL h y (fun p => bs (j + p)) z = q := ⟨_, rfl⟩
      rw [hq] at okq hext
      have HQ := Lib.hid hq
      have hFB : Hid (f + j < 262144) := by show _ < _; omega
      have hnz : Hid (n - (j + z) = r - z) := by show _ = _; omega
      have hjz : Hid (j + z ≤ n) := by show _ ≤ _; omega
      have hAz : Hid (((A : Nat) : Int) + z = ((addr + (j + z) : Nat) : Int)) := by show _ = _; omega
      have hA64 : (A : Int) + z < 18446744073709551616 := by have := hAj.out; have := hFB.out; omega
      have hwz : IntKind.u64.wrap (z : Int) = (z : Int) := by rw [IntKind.wrap_u64]; omega
      have hwA : IntKind.u64.wrap ((A : Int) + z) = (A : Int) + z := by rw [IntKind.wrap_u64]; omega
      have HX := Lib.hid hx
      have HY := Lib.hid hy
      have HZ := Lib.hid hz
      have HE := Lib.hid hext
      have HH := Lib.hid hh
      have HKJ : Hid (k + j < maxLen) := by show _ < _; unfold maxLen; omega
      have hr0 : (0 : Int) < r := by omega
      have hrd : decide ((0 : Int) < r) = true := by simp; omega
      have hzri : (z : Int) ≤ r := by omega
      have hzci : (z : Int) ≤ cap' := by omega
      have hy0 : (0 : Int) ≤ y := by omega
      have hy64i : (y : Int) ≤ 64 := by omega
      have hz0i : (0 : Int) ≤ z := by omega
      have hbz := hby.rest hzr hrc
      have hnez := restA_ne (z := z) (cap := cap') hne'
      clear hA64
      have HBY := Lib.hid hby
      have HBZ := Lib.hid (And.intro hbz hnez)
      have HNE := Lib.hid hne'
      have HB8 := Lib.hid hb8
      clear hr hAe hx hy hz hh hext hq hby hbz hnez hne' hb8
      have l3 := size_cellsL
      have sn := stnLL
      go_wp2_with fail
      refine (ramsplit_v hAj.out HX.out HY.out HZ.out _ hFB.out (by omega)).mono ?_
      rintro e w1 ⟨rfl, hw⟩
      rw [hw]
      clear hw w1
      go_wp2_with fail
      refine (ramline_v HH.out _ hxL hL hRj).mono ?_
      rintro e w2 ⟨rfl, hb2⟩
      have hR2 := hRj.keep hb2
      have W2 := (hWj.below hb2).alloc (.cells (cellsL h) 26)
      have ky := heap_alloc_new w2 (.cells (cellsL h) 26)
      have hR3 := hR2.keep ((Fr.refl w2).alloc (.cells (cellsL h) 26)).1
      have hlm : m < w2.heap.size := hR2.2.lt
      have hym : w2.heap.size ≠ m := by omega
      have hby3 := (HBY.out.wrote W2 (by have := hR.2.lt; omega) (fun _ => HNE.out)).front hzr
      go_wp2_with fail
      obtain ⟨w3, hw3⟩ : ∃ w3, w2.alloc (.cells (cellsL h) 26) = w3 := ⟨_, rfl⟩
      obtain ⟨B, hB⟩ : ∃ B, w2.heap.size = B := ⟨_, rfl⟩
      rw [hw3] at ky hR3 W2 hby3 ⊢
      rw [hB] at ky hym ⊢
      have s1 := run_lineRest B y hy64
      have s2 := run_front a' r cap' z (by omega)
      have s3 := run_copy_mid B y z cap' (64 - y) (64 - y) a' h (fun p => bs (j + p)) 26 w3.drew hzy hz1 (hby3.keep (Fr.refl _).drew.1) ky
      obtain ⟨w4, hw4⟩ : ∃ w4, w3.drew.setRow B (cellsL q) = w4 := ⟨_, rfl⟩
      rw [HQ.out] at s3
      have ky4 : w4.heap[B]? = some (.cells (cellsL q) 26) := by rw [← hw4]; exact row_at ky _
      have hBb : B ≠ b := by have := lt_of_at hR2.1; omega
      have hR4 : RamAt w4 b m (k + j) L (fillG g f bs j) := by rw [← hw4]; exact ⟨keep_row (w := w3.drew) hR3.1 hBb _, hR3.2.same (by simp [World.setRow, Array.getElem?_modify, hym]; rfl)⟩
      have hlm0 : m < w.heap.size := hR.2.lt
      have hBw : w.heap.size ≤ B := by rw [← hB]; exact ((hWj.below hb2).1 m w (Nat.le_refl _) ⟨Below.refl _ _, by omega⟩).1.size
      have W4 : Wrote m w w4 := by rw [← hw4]; exact ⟨fun B' w0 hB' hf => (W2.drew.1 B' w0 hB' hf).row (by omega) _, fun b' o hne ho => keep_row (W2.drew.2 b' o hne ho) (by have := lt_of_at ho; omega) _⟩
      rw [hw4] at s3
      have ld := ld_rowL (P := Try.prog) ky4
      have s4 := run_rest a' r cap' z hzr
      clear hw3 hB hw4 hR W2 hWj hBw hlm0 hby3
      go_region
      go_wp2_with fail
      refine (setline_v rfl _ okq hxL hL HKJ.out hR4).mono ?_
      rintro e w5 ⟨rfl, hR5, W5⟩
      have EE := Lib.hid (And.intro (hR5.ext HE.out) (W4.trans W5))
      clear hR5 W5 W4 hR4 ld s3 s1 s2 sn l3 ky ky4
      go_wp2
      go_roundw
      case rel => exact ⟨j + z, restA a' z cap', cap' - z, hjz.out, by rw [← hAz.out], by rw [hnz.out], by rw [hnz.out]; omega, by rw [hnz.out]; simpa [Nat.add_assoc] using HBZ.out.1, HBZ.out.2, EE.out.1.mono (by omega), EE.out.2⟩
      case measure => simp; omega
    · have e : j = n := by omega
      subst e
      have hnn : j - j = 0 := by omega
      rw [hnn]
      have EE := Lib.hid (And.intro hRj hWj)
      clear hRj hWj hby hne' hR
      go_wp2
      go_ret
      exact ⟨rfl, EE.out⟩
end Go.Proofs.Ytbboaekfhdeolaa
