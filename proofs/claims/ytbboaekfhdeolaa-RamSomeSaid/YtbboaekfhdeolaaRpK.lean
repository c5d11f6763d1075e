/- Law 10's do for every deed; Holds. -/
import Derived.Test.YtbboaekfhdeolaaRpJ
import Derived.Test.YtbboaekfhdeolaaRaI
namespace Go.Proofs.Ytbboaekfhdeolaa
open Go.RowKit
set_option linter.unusedSimpArgs false
set_option linter.unusedVariables false
attribute [local simp high] sizeLL zeroLL sizeLR zeroLR

theorem updG_ok {g : Nat → Nat → Nat} (ok : ∀ i, OkL (g i)) (i : Nat) {h : Nat → Nat} (okh : OkL h) : ∀ j, OkL (updG g i h j) := by
  intro j; unfold updG; split
  · exact okh
  · exact ok j
theorem doG_ok {g : Nat → Nat → Nat} (ok : ∀ i, OkL (g i)) (L : Nat) (kd : Int) (addr : Nat) (n : Int) (v : Nat) {bs : Nat → Nat} {len : Nat} (hb8 : ∀ i, i < len → bs i < 256) : ∀ i, OkL (doG g L kd addr n v bs len i) := by
  unfold doG
  split
  · exact storeR_ok ok L addr n v
  · split
    · unfold fillR
      split
      · exact ok
      · split
        · exact fillG_ok ok _ hb8
        · exact ok
    · split
      · unfold setR
        split
        · exact updG_ok ok _ (ofL_ok hb8)
        · exact ok
      · exact ok
theorem fillR_supp {g : Nat → Nat → Nat} {L : Nat} (h : Supp L g) (addr : Nat) (bs : Nat → Nat) (len : Nat) : Supp L (fillR g L addr bs len).1 := by
  unfold fillR
  split
  · exact h
  · split
    · rename_i hq
      obtain ⟨a1, a2, a3⟩ := has_t hq
      intro i hi h6
      rw [← h i hi h6]
      refine cellsL_ext fun j hj => ?_
      show fillG g _ _ _ i j = _
      unfold fillG fillL
      rw [if_pos hj, if_neg (by omega), fl_at _ _ _ hj]
    · exact h
theorem setR_supp {g : Nat → Nat → Nat} {L : Nat} (h : Supp L g) (i : Int) (l : Nat → Nat) : Supp L (setR g L i l).1 := by
  unfold setR
  split
  · intro j hj h6
    show cellsL (updG g i.toNat l j) = _
    unfold updG
    rw [if_neg (by omega)]
    exact h j hj h6
  · exact h
theorem doG_supp {g : Nat → Nat → Nat} {L : Nat} (h : Supp L g) (kd : Int) (addr : Nat) (n : Int) (v : Nat) (bs : Nat → Nat) (len : Nat) : Supp L (doG g L kd addr n v bs len) := by
  unfold doG
  split
  · exact storeR_supp h addr n v
  · split
    · exact fillR_supp h addr bs len
    · split
      · exact setR_supp h n _
      · exact h
theorem do_any (b m k L c cap addr v len bcap : Nat) (kd n : Int) (a : Option Addr) (g g' : Nat → Nat → Nat) (bs : Nat → Nat) (w : World) (okg : ∀ i, OkL (g i)) (ha : addr < 18446744073709551616) (hv : v < 18446744073709551616) (hn1 : n ≤ 9223372036854775807) (hL : L ≤ 4096) (hk : k < 1000000)
    (hl5 : len ≤ 500) (hcp : len ≤ bcap) (hb : Bytes w a len bs) (hb8 : ∀ i, i < len → bs i < 256) (hnm : 0 < len → ∀ ad, a = some ad → ad.block ≠ m) (hnc : 0 < len → ∀ ad, a = some ad → ad.block ≠ c)
    (hR : RamAt w b m k L g) (hX : XB w c (64 * L) (fl g)) (hmc : m ≠ c) (hbc : b ≠ c) (hg : doG g L kd addr n v bs len = g') :
    Calls Try.prog 33 #[.pointer (some ⟨b, 0, none⟩), .agg #[.slice (some ⟨c, 0, none⟩) (64 * L) cap], .agg #[.int .i64 kd, .int .u64 (addr : Int), .int .i64 n, .int .u64 (v : Int), .slice a len bcap]] w fun e w' => e = .returned (.bool true) ∧ RamAt w' b m (k + 500) L g' ∧ XB w' c (64 * L) (fl g') ∧ Wr2 m c w w' := by
  rw [← hg]
  unfold doG
  split
  · rename_i h0
    subst h0
    exact (do_store b m k L c cap addr v len bcap n a g w okg ha hv hn1 hL hk hR hX hmc hbc).mono fun e w' h => ⟨h.1, h.2.1.mono (by omega), h.2.2⟩
  · rename_i h0
    split
    · rename_i h1
      subst h1
      exact (do_fill b m k L c cap addr v len bcap n a g bs w okg ha hv hn1 hL hk hl5 hcp hb hb8 hnm hnc hR hX hmc hbc).mono fun e w' h => ⟨h.1, h.2.1.mono (by omega), h.2.2⟩
    · rename_i h1
      split
      · rename_i h2
        subst h2
        exact (do_set b m k L c cap addr v len bcap n a g bs w okg ha hv hn1 hL hk hl5 hcp hb hb8 hnm hnc hR hX hmc hbc).mono fun e w' h => ⟨h.1, h.2.1.mono (by omega), h.2.2⟩
      · rename_i h2
        exact (do_load b m k L c cap addr v len bcap kd n a g w h0 h1 h2 okg ha hv hn1 hL hR hX).mono fun e w' h => ⟨h.1, (hR.keep h.2).mono (by omega), hX.keep h.2, (Wr2.refl m c w).below h.2⟩
theorem rline_v {c cap L i : Nat} {g : Nat → Nat → Nat} {h : Nat → Nat} (hh : g i = h) (w : World) (hi : i < L) (hL : L ≤ 4096) (hX : XB w c (64 * L) (fl g)) :
    Calls Try.prog 43 #[.agg #[.slice (some ⟨c, 0, none⟩) (64 * L) cap], .int .i64 (i : Int)] w fun e w' => e = .returned (.agg (cellsL h)) ∧ Below w.heap.size w w' := by
  have := rline_yes c cap L i (fl g) w hi hL hX
  rw [partL_end, hh] at this
  exact this
theorem rline_w {c cap L T i : Nat} {g : Nat → Nat → Nat} {h : Nat → Nat} (hT : 64 * L = T) (hh : g i = h) (w : World) (hi : i < L) (hL : L ≤ 4096) (hX : XB w c (64 * L) (fl g)) :
    Calls Try.prog 43 #[.agg #[.slice (some ⟨c, 0, none⟩) T cap], .int .i64 (i : Int)] w fun e w' => e = .returned (.agg (cellsL h)) ∧ Below w.heap.size w w' := by
  rw [← hT]; exact rline_v hh w hi hL hX
set_option maxRecDepth 100000 in
set_option maxHeartbeats 8000000 in
theorem holds_any (b m k L c cap : Nat) (g : Nat → Nat → Nat) (w : World) (okg : ∀ i, OkL (g i)) (hL : L ≤ 4096) (hR : RamAt w b m k L g) (hX : XB w c (64 * L) (fl g)) :
    Calls Try.prog 34 #[.pointer (some ⟨b, 0, none⟩), .agg #[.slice (some ⟨c, 0, none⟩) (64 * L) cap]] w fun e w' => e = .returned (.bool true) ∧ Below w.heap.size w w' := by
  obtain ⟨T, hT⟩ : ∃ T, 64 * L = T := ⟨_, rfl⟩
  have hTi : (T : Int).tdiv 64 = (L : Int) := by rw [Int.tdiv_eq_ediv_of_nonneg (by omega)]; omega
  have hT1 : (T : Int) ≤ 262144 := by omega
  have hwL : IntKind.i64.wrap (L : Int) = (L : Int) := by rw [IntKind.wrap_i64]; omega
  have F0 := (Fr.refl w).alloc (.cells #[.slice (some ⟨c, 0, none⟩) (64 * L) cap] 66)
  have B0 := heap_alloc_new w (.cells #[.slice (some ⟨c, 0, none⟩) (64 * L) cap] 66)
  obtain ⟨w1, hw1⟩ : ∃ w1, w.alloc (.cells #[.slice (some ⟨c, 0, none⟩) (64 * L) cap] 66) = w1 := ⟨_, rfl⟩
  rw [hw1] at F0 B0
  have R1 := hR.keep F0.1
  have X1 := hX.keep F0.1
  rw [hT] at B0 hw1 ⊢
  have HT := Lib.hid hT
  have OKG := Lib.hid okg
  clear hT hR hX okg
  have c0 : w1.cell? ⟨w.heap.size, 0, none⟩ = some (.slice (some ⟨c, 0, none⟩) T cap) := by rw [cell_at B0]; rfl
  have R2 := Lib.hid (R1.keep (Fr.refl w1).drew.1)
  go_enter Try.func34, Try.ntmps34
  go_wp2_with fail
  clear hw1
  go_quiet ((go_at_call 37; exact Calls.quiet_of_same (ramlines_any b m k L g _ (R1.keep ((Fr.refl w1).drewN _).1))))
  have X2 := Lib.hid (X1.keep ((Fr.refl w1).drewN nq).1)
  have R3 := Lib.hid (R1.keep ((Fr.refl w1).drewN nq).1)
  have F2 := Lib.hid (F0.drewN nq)
  have B2 : (w1.drewN nq).heap[w.heap.size]? = some (.cells #[.slice (some ⟨c, 0, none⟩) T cap] 66) := B0
  obtain ⟨w2, hw2⟩ : ∃ w2, w1.drewN nq = w2 := ⟨_, rfl⟩
  rw [hw2] at X2 R3 F2 B2 ⊢
  clear hw2 B0 F0 R1 X1 c0 R2
  go_wp2_with fail
  go_loopw [5] (fun u wr => ∃ j : Nat, j ≤ L ∧ u = .int .i64 (j : Int) ∧ Fr w2.heap.size w2 wr) (fun u _ => L - (intOf u).toNat)
  case atStart => exact ⟨0, by omega, rfl, Fr.refl _⟩
  case round =>
    obtain ⟨j, hj, rfl, hF⟩ := hrel
    have B3 := keepB hF.1 B2
    have c0 : wr.cell? ⟨w.heap.size, 0, none⟩ = some (.slice (some ⟨c, 0, none⟩) T cap) := by rw [cell_at B3]; rfl
    by_cases hlt : j < L
    · have hji : (j : Int) < L := by omega
      have hj0 : (0 : Int) ≤ j := by omega
      have X4 := Lib.hid ((X2.out.keep hF.1).keep (Fr.refl wr).drew.1)
      have R4 := Lib.hid ((R3.out.keep hF.1).keep (Fr.refl wr).drew.1)
      have HF := Lib.hid hF.drew
      obtain ⟨h, hh⟩ : ∃ h, g j = h := ⟨_, rfl⟩
      have okh : OkL h := by rw [← hh]; exact OKG.out j
      have HH := Lib.hid hh
      have heq := eqLs h okh
      have hWr := (Fr.refl wr).drew
      clear hh okh B3 hF B2
      go_wp2_with fail
      go_region_held3 (fun w' => Fr wr.heap.size wr w' ∧ w'.cell? ⟨w.heap.size, 0, none⟩ = some (.slice (some ⟨c, 0, none⟩) T cap))
        (first | exact ⟨hWr, c0⟩ | exact held1 HB2 ‹_› | exact held1 HB1 ‹_›)
        (first
          | (go_at_call 38; refine (ramline_v HH.out _ hlt hL R4.out).mono ?_; rintro e wa ⟨rfl, HB1⟩; have XA := X4.out.keep HB1)
          | (go_at_call 43; refine (rline_w HT.out HH.out _ hlt hL XA).mono ?_; rintro e wb ⟨rfl, HB2⟩))
      all_goals
        have E := Lib.hid ((HF.out.step HB1).step HB2)
        clear HB1 HB2 XA
        go_wp2
        exact ⟨⟨j + 1, by omega, by go_num, E.out⟩, by simp [intOf]; omega⟩
    · have e : j = L := by omega
      subst e
      have E := Lib.hid (F2.out.step hF.1)
      clear hF B2 B3
      go_wp2
      go_ret
      exact ⟨rfl, E.out.1⟩
end Go.Proofs.Ytbboaekfhdeolaa
