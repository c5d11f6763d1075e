/- CsrfilePlays: the walk. -/
import Derived.Test.YthkkfdhgpaonjaaCfQ
namespace Go.Proofs.Ythkkfdhgpaonjaa
open Go.RowKit
set_option linter.unusedSimpArgs false
set_option linter.unusedVariables false

attribute [local go_sem ↓] Go.wp_at_zero Go.wp_at_succ
theorem add_block (a : Addr) (n : Nat) : (a.add n).block = a.block := by unfold Addr.add; split <;> rfl
/-- 12, unopened. -/
def szD : Nat := 12
/-- A deed in memory. -/
def DeedIn (w : World) (ad : Addr) (i : Nat) (d : DD) : Prop := ∀ j, j < 12 → w.cell? ((ad.add (i * szD)).add j) = (cellsD d)[j]?
theorem size_cellsD (d : DD) : (cellsD d).size = szD := rfl
theorem sizeDv (w : World) : (sizeOf 78).run Try.prog w = .ok szD w := by rw [Try.sizeOf78]; rfl
theorem ld_list {P : Program} {w : World} {a : Addr} {c : Array Value} (h : ∀ j, j < c.size → w.cell? (a.add j) = c[j]?) : (loadCellsFrom a 0 c.size #[]).run P w = .ok c w := by
  have := run_loadCells_list (P := P) w a c.toList (fun j v hv => by
    rw [h j (by have := (List.getElem?_eq_some_iff.1 hv).1; simpa using this)]
    simpa using hv)
  rw [Array.length_toList] at this
  exact this
theorem ldD {P : Program} {w : World} {ad : Addr} {i : Nat} {d : DD} (h : DeedIn w ad i d) : (loadCellsFrom (ad.add (i * szD)) 0 szD #[]).run P w = .ok (cellsD d) w := ld_list (c := cellsD d) h
theorem DeedIn.keep {w w' : World} {ad : Addr} {i : Nat} {d : DD} {B : Nat} (h : DeedIn w ad i d) (hb : Below B w w') (hB : ad.block < B) : DeedIn w' ad i d := fun j hj => by
  rw [← h j hj]; exact hb.cell (p := (ad.add (i * szD)).add j) (by rw [add_block, add_block]; exact hB)
theorem add_pos' (a : Addr) (j : Nat) (h : j ≠ 0) : a.add j = ⟨a.block, a.off + j, none⟩ := by unfold Addr.add; rw [if_neg h]
theorem DeedIn.at {w : World} {ad : Addr} {i : Nat} {d : DD} (h : DeedIn w ad i d) (j : Nat) (h0 : j ≠ 0) (hj : j < 12) : w.cell? ⟨(ad.add (i * szD)).block, (ad.add (i * szD)).off + j, none⟩ = (cellsD d)[j]? := by
  rw [← add_pos' _ _ h0]; exact h j hj

theorem DeedIn.cs {w : World} {ad : Addr} {i : Nat} {d : DD} (h : DeedIn w ad i d) : w.cell? ⟨(ad.add (i * szD)).block, (ad.add (i * szD)).off + 1, none⟩ = some (.int .i64 d.op) ∧ w.cell? ⟨(ad.add (i * szD)).block, (ad.add (i * szD)).off + 1 + 2, none⟩ = some (.int .i64 d.rs1) ∧ w.cell? ⟨(ad.add (i * szD)).block, (ad.add (i * szD)).off + 10, none⟩ = some (.int .u64 (d.L : Int)) :=
  ⟨h.at 1 (by omega) (by omega), h.at 3 (by omega) (by omega), h.at 10 (by omega) (by omega)⟩

set_option maxRecDepth 100000 in
set_option maxHeartbeats 2000000 in
theorem plays22_long (n : Int) (a : Option Addr) (len cap : Nat) (L : Nat) (w : World) (hl : 60 < len) (hmax : len ≤ 9223372036854775807) :
    Calls Try.prog 7 #[.int .i64 n, .slice a len cap, .int .u64 (L : Int)] w fun e w' => e = .returned (.bool true) ∧ Below w.heap.size w w' := by
  go_enter Try.func7, Try.ntmps7
  go_wp2_with fail
  refine (live22_any _).mono ?_
  rintro e w1 ⟨rfl, hb1⟩
  go_wp2
  go_ret
  exact ⟨rfl, hb1⟩

attribute [local simp high] sizeRv zeroRv sizeFv zeroFv sizeDv
theorem held3c {w w' : World} {B b c : Nat} {o p : Obj} {w0 : World} {a1 a2 a3 : Addr} {v1 v2 v3 : Value} (hb : Below w.heap.size w w') (h : ((Fr B w0 w ∧ w.heap[b]? = some o) ∧ w.heap[c]? = some p) ∧ w.cell? a1 = some v1 ∧ w.cell? a2 = some v2 ∧ w.cell? a3 = some v3) :
    ((Fr B w0 w' ∧ w'.heap[b]? = some o) ∧ w'.heap[c]? = some p) ∧ w'.cell? a1 = some v1 ∧ w'.cell? a2 = some v2 ∧ w'.cell? a3 = some v3 := ⟨heldR2 hb h.1, hcell hb h.2.1, hcell hb h.2.2.1, hcell hb h.2.2.2⟩
theorem same_h {B b c : Nat} {s : FS} {L : Nat} {w0 w : World} {p : Obj} {R : Prop} (ok : OkF s) (hL : L < 18446744073709551616) (h : ((Fr B w0 w ∧ w.heap[b]? = some (.cells (cellsF s) 31)) ∧ w.heap[c]? = some p) ∧ R) :
    Calls Try.prog 43 #[.pointer (some ⟨b, 0, none⟩), .agg (cellsR s), .int .u64 (L : Int)] w fun e w' => e = .returned (.bool true) ∧ Below w.heap.size w w' := same_any b s L w ok hL h.1.1.2

set_option maxRecDepth 100000 in
set_option maxHeartbeats 8000000 in
theorem plays22_short (n : Int) (a : Option Addr) (len cap : Nat) (L : Nat) (w : World) (hn0 : -9223372036854775808 ≤ n) (hn1 : n ≤ 9223372036854775807) (hL : L < 18446744073709551616) (hl : len ≤ 60)
    (hd : ∀ i, i < len → ∃ ad d, a = some ad ∧ ad.block < w.heap.size ∧ OkD d ∧ DeedIn w ad i d) :
    Calls Try.prog 7 #[.int .i64 n, .slice a len cap, .int .u64 (L : Int)] w fun e w' => e = .returned (.bool true) ∧ Below w.heap.size w w' := by
  obtain ⟨s0, hs0⟩ : ∃ s, newF n = s := ⟨_, rfl⟩
  have ok0 : OkF s0 := by rw [← hs0]; exact OkF.new n hn0 hn1
  have H0 := Lib.hid hs0
  have HD := Lib.hid hd
  clear hs0 hd
  have l1 := zeroRv
  have l2 := sizeRv
  have l3 := size_cellsR
  have m1 := zeroFv
  have m2 := sizeFv
  have m3 := size_cellsF
  have m4 := stnF
  have l4 := stnR
  have sd := size_cellsD
  go_enter Try.func7, Try.ntmps7
  go_wp2_with fail
  refine (newF_any n _).mono ?_
  rw [H0.out]
  rintro e w1 ⟨rfl, hb1⟩
  go_wp2_with fail
  refine (rnew22_any n _).mono ?_
  rw [H0.out]
  rintro e w2 ⟨rfl, hb2⟩
  go_wp2
  have kb0 := keep_alloc (keepB hb2 (heap_alloc_new w1 (.cells (cellsF s0) 31))) (.cells (cellsR s0) 34)
  have kx0 := heap_alloc_new w2 (.cells (cellsR s0) 34)
  have F0 := ((((Fr.refl w).step hb1).alloc (.cells (cellsF s0) 31)).step hb2).alloc (.cells (cellsR s0) 34)
  have hB1 : w.heap.size ≤ w1.heap.size := hb1.size
  have hlt : w1.heap.size < w2.heap.size := lt_of_at (keepB hb2 (heap_alloc_new w1 (.cells (cellsF s0) 31)))
  obtain ⟨wS, hwS⟩ : ∃ wS, w2.alloc (.cells (cellsR s0) 34) = wS := ⟨_, rfl⟩
  obtain ⟨bf, hbf⟩ : ∃ b, w1.heap.size = b := ⟨_, rfl⟩
  obtain ⟨bx, hbx⟩ : ∃ b, w2.heap.size = b := ⟨_, rfl⟩
  rw [hwS] at kb0 kx0 F0 ⊢
  rw [hbf] at kb0 hB1 hlt ⊢
  rw [hbx] at kx0 hlt ⊢
  clear hwS hbf hbx hb1 hb2
  have hB2 : w.heap.size ≤ bx := by omega
  have hne : bx ≠ bf := by omega
  go_loopw [9] (fun i wr => ∃ (k : Nat) (s : FS), k ≤ len ∧ i = .int .i64 k ∧ OkF s ∧ Fr w.heap.size w wr ∧ wr.heap[bf]? = some (.cells (cellsF s) 31) ∧ wr.heap[bx]? = some (.cells (cellsR s) 34)) (fun i _ => 60 - (intOf i).toNat)
  case atStart => exact ⟨0, s0, by omega, rfl, ok0, F0, kb0, kx0⟩
  case round =>
    obtain ⟨k, s, hk, rfl, ok, hfr, kb, kx⟩ := hrel
    clear F0 kb0 kx0
    by_cases hlt2 : k < len
    · obtain ⟨ad, d, rfl, had, od, hd⟩ := HD.out k hlt2
      have hd0 := hd.keep hfr.drew.1 had
      obtain ⟨s', hs'⟩ : ∃ s', stepOf s d = s' := ⟨_, rfl⟩
      obtain ⟨y, hy⟩ : ∃ y, resOf s d = y := ⟨_, rfl⟩
      have ok' : OkF s' := by rw [← hs']; exact ok.step d
      have HS := Lib.hid hs'
      have HY := Lib.hid hy
      have hLd := od.L
      have hk0 : (0 : Int) ≤ k := by omega
      have hk1 : (k : Int) < len := by omega
      have hblt := lt_of_at kb
      have hfs := hfr.2
      have hxlt := lt_of_at kx
      clear hs' hy
      have hyb : wr.heap.size ≠ bf := by omega
      have hyx : wr.heap.size ≠ bx := by omega
      go_wp2_with fail
      have ls5 := ldR (P := Try.prog) (w := wr.drew) kx
      have ld5 := ldD (P := Try.prog) (w := wr.drew) hd0
      have ls6 := ldR (P := Try.prog) (w := (wr.alloc (.cells (cellsR zeroF) 34)).drew) (keep_alloc kx (.cells (cellsR zeroF) 34))
      have ld6 := ldD (P := Try.prog) (w := (wr.alloc (.cells (cellsR zeroF) 34)).drew) (hd.keep (hfr.alloc (.cells (cellsR zeroF) 34)).drew.1 had)
      have F5 := Lib.hid hfr.drew
      have KB5 : Hid (wr.drew.heap[bf]? = some (.cells (cellsF s) 31)) := kb
      have KX5 : Hid (wr.drew.heap[bx]? = some (.cells (cellsR s) 34)) := kx
      have F6 := Lib.hid (hfr.alloc (.cells (cellsR zeroF) 34)).drew
      have KB6 : Hid ((wr.alloc (.cells (cellsR zeroF) 34)).drew.heap[bf]? = some (.cells (cellsF s) 31)) := keep_alloc kb _
      have KX6 : Hid ((wr.alloc (.cells (cellsR zeroF) 34)).drew.heap[bx]? = some (.cells (cellsR s) 34)) := keep_alloc kx _
      have KY6 : Hid ((wr.alloc (.cells (cellsR zeroF) 34)).drew.heap[wr.heap.size]? = some (.cells (cellsR zeroF) 34)) := heap_alloc_new _ _
      have HDD := Lib.hid hd
      clear hd0 hd kb kx hfr
      go_region_with (first
        | (go_at_call 42; refine (ldo_v HS.out HY.out wr.drew ok od KB5.out).mono ?_; rintro e w' ⟨rfl, kbE, WE⟩; have kxE := WE.2 _ _ hne KX5.out; have FE := fr_of WE hB1 F5.out; have kbN := keep_alloc kbE (.cells (cellsR s') 34); have kxN := keep_alloc kxE (.cells (cellsR s') 34); have FN := FE.alloc (.cells (cellsR s') 34); have lsY := ldR (P := Try.prog) (heap_alloc_new w' (.cells (cellsR s') 34)); have ssX := stR Try.prog kxN s')
        | (go_at_call 42; refine (ldo_v HS.out HY.out (wr.alloc (.cells (cellsR zeroF) 34)).drew ok od KB6.out).mono ?_; rintro e w' ⟨rfl, kbE, WE⟩; have kxE := WE.2 _ _ hne KX6.out; have FE := fr_of WE hB1 F6.out; have kyE := WE.2 _ _ hyb KY6.out; have syE := stR Try.prog kyE s'; have kbN := keep_row kbE hyb (cellsR s'); have kxN := keep_row kxE hyx (cellsR s'); have FN := FE.row hfs (cellsR s'); have lsY := ldR (P := Try.prog) (row_at kyE (cellsR s')); have ssX := stR Try.prog kxN s'))
      all_goals
        have kb7 := keep_row kbN hne (cellsR s')
        have kx7 := row_at kxN (cellsR s')
        have F7 := Lib.hid (FN.row hB2 (cellsR s'))
        have KB7 := Lib.hid kb7
        have KX7 := Lib.hid kx7
        clear kbE WE kxE kb7 kx7 ls5 ld5 ls6 ld6 kbN kxN FN
        try clear kyE syE
        go_wp2_with fail
        clear lsY ssX
        obtain ⟨c1, c3, c10⟩ := (HDD.out.keep F7.out.drew.1 had).cs
        obtain ⟨q, hq⟩ : ∃ q, writesB d.op d.rs1 = q := ⟨_, rfl⟩
        have HQ := Lib.hid hq
        clear hq
        have lsA : ∀ w' : World, w'.heap[bx]? = some (.cells (cellsR s') 34) → (loadCellsFrom ⟨bx, 0, none⟩ 0 szR #[]).run Try.prog w' = .ok (cellsR s') w' := fun w' h => ldR h
        have f7 := F7.out.drew
        have b7 := KB7.out
        have x7 := KX7.out
        go_region_held3 (fun w' => ((Fr w.heap.size w w' ∧ w'.heap[bf]? = some (.cells (cellsF s') 31)) ∧ w'.heap[bx]? = some (.cells (cellsR s') 34)) ∧ w'.cell? ⟨(ad.add (k * szD)).block, (ad.add (k * szD)).off + 1, none⟩ = some (.int .i64 d.op) ∧ w'.cell? ⟨(ad.add (k * szD)).block, (ad.add (k * szD)).off + 1 + 2, none⟩ = some (.int .i64 d.rs1) ∧ w'.cell? ⟨(ad.add (k * szD)).block, (ad.add (k * szD)).off + 10, none⟩ = some (.int .u64 (d.L : Int)))
          (first | exact held3c ‹_› ‹_› | exact ⟨⟨⟨f7, b7⟩, x7⟩, c1, c3, c10⟩ | go_keep)
          (first
            | (go_at_call 43; refine (same_h ok' hLd ‹_›).mono ?_; rintro e w' ⟨rfl, hb⟩)
            | (go_at_call 44; refine (writes_v HQ.out _).mono ?_; rintro e w' ⟨rfl, rfl⟩)
            | (go_at_call 45; refine (rwrites_v HQ.out _).mono ?_; rintro e w' ⟨rfl, hb⟩))
        rename_i w9 hS9
        obtain ⟨⟨⟨f9, b9⟩, x9⟩, -⟩ := hS9
        clear f7 b7 x7 c1 c3 c10 lsA
        go_wp2
        go_roundw
        case rel => exact ⟨k + 1, s', by omega, by go_num, ok', f9, b9, x9⟩
        case measure => simp [intOf]; omega
    · obtain ⟨s', hs'⟩ : ∃ s', turnOf s true = s' := ⟨_, rfl⟩
      have ok' : OkF s' := by rw [← hs']; exact ok.turn _
      have HS := Lib.hid hs'
      have lF := ldF (P := Try.prog) kb
      clear hs'
      have kb1 := keep_alloc kb (.cells (cellsF s) 31)
      have kx1 := keep_alloc kx (.cells (cellsF s) 31)
      have kw1 := heap_alloc_new wr (.cells (cellsF s) 31)
      have F1 := hfr.alloc (.cells (cellsF s) 31)
      have hnw : wr.heap.size ≠ bf := by have := lt_of_at kb; omega
      go_wp2_with fail
      refine (turn_v HS.out _ ok kb1).mono ?_
      rintro e w3 ⟨⟨v3, rfl⟩, kb3, W3⟩
      have kx3 := W3.2 _ _ hne kx1
      have kw3 := W3.2 _ _ hnw kw1
      have F3 := fr_of W3 hB1 F1
      have ls3 := ldR (P := Try.prog) kx3
      clear lF kb1 kx1 kw1 F1
      go_wp2_with fail
      refine (same_any _ s L _ ok hL kw3).mono ?_
      rintro e w4 ⟨rfl, hb4⟩
      have kb4 := keepB hb4 kb3
      have kx4 := keepB hb4 kx3
      have F4 := F3.step hb4
      have ls4 := ldR (P := Try.prog) kx4
      clear ls3
      go_wp2_with fail
      refine (rturn_v HS.out _ ok).mono ?_
      rintro e w5 ⟨rfl, hb5⟩
      have kb5 := keepB hb5 kb4
      have F5 := F4.step hb5
      clear ls4
      go_wp2_with fail
      refine (same_any _ s' L _ ok' hL kb5).mono ?_
      rintro e w6 ⟨rfl, hb6⟩
      have F6 := F5.step hb6
      go_wp2_with fail
      refine (live22_any _).mono ?_
      rintro e w7 ⟨rfl, hb7⟩
      have F7 := Lib.hid (F6.step hb7).1
      go_wp2
      go_ret
      exact ⟨rfl, F7.out⟩
theorem plays22_any (n : Int) (a : Option Addr) (len cap : Nat) (L : Nat) (w : World) (hn0 : -9223372036854775808 ≤ n) (hn1 : n ≤ 9223372036854775807) (hL : L < 18446744073709551616) (hmax : len ≤ 9223372036854775807)
    (hd : ∀ i, i < len → ∃ ad d, a = some ad ∧ ad.block < w.heap.size ∧ OkD d ∧ DeedIn w ad i d) :
    Calls Try.prog 7 #[.int .i64 n, .slice a len cap, .int .u64 (L : Int)] w fun e w' => e = .returned (.bool true) ∧ Below w.heap.size w w' := by
  by_cases h : 60 < len
  · exact plays22_long n a len cap L w h hmax
  · exact plays22_short n a len cap L w hn0 hn1 hL (by omega) hd
end Go.Proofs.Ythkkfdhgpaonjaa
