/- Layer 23's law: Files: both files behind some deeds. -/
import Derived.Test.YthkkfdhgpaonjaaCfR
import Derived.Test.YthkkfdhgpaonjaaMTr
namespace Go.Proofs.Ythkkfdhgpaonjaa
open Go.RowKit
set_option linter.unusedSimpArgs false
set_option linter.unusedVariables false

attribute [local go_sem ↓] Go.wp_at_zero Go.wp_at_succ
attribute [local simp high] sizeRv zeroRv sizeFv zeroFv sizeDv
/-- The two blocks of the results, as they were laid. -/
def KeepZ (r0 r1 : Nat) (w : World) : Prop := w.heap[r0]? = some (.cells (cellsF zeroF) 31) ∧ w.heap[r1]? = some (.cells (cellsR zeroF) 34)
theorem KeepZ.below {r0 r1 : Nat} {w w' : World} (h : KeepZ r0 r1 w) (hb : Below w.heap.size w w') : KeepZ r0 r1 w' := ⟨keepB hb h.1, keepB hb h.2⟩
theorem KeepZ.alloc {r0 r1 : Nat} {w : World} (h : KeepZ r0 r1 w) (o : Obj) : KeepZ r0 r1 (w.alloc o) := ⟨keep_alloc h.1 _, keep_alloc h.2 _⟩
theorem KeepZ.drew {r0 r1 : Nat} {w : World} (h : KeepZ r0 r1 w) : KeepZ r0 r1 w.drew := ⟨h.1, h.2⟩
theorem KeepZ.wrote {r0 r1 b : Nat} {w w' : World} (h : KeepZ r0 r1 w) (hW : Wrote b w w') (h0 : r0 ≠ b) (h1 : r1 ≠ b) : KeepZ r0 r1 w' := ⟨hW.2 _ _ h0 h.1, hW.2 _ _ h1 h.2⟩
theorem KeepZ.row {r0 r1 b : Nat} {w : World} (h : KeepZ r0 r1 w) (h0 : b ≠ r0) (h1 : b ≠ r1) (c : Array Value) : KeepZ r0 r1 (w.setRow b c) := ⟨keep_row h.1 h0 c, keep_row h.2 h1 c⟩
def FilesPost (w : World) (e : Ending) (w' : World) : Prop := ∃ s, OkF s ∧ Al s ∧ e = .returned (.tuple #[.agg (cellsF s), .agg (cellsR s)]) ∧ Below w.heap.size w w'
set_option maxRecDepth 100000 in
set_option maxHeartbeats 8000000 in
theorem files_any (a : Option Addr) (len cap : Nat) (w : World) (hmax : len ≤ 60)
    (hd : ∀ i, i < len → ∃ ad d, a = some ad ∧ ad.block < w.heap.size ∧ OkD d ∧ DeedIn w ad i d) :
    Calls Try.prog 15 #[.slice a len cap] w (FilesPost w) := by
  obtain ⟨s0, hs0⟩ : ∃ s, newF 1 = s := ⟨_, rfl⟩
  have ok0 : OkF s0 := by rw [← hs0]; exact OkF.new 1 (by omega) (by omega)
  have al0 : Al s0 := by rw [← hs0]; exact Al.new 1
  have H0 := Lib.hid hs0
  have HD := Lib.hid hd
  clear hs0 hd
  have l1 := zeroRv
  have l2 := sizeRv
  have l3 := size_cellsR
  have m1 := zeroFv
  have m2 := sizeFv
  have m3 := size_cellsF
  have m4 := stnF
  have l4 := stnR
  have sd := size_cellsD
  have FP := ((Fr.refl w).alloc (.cells (cellsF zeroF) 31)).alloc (.cells (cellsR zeroF) 34)
  have Z0 : KeepZ w.heap.size (w.heap.size + 1) ((w.alloc (.cells (cellsF zeroF) 31)).alloc (.cells (cellsR zeroF) 34)) := ⟨keep_alloc (heap_alloc_new _ _) _, by simpa using heap_alloc_new (w.alloc (.cells (cellsF zeroF) 31)) (.cells (cellsR zeroF) 34)⟩
  go_enter Try.func15, Try.ntmps15
  go_wp2_with fail
  refine (newF_any 1 _).mono ?_
  rw [H0.out]
  rintro e w1 ⟨rfl, hb1⟩
  go_wp2_with fail
  refine (rnew22_any 1 _).mono ?_
  rw [H0.out]
  rintro e w2 ⟨rfl, hb2⟩
  go_wp2
  have kb0 := keep_alloc (keepB hb2 (heap_alloc_new w1 (.cells (cellsF s0) 31))) (.cells (cellsR s0) 34)
  have kx0 := heap_alloc_new w2 (.cells (cellsR s0) 34)
  have F0 := (((FP.step hb1).alloc (.cells (cellsF s0) 31)).step hb2).alloc (.cells (cellsR s0) 34)
  have hB1 : w.heap.size ≤ w1.heap.size := (FP.step hb1).2
  have hlt : w1.heap.size < w2.heap.size := lt_of_at (keepB hb2 (heap_alloc_new w1 (.cells (cellsF s0) 31)))
  obtain ⟨wS, hwS⟩ : ∃ wS, w2.alloc (.cells (cellsR s0) 34) = wS := ⟨_, rfl⟩
  obtain ⟨bf, hbf⟩ : ∃ b, w1.heap.size = b := ⟨_, rfl⟩
  obtain ⟨bx, hbx⟩ : ∃ b, w2.heap.size = b := ⟨_, rfl⟩
  rw [hwS] at kb0 kx0 F0 ⊢
  rw [hbf] at kb0 hB1 hlt ⊢
  rw [hbx] at kx0 hlt ⊢
  have hZ0 := ((((Z0.below hb1).alloc (.cells (cellsF s0) 31)).below hb2).alloc (.cells (cellsR s0) 34))
  have hsz1 : w.heap.size + 1 + 1 ≤ w1.heap.size := by have := hb1.size; simp at this; omega
  rw [hwS] at hZ0
  rw [hbf] at hsz1
  clear hwS hbf hbx hb1 hb2 Z0 FP
  have hB2 : w.heap.size ≤ bx := by omega
  have hne : bx ≠ bf := by omega
  have hr0 : w.heap.size ≠ bf := by omega
  have hr1 : w.heap.size + 1 ≠ bf := by omega
  have hx0 : bx ≠ w.heap.size := by omega
  have hx1 : bx ≠ w.heap.size + 1 := by omega
  go_loopw [6] (fun i wr => ∃ (k : Nat) (s : FS), k ≤ len ∧ i = .int .i64 k ∧ OkF s ∧ Fr w.heap.size w wr ∧ wr.heap[bf]? = some (.cells (cellsF s) 31) ∧ wr.heap[bx]? = some (.cells (cellsR s) 34) ∧ Al s ∧ KeepZ w.heap.size (w.heap.size + 1) wr) (fun i _ => 60 - (intOf i).toNat)
  case atStart => exact ⟨0, s0, by omega, rfl, ok0, F0, kb0, kx0, al0, hZ0⟩
  case round =>
    obtain ⟨k, s, hk, rfl, ok, hfr, kb, kx, al, kz⟩ := hrel
    clear F0 kb0 kx0
    by_cases hlt2 : k < len
    · obtain ⟨ad, d, rfl, had, od, hd⟩ := HD.out k hlt2
      have hd0 := hd.keep hfr.drew.1 had
      obtain ⟨s', hs'⟩ : ∃ s', stepOf s d = s' := ⟨_, rfl⟩
      obtain ⟨y, hy⟩ : ∃ y, resOf s d = y := ⟨_, rfl⟩
      have ok' : OkF s' := by rw [← hs']; exact ok.step d
      have HS := Lib.hid hs'
      have HY := Lib.hid hy
      have hk0 : (0 : Int) ≤ k := by omega
      have hk1 : (k : Int) < len := by omega
      have hblt := lt_of_at kb
      have hfs := hfr.2
      have hxlt := lt_of_at kx
      clear hs' hy
      have hyb : wr.heap.size ≠ bf := by omega
      have hyx : wr.heap.size ≠ bx := by omega
      go_wp2_with fail
      have ls5 := ldR (P := Try.prog) (w := wr.drew) kx
      have ld5 := ldD (P := Try.prog) (w := wr.drew) hd0
      have ls6 := ldR (P := Try.prog) (w := (wr.alloc (.cells (cellsR zeroF) 34)).drew) (keep_alloc kx (.cells (cellsR zeroF) 34))
      have ld6 := ldD (P := Try.prog) (w := (wr.alloc (.cells (cellsR zeroF) 34)).drew) (hd.keep (hfr.alloc (.cells (cellsR zeroF) 34)).drew.1 had)
      have F5 := Lib.hid hfr.drew
      have KB5 : Hid (wr.drew.heap[bf]? = some (.cells (cellsF s) 31)) := kb
      have KX5 : Hid (wr.drew.heap[bx]? = some (.cells (cellsR s) 34)) := kx
      have F6 := Lib.hid (hfr.alloc (.cells (cellsR zeroF) 34)).drew
      have KB6 : Hid ((wr.alloc (.cells (cellsR zeroF) 34)).drew.heap[bf]? = some (.cells (cellsF s) 31)) := keep_alloc kb _
      have KX6 : Hid ((wr.alloc (.cells (cellsR zeroF) 34)).drew.heap[bx]? = some (.cells (cellsR s) 34)) := keep_alloc kx _
      have KY6 : Hid ((wr.alloc (.cells (cellsR zeroF) 34)).drew.heap[wr.heap.size]? = some (.cells (cellsR zeroF) 34)) := heap_alloc_new _ _
      have al2 : Al s' := by rw [← HS.out]; exact al.step d
      have hz0 := lt_of_at kz.1
      have hz1 := lt_of_at kz.2
      have hy0 : wr.heap.size ≠ w.heap.size := by omega
      have hy1 : wr.heap.size ≠ w.heap.size + 1 := by omega
      have KZ5 := Lib.hid kz.drew
      have KZ6 := Lib.hid (kz.alloc (.cells (cellsR zeroF) 34)).drew
      clear kz
      clear hd0 hd kb kx hfr
      go_region_with (first
        | (go_at_call 42; refine (ldo_v HS.out HY.out wr.drew ok od KB5.out).mono ?_; rintro e w' ⟨rfl, kbE, WE⟩; have kxE := WE.2 _ _ hne KX5.out; have FE := fr_of WE hB1 F5.out; have kbN := keep_alloc kbE (.cells (cellsR s') 34); have kxN := keep_alloc kxE (.cells (cellsR s') 34); have FN := FE.alloc (.cells (cellsR s') 34); have kzN := (KZ5.out.wrote WE hr0 hr1).alloc (.cells (cellsR s') 34); have lsY := ldR (P := Try.prog) (heap_alloc_new w' (.cells (cellsR s') 34)); have ssX := stR Try.prog kxN s')
        | (go_at_call 42; refine (ldo_v HS.out HY.out (wr.alloc (.cells (cellsR zeroF) 34)).drew ok od KB6.out).mono ?_; rintro e w' ⟨rfl, kbE, WE⟩; have kxE := WE.2 _ _ hne KX6.out; have FE := fr_of WE hB1 F6.out; have kyE := WE.2 _ _ hyb KY6.out; have syE := stR Try.prog kyE s'; have kbN := keep_row kbE hyb (cellsR s'); have kxN := keep_row kxE hyx (cellsR s'); have FN := FE.row hfs (cellsR s'); have kzN := (KZ6.out.wrote WE hr0 hr1).row hy0 hy1 (cellsR s'); have lsY := ldR (P := Try.prog) (row_at kyE (cellsR s')); have ssX := stR Try.prog kxN s'))
      all_goals
        have KB7 := Lib.hid (keep_row kbN hne (cellsR s'))
        have KX7 := Lib.hid (row_at kxN (cellsR s'))
        have F7 := Lib.hid (FN.row hB2 (cellsR s'))
        have KZ7 := Lib.hid (kzN.row hx0 hx1 (cellsR s'))
        clear kbE WE kxE ls5 ld5 ls6 ld6 kbN kxN FN kzN
        try clear kyE syE
        go_wp2
        clear lsY ssX
        go_roundw
        case rel => exact ⟨k + 1, s', by omega, by go_num, ok', F7.out, KB7.out, KX7.out, al2, KZ7.out⟩
        case measure => simp [intOf]; omega
    · have kb1 : wr.drew.heap[bf]? = some (.cells (cellsF s) 31) := kb
      have kx1 : wr.drew.heap[bx]? = some (.cells (cellsR s) 34) := kx
      have z0 : wr.drew.heap[w.heap.size]? = some (.cells (cellsF zeroF) 31) := kz.1
      have z1 : wr.drew.heap[w.heap.size + 1]? = some (.cells (cellsR zeroF) 34) := kz.2
      have hq0 : w.heap.size ≠ w.heap.size + 1 := by omega
      have hq1 : w.heap.size + 1 ≠ w.heap.size := by omega
      have hq2 : w.heap.size ≠ bx := by omega
      have hq3 : w.heap.size + 1 ≠ bx := by omega
      have lF := ldF (P := Try.prog) kb1
      have lR := ldR (P := Try.prog) kx1
      have lF1 := ldF (P := Try.prog) (keep_row kb1 hr1 (cellsR s))
      have lR1 := ldR (P := Try.prog) (keep_row kx1 hq2 (cellsF s))
      have sF := stF Try.prog z0 s
      have sR := stR Try.prog z1 s
      have sF1 := stF Try.prog (keep_row z0 hq1 (cellsR s)) s
      have sR1 := stR Try.prog (keep_row z1 hq0 (cellsF s)) s
      have EA := Lib.hid (lvF (keep_row (row_at z0 (cellsF s)) hq1 (cellsR s)))
      have EB := Lib.hid (lvR (row_at (keep_row z1 hq0 (cellsF s)) (cellsR s)))
      have EC := Lib.hid (lvF (row_at (keep_row z0 hq1 (cellsR s)) (cellsF s)))
      have ED := Lib.hid (lvR (keep_row (row_at z1 (cellsR s)) hq0 (cellsF s)))
      have FA := Lib.hid ((hfr.drew.row (Nat.le_refl _) (cellsF s)).row (Nat.le_succ _) (cellsR s)).1
      have FB := Lib.hid ((hfr.drew.row (Nat.le_succ _) (cellsR s)).row (Nat.le_refl _) (cellsF s)).1
      clear kb kx kz kb1 kx1 z0 z1
      go_wp2_with fail
      go_region_with (fail)
      all_goals
        go_wp2
        refine bodyPost_ret (v := .tuple #[.agg (cellsF s), .agg (cellsR s)]) (by simp [results, Try.results15, asAddr, Act.put, EA.out, EB.out, EC.out, ED.out]) rfl ⟨s, ok, al, rfl, by first | exact FA.out | exact FB.out⟩
end Go.Proofs.Ythkkfdhgpaonjaa
