/- CsrfileMays: the walk. -/
import Derived.Test.YthkkfdhgpaonjaaCfR
import Derived.Test.YthkkfdhgpaonjaaCfU
namespace Go.Proofs.Ythkkfdhgpaonjaa
open Go.RowKit
set_option linter.unusedSimpArgs false
set_option linter.unusedVariables false

attribute [local go_sem ↓] Go.wp_at_zero Go.wp_at_succ
attribute [local simp high] sizeRv zeroRv sizeFv zeroFv sizeDv
theorem pmay_h {B b : Nat} {s : FS} {n p : Int} {wr : Bool} {w0 w : World} {R : Prop} (ok : OkF s) (h : (Fr B w0 w ∧ w.heap[b]? = some (.cells (cellsF s) 31)) ∧ R) :
    Calls Try.prog 55 #[.pointer (some ⟨b, 0, none⟩), .int .i64 n, .int .i64 p, .bool wr] w fun e w' => e = .returned (.bool (mayF s n p wr)) ∧ Below w.heap.size w w' := pmay_any b s n p wr w ok h.1.2
set_option maxRecDepth 100000 in
set_option maxHeartbeats 8000000 in
theorem mays22_any (a : Option Addr) (len cap : Nat) (n p : Int) (w : World) (hmax : len ≤ 9223372036854775807)
    (hd : ∀ i, i < len → ∃ ad d, a = some ad ∧ ad.block < w.heap.size ∧ OkD d ∧ DeedIn w ad i d) :
    Calls Try.prog 11 #[.slice a len cap, .int .i64 n, .int .i64 p] w fun e w' => e = .returned (.bool true) ∧ Below w.heap.size w w' := by
  obtain ⟨s0, hs0⟩ : ∃ s, newF 0 = s := ⟨_, rfl⟩
  have ok0 : OkF s0 := by rw [← hs0]; exact OkF.new 0 (by omega) (by omega)
  have H0 := Lib.hid hs0
  have HD := Lib.hid hd
  clear hs0 hd
  have l1 := zeroRv
  have l2 := sizeRv
  have l3 := size_cellsR
  have m1 := zeroFv
  have m2 := sizeFv
  have m3 := size_cellsF
  have m4 := stnF
  have l4 := stnR
  have sd := size_cellsD
  have F00 := Fr.refl w
  go_enter Try.func11, Try.ntmps11
  go_wp2_with fail
  refine (set_nil n 1 _).mono ?_
  rintro e wa ⟨⟨va, rfl⟩, hwa⟩
  obtain rfl := hwa.symm
  go_wp2_with fail
  refine (turn_nil true _).mono ?_
  rintro e wa ⟨⟨vb, rfl⟩, hwb⟩
  obtain rfl := hwb.symm
  go_wp2_with fail
  refine (get_nil n 1 _).mono ?_
  rintro e wa ⟨rfl, hba⟩
  have Fa := F00.step hba
  go_wp2_with fail
  refine (mayF_nil n 3 false _).mono ?_
  rintro e wb ⟨rfl, hbb⟩
  have Fb := Fa.step hbb
  go_wp2_with fail
  refine (do_nil 89 0 0 0 0 n false false 1 1 _).mono ?_
  rintro e wc ⟨rfl, hbc⟩
  have FP := Fb.step hbc
  clear Fa Fb hba hbb hbc
  by_cases hl : 30 < len
  · go_wp2_with fail
    refine (live22_any _).mono ?_
    rintro e wd ⟨rfl, hbd⟩
    have FE := Lib.hid (FP.step hbd).1
    clear FP
    go_wp2
    go_ret
    exact ⟨rfl, FE.out⟩
  go_wp2_with fail
  refine (newF_any 0 _).mono ?_
  rw [H0.out]
  rintro e w1 ⟨rfl, hb1⟩
  go_wp2_with fail
  refine (rnew22_any 0 _).mono ?_
  rw [H0.out]
  rintro e w2 ⟨rfl, hb2⟩
  go_wp2
  have kb0 := keep_alloc (keepB hb2 (heap_alloc_new w1 (.cells (cellsF s0) 31))) (.cells (cellsR s0) 34)
  have kx0 := heap_alloc_new w2 (.cells (cellsR s0) 34)
  have F0 := (((FP.step hb1).alloc (.cells (cellsF s0) 31)).step hb2).alloc (.cells (cellsR s0) 34)
  have hB1 : w.heap.size ≤ w1.heap.size := (FP.step hb1).2
  have hlt : w1.heap.size < w2.heap.size := lt_of_at (keepB hb2 (heap_alloc_new w1 (.cells (cellsF s0) 31)))
  obtain ⟨wS, hwS⟩ : ∃ wS, w2.alloc (.cells (cellsR s0) 34) = wS := ⟨_, rfl⟩
  obtain ⟨bf, hbf⟩ : ∃ b, w1.heap.size = b := ⟨_, rfl⟩
  obtain ⟨bx, hbx⟩ : ∃ b, w2.heap.size = b := ⟨_, rfl⟩
  rw [hwS] at kb0 kx0 F0 ⊢
  rw [hbf] at kb0 hB1 hlt ⊢
  rw [hbx] at kx0 hlt ⊢
  clear hwS hbf hbx hb1 hb2
  have hB2 : w.heap.size ≤ bx := by omega
  have hne : bx ≠ bf := by omega
  go_loopw [10] (fun i wr => ∃ (k : Nat) (s : FS), k ≤ len ∧ i = .int .i64 k ∧ OkF s ∧ Fr w.heap.size w wr ∧ wr.heap[bf]? = some (.cells (cellsF s) 31) ∧ wr.heap[bx]? = some (.cells (cellsR s) 34)) (fun i _ => 30 - (intOf i).toNat)
  case atStart => exact ⟨0, s0, by omega, rfl, ok0, F0, kb0, kx0⟩
  case round =>
    obtain ⟨k, s, hk, rfl, ok, hfr, kb, kx⟩ := hrel
    clear F0 kb0 kx0
    by_cases hlt2 : k < len
    · obtain ⟨ad, d, rfl, had, od, hd⟩ := HD.out k hlt2
      have hd0 := hd.keep hfr.drew.1 had
      obtain ⟨s', hs'⟩ : ∃ s', stepOf s d = s' := ⟨_, rfl⟩
      obtain ⟨y, hy⟩ : ∃ y, resOf s d = y := ⟨_, rfl⟩
      have ok' : OkF s' := by rw [← hs']; exact ok.step d
      have HS := Lib.hid hs'
      have HY := Lib.hid hy
      have hk0 : (0 : Int) ≤ k := by omega
      have hk1 : (k : Int) < len := by omega
      have hblt := lt_of_at kb
      have hfs := hfr.2
      have hxlt := lt_of_at kx
      clear hs' hy
      have hyb : wr.heap.size ≠ bf := by omega
      have hyx : wr.heap.size ≠ bx := by omega
      go_wp2_with fail
      have ls5 := ldR (P := Try.prog) (w := wr.drew) kx
      have ld5 := ldD (P := Try.prog) (w := wr.drew) hd0
      have ls6 := ldR (P := Try.prog) (w := (wr.alloc (.cells (cellsR zeroF) 34)).drew) (keep_alloc kx (.cells (cellsR zeroF) 34))
      have ld6 := ldD (P := Try.prog) (w := (wr.alloc (.cells (cellsR zeroF) 34)).drew) (hd.keep (hfr.alloc (.cells (cellsR zeroF) 34)).drew.1 had)
      have F5 := Lib.hid hfr.drew
      have KB5 : Hid (wr.drew.heap[bf]? = some (.cells (cellsF s) 31)) := kb
      have KX5 : Hid (wr.drew.heap[bx]? = some (.cells (cellsR s) 34)) := kx
      have F6 := Lib.hid (hfr.alloc (.cells (cellsR zeroF) 34)).drew
      have KB6 : Hid ((wr.alloc (.cells (cellsR zeroF) 34)).drew.heap[bf]? = some (.cells (cellsF s) 31)) := keep_alloc kb _
      have KX6 : Hid ((wr.alloc (.cells (cellsR zeroF) 34)).drew.heap[bx]? = some (.cells (cellsR s) 34)) := keep_alloc kx _
      have KY6 : Hid ((wr.alloc (.cells (cellsR zeroF) 34)).drew.heap[wr.heap.size]? = some (.cells (cellsR zeroF) 34)) := heap_alloc_new _ _
      clear hd0 hd kb kx hfr
      go_region_with (first
        | (go_at_call 42; refine (ldo_v HS.out HY.out wr.drew ok od KB5.out).mono ?_; rintro e w' ⟨rfl, kbE, WE⟩; have kxE := WE.2 _ _ hne KX5.out; have FE := fr_of WE hB1 F5.out; have kbN := keep_alloc kbE (.cells (cellsR s') 34); have kxN := keep_alloc kxE (.cells (cellsR s') 34); have FN := FE.alloc (.cells (cellsR s') 34); have lsY := ldR (P := Try.prog) (heap_alloc_new w' (.cells (cellsR s') 34)); have ssX := stR Try.prog kxN s')
        | (go_at_call 42; refine (ldo_v HS.out HY.out (wr.alloc (.cells (cellsR zeroF) 34)).drew ok od KB6.out).mono ?_; rintro e w' ⟨rfl, kbE, WE⟩; have kxE := WE.2 _ _ hne KX6.out; have FE := fr_of WE hB1 F6.out; have kyE := WE.2 _ _ hyb KY6.out; have syE := stR Try.prog kyE s'; have kbN := keep_row kbE hyb (cellsR s'); have kxN := keep_row kxE hyx (cellsR s'); have FN := FE.row hfs (cellsR s'); have lsY := ldR (P := Try.prog) (row_at kyE (cellsR s')); have ssX := stR Try.prog kxN s'))
      all_goals
        have KB7 := Lib.hid (keep_row kbN hne (cellsR s'))
        have KX7 := Lib.hid (row_at kxN (cellsR s'))
        have F7 := Lib.hid (FN.row hB2 (cellsR s'))
        clear kbE WE kxE ls5 ld5 ls6 ld6 kbN kxN FN
        try clear kyE syE
        go_wp2
        clear lsY ssX
        go_roundw
        case rel => exact ⟨k + 1, s', by omega, by go_num, ok', F7.out, KB7.out, KX7.out⟩
        case measure => simp [intOf]; omega
    · have lsA : ∀ w' : World, w'.heap[bx]? = some (.cells (cellsR s) 34) → (loadCellsFrom ⟨bx, 0, none⟩ 0 szR #[]).run Try.prog w' = .ok (cellsR s) w' := fun w' h => ldR h
      go_wp2_with fail
      go_region_held3 (fun w' => (Fr w.heap.size w w' ∧ w'.heap[bf]? = some (.cells (cellsF s) 31)) ∧ w'.heap[bx]? = some (.cells (cellsR s) 34))
        (first | exact heldR2 ‹_› ‹_› | exact ⟨⟨hfr.drew, kb⟩, kx⟩ | go_keep)
        (first
          | (go_at_call 55; refine (pmay_h ok ‹_›).mono ?_; rintro e w' ⟨rfl, hb⟩)
          | (go_at_call 57; refine (rpmay_any _ _ _ _ _ ok).mono ?_; rintro e w' ⟨rfl, hb⟩)
          | (go_at_call 39; refine (live22_any _).mono ?_; rintro e w' ⟨rfl, hb⟩))
      rename_i w9 hS9
      have FE := Lib.hid hS9.1.1.1
      go_wp2
      go_ret
      exact ⟨rfl, FE.out⟩
end Go.Proofs.Ythkkfdhgpaonjaa
