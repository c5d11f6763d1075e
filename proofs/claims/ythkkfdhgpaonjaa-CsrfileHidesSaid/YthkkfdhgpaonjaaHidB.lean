/- CsrfileHides: the walk. -/
import Derived.Deep.DeepCutAuto
import Derived.Test.YthkkfdhgpaonjaaCfR
import Derived.Test.YthkkfdhgpaonjaaHidA
import Derived.Test.YthkkfdhgpaonjaaIrB
import Derived.Test.YthkkfdhgpaonjaaEqF
namespace Go.Proofs.Ythkkfdhgpaonjaa
open Go.RowKit
set_option linter.unusedSimpArgs false
set_option linter.unusedVariables false

attribute [local go_sem ↓] Go.wp_at_zero Go.wp_at_succ
attribute [local simp high] sizeRv zeroRv sizeFv zeroFv sizeDv
set_option maxRecDepth 100000 in
set_option maxHeartbeats 8000000 in
theorem hides_any (a : Option Addr) (len cap : Nat) (n : Int) (v : Nat) (w : World) (hmax : len ≤ 9223372036854775807) (hn0 : 0 ≤ n) (hn1 : n ≤ 255) (hv : v < 18446744073709551616)
    (hd : ∀ i, i < len → ∃ ad d, a = some ad ∧ ad.block < w.heap.size ∧ OkD d ∧ DeedIn w ad i d) :
    Calls Try.prog 8 #[.slice a len cap, .int .u8 n, .int .u64 (v : Int)] w fun e w' => e = .returned (.bool true) ∧ Below w.heap.size w w' := by
  obtain ⟨s0, hs0⟩ : ∃ s, newF 0 = s := ⟨_, rfl⟩
  have ok0 : OkF s0 := by rw [← hs0]; exact OkF.new 0 (by omega) (by omega)
  have H0 := Lib.hid hs0
  have HD := Lib.hid hd
  clear hs0 hd
  have l1 := zeroRv
  have l2 := sizeRv
  have l3 := size_cellsR
  have m1 := zeroFv
  have m2 := sizeFv
  have m3 := size_cellsF
  have m4 := stnF
  have l4 := stnR
  have sd := size_cellsD
  have FP := Fr.refl w
  have hrem : n.tmod 3 = 0 ∨ n.tmod 3 = 1 ∨ n.tmod 3 = 2 := by
    rw [Int.tmod_eq_emod_of_nonneg hn0]; omega
  have HREM := Lib.hid hrem
  clear hrem
  go_enter Try.func8, Try.ntmps8
  by_cases hl : 30 < len
  · go_wp2_with fail
    refine (live22_any _).mono ?_
    rintro e wd ⟨rfl, hbd⟩
    have FE := Lib.hid (FP.step hbd).1
    clear FP
    go_wp2
    go_ret
    exact ⟨rfl, FE.out⟩
  go_wp2_with fail
  refine (newF_any 0 _).mono ?_
  rw [H0.out]
  rintro e w1 ⟨rfl, hb1⟩
  go_wp2_with fail
  refine (rnew22_any 0 _).mono ?_
  rw [H0.out]
  rintro e w2 ⟨rfl, hb2⟩
  go_wp2
  have kb0 := keep_alloc (keepB hb2 (heap_alloc_new w1 (.cells (cellsF s0) 31))) (.cells (cellsR s0) 34)
  have kx0 := heap_alloc_new w2 (.cells (cellsR s0) 34)
  have F0 := (((FP.step hb1).alloc (.cells (cellsF s0) 31)).step hb2).alloc (.cells (cellsR s0) 34)
  have hB1 : w.heap.size ≤ w1.heap.size := (FP.step hb1).2
  have hlt : w1.heap.size < w2.heap.size := lt_of_at (keepB hb2 (heap_alloc_new w1 (.cells (cellsF s0) 31)))
  obtain ⟨wS, hwS⟩ : ∃ wS, w2.alloc (.cells (cellsR s0) 34) = wS := ⟨_, rfl⟩
  obtain ⟨bf, hbf⟩ : ∃ b, w1.heap.size = b := ⟨_, rfl⟩
  obtain ⟨bx, hbx⟩ : ∃ b, w2.heap.size = b := ⟨_, rfl⟩
  rw [hwS] at kb0 kx0 F0 ⊢
  rw [hbf] at kb0 hB1 hlt ⊢
  rw [hbx] at kx0 hlt ⊢
  clear hwS hbf hbx hb1 hb2
  have hB2 : w.heap.size ≤ bx := by omega
  have hne : bx ≠ bf := by omega
  go_loopw [9] (fun i wr => ∃ (k : Nat) (s : FS), k ≤ len ∧ i = .int .i64 k ∧ OkF s ∧ Fr w.heap.size w wr ∧ wr.heap[bf]? = some (.cells (cellsF s) 31) ∧ wr.heap[bx]? = some (.cells (cellsR s) 34)) (fun i _ => 30 - (intOf i).toNat)
  case atStart => exact ⟨0, s0, by omega, rfl, ok0, F0, kb0, kx0⟩
  case round =>
    obtain ⟨k, s, hk, rfl, ok, hfr, kb, kx⟩ := hrel
    clear F0 kb0 kx0
    by_cases hlt2 : k < len
    · obtain ⟨ad, d, rfl, had, od, hd⟩ := HD.out k hlt2
      have hd0 := hd.keep hfr.drew.1 had
      obtain ⟨s', hs'⟩ : ∃ s', stepOf s d = s' := ⟨_, rfl⟩
      obtain ⟨y, hy⟩ : ∃ y, resOf s d = y := ⟨_, rfl⟩
      have ok' : OkF s' := by rw [← hs']; exact ok.step d
      have HS := Lib.hid hs'
      have HY := Lib.hid hy
      have hk0 : (0 : Int) ≤ k := by omega
      have hk1 : (k : Int) < len := by omega
      have hblt := lt_of_at kb
      have hfs := hfr.2
      have hxlt := lt_of_at kx
      clear hs' hy
      have hyb : wr.heap.size ≠ bf := by omega
      have hyx : wr.heap.size ≠ bx := by omega
      go_wp2_with fail
      have ls5 := ldR (P := Try.prog) (w := wr.drew) kx
      have ld5 := ldD (P := Try.prog) (w := wr.drew) hd0
      have ls6 := ldR (P := Try.prog) (w := (wr.alloc (.cells (cellsR zeroF) 34)).drew) (keep_alloc kx (.cells (cellsR zeroF) 34))
      have ld6 := ldD (P := Try.prog) (w := (wr.alloc (.cells (cellsR zeroF) 34)).drew) (hd.keep (hfr.alloc (.cells (cellsR zeroF) 34)).drew.1 had)
      have F5 := Lib.hid hfr.drew
      have KB5 : Hid (wr.drew.heap[bf]? = some (.cells (cellsF s) 31)) := kb
      have KX5 : Hid (wr.drew.heap[bx]? = some (.cells (cellsR s) 34)) := kx
      have F6 := Lib.hid (hfr.alloc (.cells (cellsR zeroF) 34)).drew
      have KB6 : Hid ((wr.alloc (.cells (cellsR zeroF) 34)).drew.heap[bf]? = some (.cells (cellsF s) 31)) := keep_alloc kb _
      have KX6 : Hid ((wr.alloc (.cells (cellsR zeroF) 34)).drew.heap[bx]? = some (.cells (cellsR s) 34)) := keep_alloc kx _
      have KY6 : Hid ((wr.alloc (.cells (cellsR zeroF) 34)).drew.heap[wr.heap.size]? = some (.cells (cellsR zeroF) 34)) := heap_alloc_new _ _
      clear hd0 hd kb kx hfr
      go_region_with (first
        | (go_at_call 42; refine (ldo_v HS.out HY.out wr.drew ok od KB5.out).mono ?_; rintro e w' ⟨rfl, kbE, WE⟩; have kxE := WE.2 _ _ hne KX5.out; have FE := fr_of WE hB1 F5.out; have kbN := keep_alloc kbE (.cells (cellsR s') 34); have kxN := keep_alloc kxE (.cells (cellsR s') 34); have FN := FE.alloc (.cells (cellsR s') 34); have lsY := ldR (P := Try.prog) (heap_alloc_new w' (.cells (cellsR s') 34)); have ssX := stR Try.prog kxN s')
        | (go_at_call 42; refine (ldo_v HS.out HY.out (wr.alloc (.cells (cellsR zeroF) 34)).drew ok od KB6.out).mono ?_; rintro e w' ⟨rfl, kbE, WE⟩; have kxE := WE.2 _ _ hne KX6.out; have FE := fr_of WE hB1 F6.out; have kyE := WE.2 _ _ hyb KY6.out; have syE := stR Try.prog kyE s'; have kbN := keep_row kbE hyb (cellsR s'); have kxN := keep_row kxE hyx (cellsR s'); have FN := FE.row hfs (cellsR s'); have lsY := ldR (P := Try.prog) (row_at kyE (cellsR s')); have ssX := stR Try.prog kxN s'))
      all_goals
        have KB7 := Lib.hid (keep_row kbN hne (cellsR s'))
        have KX7 := Lib.hid (row_at kxN (cellsR s'))
        have F7 := Lib.hid (FN.row hB2 (cellsR s'))
        clear kbE WE kxE ls5 ld5 ls6 ld6 kbN kxN FN
        try clear kyE syE
        go_wp2
        clear lsY ssX
        go_roundw
        case rel => exact ⟨k + 1, s', by omega, by go_num, ok', F7.out, KB7.out, KX7.out⟩
        case measure => simp [intOf]; omega
    · have hB3 : w.heap.size ≤ wr.heap.size := hfr.2
      have lF := ldF (P := Try.prog) kb
      have kf1 := keep_alloc kb (.cells (cellsF s) 31)
      have kw1 := heap_alloc_new wr (.cells (cellsF s) 31)
      have F1 := hfr.alloc (.cells (cellsF s) 31)
      have hwf : wr.heap.size ≠ bf := by have := lt_of_at kb; omega
      clear kb kx hfr
      go_upto_region 11 with fail
      obtain ⟨WB, hWB⟩ : ∃ WB, wr.alloc (.cells (cellsF s) 31) = WB := ⟨_, rfl⟩
      obtain ⟨bw, hbw⟩ : ∃ b, wr.heap.size = b := ⟨_, rfl⟩
      rw [hWB] at kf1 kw1 F1 ⊢
      rw [hbw] at kw1 hB3 hwf ⊢
      clear hWB hbw lF
      have hrem := HREM.out
      clear HREM H0 HD
      rcases hrem with hr | hr | hr
      · obtain ⟨y, hy⟩ : ∃ y, getOf s 256 0 = y := ⟨_, rfl⟩
        have hs1 : setOf s 256 y = s := by rw [← hy]; exact hid_back s ok 0 (by omega)
        have hylt : y < 18446744073709551616 := by rw [← hy]; exact getOf_lt ok _ _ (by omega)
        obtain ⟨s2, hs2⟩ : ∃ x, setOf s 256 v = x := ⟨_, rfl⟩
        have ok2 : OkF s2 := by rw [← hs2]; exact ok.set _ _
        obtain ⟨d, hd7⟩ : ∃ x, getOf s 771 0 = x := ⟨_, rfl⟩
        have hdlt : d < 18446744073709551616 := by rw [← hd7]; exact getOf_lt ok _ _ (by omega)
        obtain ⟨vw, hvw⟩ : ∃ x, viewOf 18446744073709551615 = x := ⟨_, rfl⟩
        have hbeh : ∀ x1 x2 : Nat, getOf s 768 0 = x1 → getOf s2 768 0 = x2 → bits BinOp.andNot IntKind.u64 (bits BinOp.xor IntKind.u64 (x1 : Int) (x2 : Int)) (vw : Int) = 0 := by
          intro x1 x2 e1 e2
          rw [← e1, ← e2, ← hs2]
          first
            | (rw [← hvw]; exact hid_beh0 s ok v)
            | (rw [← hd7, get_771]; exact hid_beh1 s ok v)
            | (rw [← hd7, get_771]; exact hid_beh2 s ok v)
        have hrow : ∀ n : Int, n ≠ 256 → n ≠ 768 → getOf s2 n 0 = getOf s n 0 := by
          intro n h1 h2
          rw [← hs2]; exact hid_row s v n 0 (by omega) h1 h2
        have HY := Lib.hid hy
        have HS1 := Lib.hid hs1
        have HS2 := Lib.hid hs2
        have HD7 := Lib.hid hd7
        have HVW := Lib.hid hvw
        have HBEH := Lib.hid hbeh
        have HROW := Lib.hid hrow
        clear hy hs1 hs2 hd7 hvw hbeh hrow
        have k2 := keep_alloc kf1 (.cells #[.int .i64 256, .int .i64 260, .int .i64 324] 3)
        have kw2 := keep_alloc kw1 (.cells #[.int .i64 256, .int .i64 260, .int .i64 324] 3)
        have F2 := F1.alloc (.cells #[.int .i64 256, .int .i64 260, .int .i64 324] 3)
        clear kf1 kw1 F1
        go_wp2_with fail
        refine (get_v (L := 0) HY.out _ ok (by omega) k2).mono ?_
        rintro e w3 ⟨rfl, hb3⟩
        have k3 := keepB hb3 k2
        have kw3 := keepB hb3 kw2
        have F3 := F2.step hb3
        clear k2 kw2 F2 hb3
        go_wp2_with fail
        refine (set_v HS1.out _ ok hylt k3).mono ?_
        rintro e w4 ⟨⟨v4, rfl⟩, k4, W4⟩
        have kw4 := W4.2 _ _ hwf kw3
        have F4 := fr_of W4 hB1 F3
        have lf4 := ldF (P := Try.prog) k4
        have lw4 := ldF (P := Try.prog) kw4
        have eq4 : ∀ w, (Op.equalIn 10000 31 (.agg (cellsF s)) (.agg (cellsF s))).run Try.prog w = .ok true w := fun w => eqF s ok w
        clear k3 kw3 F3 W4
        go_wp2_with fail
        refine (set_v HS2.out _ ok hv k4).mono ?_
        rintro e w5 ⟨⟨v5, rfl⟩, k5, W5⟩
        have kw5 := W5.2 _ _ hwf kw4
        have F5 := fr_of W5 hB1 F4
        clear k4 kw4 F4 W5 lf4 lw4 eq4
        go_wp2_with fail
        refine (rview_h (x := 18446744073709551615) HVW.out _ (by omega)).mono ?_
        rintro e w6 ⟨rfl, hb6⟩
        have k6 := keepB hb6 k5
        have kw6 := keepB hb6 kw5
        have F6 := F5.step hb6
        clear k5 kw5 F5 hb6
        go_wp2_with fail
        refine (get_v (L := 0) HD7.out _ ok (by omega) kw6).mono ?_
        rintro e w7 ⟨rfl, hb7⟩
        have k7 := keepB hb7 k6
        have kw7 := keepB hb7 kw6
        have F7 := F6.step hb7
        clear k6 kw6 F6 hb7
        go_wp2_with fail
        refine (get_v (L := 0) HD7.out _ ok (by omega) kw7).mono ?_
        rintro e w8 ⟨rfl, hb8⟩
        have hd2 : bits BinOp.and IntKind.u64 (d : Int) 2 = ((d &&& 2 : Nat) : Int) := u64_and_nat d 2 hdlt (by omega)
        obtain ⟨d2, hd2e⟩ : ∃ x, d &&& 2 = x := ⟨_, rfl⟩
        rw [hd2e] at hd2 
        have k8 := keep_alloc (keep_alloc (keepB hb8 k7) (.cells #[.int .u64 (vw : Int), .int .u64 (d : Int), .int .u64 (d2 : Int)] 25)) (.cells #[.int .i64 768, .int .i64 772, .int .i64 836] 3)
        have kw8 := keep_alloc (keep_alloc (keepB hb8 kw7) (.cells #[.int .u64 (vw : Int), .int .u64 (d : Int), .int .u64 (d2 : Int)] 25)) (.cells #[.int .i64 768, .int .i64 772, .int .i64 836] 3)
        have F8 := ((F7.step hb8).alloc (.cells #[.int .u64 (vw : Int), .int .u64 (d : Int), .int .u64 (d2 : Int)] 25)).alloc (.cells #[.int .i64 768, .int .i64 772, .int .i64 836] 3)
        clear k7 kw7 F7 hb8
        go_wp2_with fail
        refine (rrows_any _).mono ?_
        rintro e w9 ⟨rfl, rfl⟩
        clear hd2 hd2e
        go_wp2
        obtain ⟨WR, hWR⟩ : ∃ WR, ((w8.alloc (.cells #[.int .u64 (vw : Int), .int .u64 (d : Int), .int .u64 (d2 : Int)] 25)).alloc (.cells #[.int .i64 768, .int .i64 772, .int .i64 836] 3)) = WR := ⟨_, rfl⟩
        have hszR : WR.heap.size = w8.heap.size + 1 + 1 := by rw [← hWR]; simp
        rw [hWR] at k8 kw8 F8 ⊢
        have ht9 := heap_alloc_new WR (.cells cells19 52)
        have k9 := keep_alloc k8 (.cells cells19 52)
        have kw9 := keep_alloc kw8 (.cells cells19 52)
        have F9 := F8.alloc (.cells cells19 52)
        obtain ⟨WT, hWT⟩ : ∃ WT, WR.alloc (.cells cells19 52) = WT := ⟨_, rfl⟩
        rw [hWT] at k9 kw9 F9 ht9 ⊢
        rw [hszR] at ht9
        obtain ⟨bt, hbt⟩ : ∃ b, w8.heap.size + 1 + 1 = b := ⟨_, rfl⟩
        rw [hbt] at ht9 ⊢
        clear hbt hszR hWT hWR k8 kw8 F8 HY HS1 HS2 HD7 HVW
        go_loopw [18] (fun i wv => ∃ k : Nat, k ≤ 34 ∧ i = .int .i64 k ∧ ((Fr w.heap.size w wv ∧ wv.heap[bf]? = some (.cells (cellsF s2) 31)) ∧ wv.heap[bw]? = some (.cells (cellsF s) 31)) ∧ wv.heap[bt]? = some (.cells cells19 52)) (fun i _ => 34 - (intOf i).toNat)
        case atStart => exact ⟨0, by omega, rfl, ⟨⟨F9, k9⟩, kw9⟩, ht9⟩
        case round =>
          clear F9 k9 kw9 ht9
          rename_i wv
          obtain ⟨kk, hkk, rfl, hS⟩ := hrel
          by_cases hlt3 : kk < 34
          · obtain ⟨c0, -, -⟩ := cells19_at hS.2 kk hlt3
            obtain ⟨n2, hn2⟩ : ∃ n, (tab19.getD kk default).1 = n := ⟨_, rfl⟩
            rw [hn2] at c0
            obtain ⟨x1, hx1⟩ : ∃ y, getOf s n2 0 = y := ⟨_, rfl⟩
            obtain ⟨x2, hx2⟩ : ∃ y, getOf s2 n2 0 = y := ⟨_, rfl⟩
            have hcase : (n2 = 768 ∧ bits BinOp.andNot IntKind.u64 (bits BinOp.xor IntKind.u64 (x1 : Int) (x2 : Int)) (vw : Int) = 0) ∨ n2 = 256 ∨ ((n2 == 768) = false ∧ (n2 != 768) = true ∧ (n2 != 256) = true ∧ x1 = x2) := by
              by_cases h1 : n2 = 768
              · exact Or.inl ⟨h1, HBEH.out x1 x2 (by rw [← h1]; exact hx1) (by rw [← h1]; exact hx2)⟩
              · by_cases h2 : n2 = 256
                · exact Or.inr (Or.inl h2)
                · refine Or.inr (Or.inr ⟨by simpa using h1, by simpa using h1, by simpa using h2, ?_⟩)
                  rw [← hx1, ← hx2, HROW.out n2 h2 h1]
            have X1 := Lib.hid hx1
            have X2 := Lib.hid hx2
            have hk34 : (kk : Int) < 34 := by omega
            have hk0 : (0 : Int) ≤ kk := by omega
            obtain ⟨⟨⟨f0, kf0⟩, kw0⟩, ht0⟩ := hS
            clear hn2 hx1 hx2
            rcases hcase with ⟨rfl, hz⟩ | rfl | ⟨hz1, hz2, hz3, rfl⟩
            all_goals
              go_wp2_with fail
              refine (get_v (L := 0) X1.out _ ok (by omega) kw0).mono ?_
              rintro e w10 ⟨rfl, hb10⟩
              have kf10 := keepB hb10 kf0
              have kw10 := keepB hb10 kw0
              have ht10 := keepB hb10 ht0
              have f10 := f0.step hb10
              go_wp2_with fail
              refine (get_v (L := 0) X2.out _ ok2 (by omega) kf10).mono ?_
              rintro e w11 ⟨rfl, hb11⟩
              have HH := Lib.hid (And.intro (And.intro (And.intro (f10.step hb11) (keepB hb11 kf10)) (keepB hb11 kw10)) (keepB hb11 ht10))
              clear kf0 kw0 ht0 f0 hb10 kf10 kw10 ht10 f10 hb11 c0
              go_wp2
              go_roundw
              case rel => exact ⟨kk + 1, by omega, by go_num, HH.out⟩
              case measure => simp [intOf]; omega
          · have f0 := hS.1.1.1
            go_wp2_with fail
            refine (live22_any _).mono ?_
            rintro e w12 ⟨rfl, hb12⟩
            have FE := Lib.hid (f0.step hb12).1
            go_wp2
            go_ret
            exact ⟨rfl, FE.out⟩
      · obtain ⟨y, hy⟩ : ∃ y, getOf s 260 0 = y := ⟨_, rfl⟩
        have hs1 : setOf s 260 y = s := by rw [← hy]; exact hid_back s ok 1 (by omega)
        have hylt : y < 18446744073709551616 := by rw [← hy]; exact getOf_lt ok _ _ (by omega)
        obtain ⟨s2, hs2⟩ : ∃ x, setOf s 260 v = x := ⟨_, rfl⟩
        have ok2 : OkF s2 := by rw [← hs2]; exact ok.set _ _
        obtain ⟨d, hd7⟩ : ∃ x, getOf s 771 0 = x := ⟨_, rfl⟩
        have hdlt : d < 18446744073709551616 := by rw [← hd7]; exact getOf_lt ok _ _ (by omega)
        obtain ⟨vw, hvw⟩ : ∃ x, viewOf 18446744073709551615 = x := ⟨_, rfl⟩
        have hbeh : ∀ x1 x2 : Nat, getOf s 772 0 = x1 → getOf s2 772 0 = x2 → bits BinOp.andNot IntKind.u64 (bits BinOp.xor IntKind.u64 (x1 : Int) (x2 : Int)) (d : Int) = 0 := by
          intro x1 x2 e1 e2
          rw [← e1, ← e2, ← hs2]
          first
            | (rw [← hvw]; exact hid_beh0 s ok v)
            | (rw [← hd7, get_771]; exact hid_beh1 s ok v)
            | (rw [← hd7, get_771]; exact hid_beh2 s ok v)
        have hrow : ∀ n : Int, n ≠ 260 → n ≠ 772 → getOf s2 n 0 = getOf s n 0 := by
          intro n h1 h2
          rw [← hs2]; exact hid_row s v n 1 (by omega) h1 h2
        have HY := Lib.hid hy
        have HS1 := Lib.hid hs1
        have HS2 := Lib.hid hs2
        have HD7 := Lib.hid hd7
        have HVW := Lib.hid hvw
        have HBEH := Lib.hid hbeh
        have HROW := Lib.hid hrow
        clear hy hs1 hs2 hd7 hvw hbeh hrow
        have k2 := keep_alloc kf1 (.cells #[.int .i64 256, .int .i64 260, .int .i64 324] 3)
        have kw2 := keep_alloc kw1 (.cells #[.int .i64 256, .int .i64 260, .int .i64 324] 3)
        have F2 := F1.alloc (.cells #[.int .i64 256, .int .i64 260, .int .i64 324] 3)
        clear kf1 kw1 F1
        go_wp2_with fail
        refine (get_v (L := 0) HY.out _ ok (by omega) k2).mono ?_
        rintro e w3 ⟨rfl, hb3⟩
        have k3 := keepB hb3 k2
        have kw3 := keepB hb3 kw2
        have F3 := F2.step hb3
        clear k2 kw2 F2 hb3
        go_wp2_with fail
        refine (set_v HS1.out _ ok hylt k3).mono ?_
        rintro e w4 ⟨⟨v4, rfl⟩, k4, W4⟩
        have kw4 := W4.2 _ _ hwf kw3
        have F4 := fr_of W4 hB1 F3
        have lf4 := ldF (P := Try.prog) k4
        have lw4 := ldF (P := Try.prog) kw4
        have eq4 : ∀ w, (Op.equalIn 10000 31 (.agg (cellsF s)) (.agg (cellsF s))).run Try.prog w = .ok true w := fun w => eqF s ok w
        clear k3 kw3 F3 W4
        go_wp2_with fail
        refine (set_v HS2.out _ ok hv k4).mono ?_
        rintro e w5 ⟨⟨v5, rfl⟩, k5, W5⟩
        have kw5 := W5.2 _ _ hwf kw4
        have F5 := fr_of W5 hB1 F4
        clear k4 kw4 F4 W5 lf4 lw4 eq4
        go_wp2_with fail
        refine (rview_h (x := 18446744073709551615) HVW.out _ (by omega)).mono ?_
        rintro e w6 ⟨rfl, hb6⟩
        have k6 := keepB hb6 k5
        have kw6 := keepB hb6 kw5
        have F6 := F5.step hb6
        clear k5 kw5 F5 hb6
        go_wp2_with fail
        refine (get_v (L := 0) HD7.out _ ok (by omega) kw6).mono ?_
        rintro e w7 ⟨rfl, hb7⟩
        have k7 := keepB hb7 k6
        have kw7 := keepB hb7 kw6
        have F7 := F6.step hb7
        clear k6 kw6 F6 hb7
        go_wp2_with fail
        refine (get_v (L := 0) HD7.out _ ok (by omega) kw7).mono ?_
        rintro e w8 ⟨rfl, hb8⟩
        have hd2 : bits BinOp.and IntKind.u64 (d : Int) 2 = ((d &&& 2 : Nat) : Int) := u64_and_nat d 2 hdlt (by omega)
        obtain ⟨d2, hd2e⟩ : ∃ x, d &&& 2 = x := ⟨_, rfl⟩
        rw [hd2e] at hd2 
        have k8 := keep_alloc (keep_alloc (keepB hb8 k7) (.cells #[.int .u64 (vw : Int), .int .u64 (d : Int), .int .u64 (d2 : Int)] 25)) (.cells #[.int .i64 768, .int .i64 772, .int .i64 836] 3)
        have kw8 := keep_alloc (keep_alloc (keepB hb8 kw7) (.cells #[.int .u64 (vw : Int), .int .u64 (d : Int), .int .u64 (d2 : Int)] 25)) (.cells #[.int .i64 768, .int .i64 772, .int .i64 836] 3)
        have F8 := ((F7.step hb8).alloc (.cells #[.int .u64 (vw : Int), .int .u64 (d : Int), .int .u64 (d2 : Int)] 25)).alloc (.cells #[.int .i64 768, .int .i64 772, .int .i64 836] 3)
        clear k7 kw7 F7 hb8
        go_wp2_with fail
        refine (rrows_any _).mono ?_
        rintro e w9 ⟨rfl, rfl⟩
        clear hd2 hd2e
        go_wp2
        obtain ⟨WR, hWR⟩ : ∃ WR, ((w8.alloc (.cells #[.int .u64 (vw : Int), .int .u64 (d : Int), .int .u64 (d2 : Int)] 25)).alloc (.cells #[.int .i64 768, .int .i64 772, .int .i64 836] 3)) = WR := ⟨_, rfl⟩
        have hszR : WR.heap.size = w8.heap.size + 1 + 1 := by rw [← hWR]; simp
        rw [hWR] at k8 kw8 F8 ⊢
        have ht9 := heap_alloc_new WR (.cells cells19 52)
        have k9 := keep_alloc k8 (.cells cells19 52)
        have kw9 := keep_alloc kw8 (.cells cells19 52)
        have F9 := F8.alloc (.cells cells19 52)
        obtain ⟨WT, hWT⟩ : ∃ WT, WR.alloc (.cells cells19 52) = WT := ⟨_, rfl⟩
        rw [hWT] at k9 kw9 F9 ht9 ⊢
        rw [hszR] at ht9
        obtain ⟨bt, hbt⟩ : ∃ b, w8.heap.size + 1 + 1 = b := ⟨_, rfl⟩
        rw [hbt] at ht9 ⊢
        clear hbt hszR hWT hWR k8 kw8 F8 HY HS1 HS2 HD7 HVW
        go_loopw [18] (fun i wv => ∃ k : Nat, k ≤ 34 ∧ i = .int .i64 k ∧ ((Fr w.heap.size w wv ∧ wv.heap[bf]? = some (.cells (cellsF s2) 31)) ∧ wv.heap[bw]? = some (.cells (cellsF s) 31)) ∧ wv.heap[bt]? = some (.cells cells19 52)) (fun i _ => 34 - (intOf i).toNat)
        case atStart => exact ⟨0, by omega, rfl, ⟨⟨F9, k9⟩, kw9⟩, ht9⟩
        case round =>
          clear F9 k9 kw9 ht9
          rename_i wv
          obtain ⟨kk, hkk, rfl, hS⟩ := hrel
          by_cases hlt3 : kk < 34
          · obtain ⟨c0, -, -⟩ := cells19_at hS.2 kk hlt3
            obtain ⟨n2, hn2⟩ : ∃ n, (tab19.getD kk default).1 = n := ⟨_, rfl⟩
            rw [hn2] at c0
            obtain ⟨x1, hx1⟩ : ∃ y, getOf s n2 0 = y := ⟨_, rfl⟩
            obtain ⟨x2, hx2⟩ : ∃ y, getOf s2 n2 0 = y := ⟨_, rfl⟩
            have hcase : (n2 = 772 ∧ bits BinOp.andNot IntKind.u64 (bits BinOp.xor IntKind.u64 (x1 : Int) (x2 : Int)) (d : Int) = 0) ∨ n2 = 260 ∨ ((n2 == 772) = false ∧ (n2 != 772) = true ∧ (n2 != 260) = true ∧ x1 = x2) := by
              by_cases h1 : n2 = 772
              · exact Or.inl ⟨h1, HBEH.out x1 x2 (by rw [← h1]; exact hx1) (by rw [← h1]; exact hx2)⟩
              · by_cases h2 : n2 = 260
                · exact Or.inr (Or.inl h2)
                · refine Or.inr (Or.inr ⟨by simpa using h1, by simpa using h1, by simpa using h2, ?_⟩)
                  rw [← hx1, ← hx2, HROW.out n2 h2 h1]
            have X1 := Lib.hid hx1
            have X2 := Lib.hid hx2
            have hk34 : (kk : Int) < 34 := by omega
            have hk0 : (0 : Int) ≤ kk := by omega
            obtain ⟨⟨⟨f0, kf0⟩, kw0⟩, ht0⟩ := hS
            clear hn2 hx1 hx2
            rcases hcase with ⟨rfl, hz⟩ | rfl | ⟨hz1, hz2, hz3, rfl⟩
            all_goals
              go_wp2_with fail
              refine (get_v (L := 0) X1.out _ ok (by omega) kw0).mono ?_
              rintro e w10 ⟨rfl, hb10⟩
              have kf10 := keepB hb10 kf0
              have kw10 := keepB hb10 kw0
              have ht10 := keepB hb10 ht0
              have f10 := f0.step hb10
              go_wp2_with fail
              refine (get_v (L := 0) X2.out _ ok2 (by omega) kf10).mono ?_
              rintro e w11 ⟨rfl, hb11⟩
              have HH := Lib.hid (And.intro (And.intro (And.intro (f10.step hb11) (keepB hb11 kf10)) (keepB hb11 kw10)) (keepB hb11 ht10))
              clear kf0 kw0 ht0 f0 hb10 kf10 kw10 ht10 f10 hb11 c0
              go_wp2
              go_roundw
              case rel => exact ⟨kk + 1, by omega, by go_num, HH.out⟩
              case measure => simp [intOf]; omega
          · have f0 := hS.1.1.1
            go_wp2_with fail
            refine (live22_any _).mono ?_
            rintro e w12 ⟨rfl, hb12⟩
            have FE := Lib.hid (f0.step hb12).1
            go_wp2
            go_ret
            exact ⟨rfl, FE.out⟩
      · obtain ⟨y, hy⟩ : ∃ y, getOf s 324 0 = y := ⟨_, rfl⟩
        have hs1 : setOf s 324 y = s := by rw [← hy]; exact hid_back s ok 2 (by omega)
        have hylt : y < 18446744073709551616 := by rw [← hy]; exact getOf_lt ok _ _ (by omega)
        obtain ⟨s2, hs2⟩ : ∃ x, setOf s 324 v = x := ⟨_, rfl⟩
        have ok2 : OkF s2 := by rw [← hs2]; exact ok.set _ _
        obtain ⟨d, hd7⟩ : ∃ x, getOf s 771 0 = x := ⟨_, rfl⟩
        have hdlt : d < 18446744073709551616 := by rw [← hd7]; exact getOf_lt ok _ _ (by omega)
        obtain ⟨vw, hvw⟩ : ∃ x, viewOf 18446744073709551615 = x := ⟨_, rfl⟩
        have hbeh : ∀ x1 x2 : Nat, getOf s 836 0 = x1 → getOf s2 836 0 = x2 → bits BinOp.andNot IntKind.u64 (bits BinOp.xor IntKind.u64 (x1 : Int) (x2 : Int)) ((d &&& 2 : Nat) : Int) = 0 := by
          intro x1 x2 e1 e2
          rw [← e1, ← e2, ← hs2]
          first
            | (rw [← hvw]; exact hid_beh0 s ok v)
            | (rw [← hd7, get_771]; exact hid_beh1 s ok v)
            | (rw [← hd7, get_771]; exact hid_beh2 s ok v)
        have hrow : ∀ n : Int, n ≠ 324 → n ≠ 836 → getOf s2 n 0 = getOf s n 0 := by
          intro n h1 h2
          rw [← hs2]; exact hid_row s v n 2 (by omega) h1 h2
        have HY := Lib.hid hy
        have HS1 := Lib.hid hs1
        have HS2 := Lib.hid hs2
        have HD7 := Lib.hid hd7
        have HVW := Lib.hid hvw
        have HBEH := Lib.hid hbeh
        have HROW := Lib.hid hrow
        clear hy hs1 hs2 hd7 hvw hbeh hrow
        have k2 := keep_alloc kf1 (.cells #[.int .i64 256, .int .i64 260, .int .i64 324] 3)
        have kw2 := keep_alloc kw1 (.cells #[.int .i64 256, .int .i64 260, .int .i64 324] 3)
        have F2 := F1.alloc (.cells #[.int .i64 256, .int .i64 260, .int .i64 324] 3)
        clear kf1 kw1 F1
        go_wp2_with fail
        refine (get_v (L := 0) HY.out _ ok (by omega) k2).mono ?_
        rintro e w3 ⟨rfl, hb3⟩
        have k3 := keepB hb3 k2
        have kw3 := keepB hb3 kw2
        have F3 := F2.step hb3
        clear k2 kw2 F2 hb3
        go_wp2_with fail
        refine (set_v HS1.out _ ok hylt k3).mono ?_
        rintro e w4 ⟨⟨v4, rfl⟩, k4, W4⟩
        have kw4 := W4.2 _ _ hwf kw3
        have F4 := fr_of W4 hB1 F3
        have lf4 := ldF (P := Try.prog) k4
        have lw4 := ldF (P := Try.prog) kw4
        have eq4 : ∀ w, (Op.equalIn 10000 31 (.agg (cellsF s)) (.agg (cellsF s))).run Try.prog w = .ok true w := fun w => eqF s ok w
        clear k3 kw3 F3 W4
        go_wp2_with fail
        refine (set_v HS2.out _ ok hv k4).mono ?_
        rintro e w5 ⟨⟨v5, rfl⟩, k5, W5⟩
        have kw5 := W5.2 _ _ hwf kw4
        have F5 := fr_of W5 hB1 F4
        clear k4 kw4 F4 W5 lf4 lw4 eq4
        go_wp2_with fail
        refine (rview_h (x := 18446744073709551615) HVW.out _ (by omega)).mono ?_
        rintro e w6 ⟨rfl, hb6⟩
        have k6 := keepB hb6 k5
        have kw6 := keepB hb6 kw5
        have F6 := F5.step hb6
        clear k5 kw5 F5 hb6
        go_wp2_with fail
        refine (get_v (L := 0) HD7.out _ ok (by omega) kw6).mono ?_
        rintro e w7 ⟨rfl, hb7⟩
        have k7 := keepB hb7 k6
        have kw7 := keepB hb7 kw6
        have F7 := F6.step hb7
        clear k6 kw6 F6 hb7
        go_wp2_with fail
        refine (get_v (L := 0) HD7.out _ ok (by omega) kw7).mono ?_
        rintro e w8 ⟨rfl, hb8⟩
        have hd2 : bits BinOp.and IntKind.u64 (d : Int) 2 = ((d &&& 2 : Nat) : Int) := u64_and_nat d 2 hdlt (by omega)
        obtain ⟨d2, hd2e⟩ : ∃ x, d &&& 2 = x := ⟨_, rfl⟩
        rw [hd2e] at hd2 HBEH
        have k8 := keep_alloc (keep_alloc (keepB hb8 k7) (.cells #[.int .u64 (vw : Int), .int .u64 (d : Int), .int .u64 (d2 : Int)] 25)) (.cells #[.int .i64 768, .int .i64 772, .int .i64 836] 3)
        have kw8 := keep_alloc (keep_alloc (keepB hb8 kw7) (.cells #[.int .u64 (vw : Int), .int .u64 (d : Int), .int .u64 (d2 : Int)] 25)) (.cells #[.int .i64 768, .int .i64 772, .int .i64 836] 3)
        have F8 := ((F7.step hb8).alloc (.cells #[.int .u64 (vw : Int), .int .u64 (d : Int), .int .u64 (d2 : Int)] 25)).alloc (.cells #[.int .i64 768, .int .i64 772, .int .i64 836] 3)
        clear k7 kw7 F7 hb8
        go_wp2_with fail
        refine (rrows_any _).mono ?_
        rintro e w9 ⟨rfl, rfl⟩
        clear hd2 hd2e
        go_wp2
        obtain ⟨WR, hWR⟩ : ∃ WR, ((w8.alloc (.cells #[.int .u64 (vw : Int), .int .u64 (d : Int), .int .u64 (d2 : Int)] 25)).alloc (.cells #[.int .i64 768, .int .i64 772, .int .i64 836] 3)) = WR := ⟨_, rfl⟩
        have hszR : WR.heap.size = w8.heap.size + 1 + 1 := by rw [← hWR]; simp
        rw [hWR] at k8 kw8 F8 ⊢
        have ht9 := heap_alloc_new WR (.cells cells19 52)
        have k9 := keep_alloc k8 (.cells cells19 52)
        have kw9 := keep_alloc kw8 (.cells cells19 52)
        have F9 := F8.alloc (.cells cells19 52)
        obtain ⟨WT, hWT⟩ : ∃ WT, WR.alloc (.cells cells19 52) = WT := ⟨_, rfl⟩
        rw [hWT] at k9 kw9 F9 ht9 ⊢
        rw [hszR] at ht9
        obtain ⟨bt, hbt⟩ : ∃ b, w8.heap.size + 1 + 1 = b := ⟨_, rfl⟩
        rw [hbt] at ht9 ⊢
        clear hbt hszR hWT hWR k8 kw8 F8 HY HS1 HS2 HD7 HVW
        go_loopw [18] (fun i wv => ∃ k : Nat, k ≤ 34 ∧ i = .int .i64 k ∧ ((Fr w.heap.size w wv ∧ wv.heap[bf]? = some (.cells (cellsF s2) 31)) ∧ wv.heap[bw]? = some (.cells (cellsF s) 31)) ∧ wv.heap[bt]? = some (.cells cells19 52)) (fun i _ => 34 - (intOf i).toNat)
        case atStart => exact ⟨0, by omega, rfl, ⟨⟨F9, k9⟩, kw9⟩, ht9⟩
        case round =>
          clear F9 k9 kw9 ht9
          rename_i wv
          obtain ⟨kk, hkk, rfl, hS⟩ := hrel
          by_cases hlt3 : kk < 34
          · obtain ⟨c0, -, -⟩ := cells19_at hS.2 kk hlt3
            obtain ⟨n2, hn2⟩ : ∃ n, (tab19.getD kk default).1 = n := ⟨_, rfl⟩
            rw [hn2] at c0
            obtain ⟨x1, hx1⟩ : ∃ y, getOf s n2 0 = y := ⟨_, rfl⟩
            obtain ⟨x2, hx2⟩ : ∃ y, getOf s2 n2 0 = y := ⟨_, rfl⟩
            have hcase : (n2 = 836 ∧ bits BinOp.andNot IntKind.u64 (bits BinOp.xor IntKind.u64 (x1 : Int) (x2 : Int)) (d2 : Int) = 0) ∨ n2 = 324 ∨ ((n2 == 836) = false ∧ (n2 != 836) = true ∧ (n2 != 324) = true ∧ x1 = x2) := by
              by_cases h1 : n2 = 836
              · exact Or.inl ⟨h1, HBEH.out x1 x2 (by rw [← h1]; exact hx1) (by rw [← h1]; exact hx2)⟩
              · by_cases h2 : n2 = 324
                · exact Or.inr (Or.inl h2)
                · refine Or.inr (Or.inr ⟨by simpa using h1, by simpa using h1, by simpa using h2, ?_⟩)
                  rw [← hx1, ← hx2, HROW.out n2 h2 h1]
            have X1 := Lib.hid hx1
            have X2 := Lib.hid hx2
            have hk34 : (kk : Int) < 34 := by omega
            have hk0 : (0 : Int) ≤ kk := by omega
            obtain ⟨⟨⟨f0, kf0⟩, kw0⟩, ht0⟩ := hS
            clear hn2 hx1 hx2
            rcases hcase with ⟨rfl, hz⟩ | rfl | ⟨hz1, hz2, hz3, rfl⟩
            all_goals
              go_wp2_with fail
              refine (get_v (L := 0) X1.out _ ok (by omega) kw0).mono ?_
              rintro e w10 ⟨rfl, hb10⟩
              have kf10 := keepB hb10 kf0
              have kw10 := keepB hb10 kw0
              have ht10 := keepB hb10 ht0
              have f10 := f0.step hb10
              go_wp2_with fail
              refine (get_v (L := 0) X2.out _ ok2 (by omega) kf10).mono ?_
              rintro e w11 ⟨rfl, hb11⟩
              have HH := Lib.hid (And.intro (And.intro (And.intro (f10.step hb11) (keepB hb11 kf10)) (keepB hb11 kw10)) (keepB hb11 ht10))
              clear kf0 kw0 ht0 f0 hb10 kf10 kw10 ht10 f10 hb11 c0
              go_wp2
              go_roundw
              case rel => exact ⟨kk + 1, by omega, by go_num, HH.out⟩
              case measure => simp [intOf]; omega
          · have f0 := hS.1.1.1
            go_wp2_with fail
            refine (live22_any _).mono ?_
            rintro e w12 ⟨rfl, hb12⟩
            have FE := Lib.hid (f0.step hb12).1
            go_wp2
            go_ret
            exact ⟨rfl, FE.out⟩
end Go.Proofs.Ythkkfdhgpaonjaa
