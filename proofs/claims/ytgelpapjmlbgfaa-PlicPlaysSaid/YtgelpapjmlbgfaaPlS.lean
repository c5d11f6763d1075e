/- PlicPlays: the walk itself. -/
import Derived.Test.YtgelpapjmlbgfaaPlR
namespace Go.Proofs.Ytgelpapjmlbgfaa
open Go.RowKit
set_option linter.unusedSimpArgs false
set_option linter.unusedVariables false
attribute [local simp high] zeroPv sizePv zeroDv sizeDv sizeBv
attribute [local go_sem ↓] Go.wp_at_zero Go.wp_at_succ

set_option maxRecDepth 100000 in
set_option maxHeartbeats 4000000 in
theorem pplays_long (n : Int) (a : Option Addr) (len cap : Nat) (w : World) (hl : 100 < len) (hmax : len ≤ 9223372036854775807) :
    Calls Try.prog 7 #[.int .i64 n, .slice a len cap] w fun e w' => e = .returned (.bool true) ∧ Below w.heap.size w w' := by
  go_enter Try.func7, Try.ntmps7
  go_wp2_with fail
  refine (live16_any _).mono ?_
  rintro e w1 ⟨rfl, hb1⟩
  go_wp2
  go_ret
  exact ⟨rfl, hb1⟩
set_option maxRecDepth 100000 in
set_option maxHeartbeats 8000000 in
theorem pplays_short (n : Int) (a : Option Addr) (len cap : Nat) (w : World) (hl : len ≤ 100) (hd : Deeds w a len) :
    Calls Try.prog 7 #[.int .i64 n, .slice a len cap] w fun e w' => e = .returned (.bool true) ∧ Below w.heap.size w w' := by
  have ok := OkP.new n
  have heq := eqPn n
  obtain ⟨s0, hs0⟩ : ∃ s, newP n = s := ⟨_, rfl⟩
  rw [hs0] at ok heq
  have HS := Lib.hid hs0
  have HD := Lib.hid hd
  have HEQ := Lib.hid heq
  clear hs0 hd heq
  have a3 := size_cellsP
  have a3' := size_cellsD
  have a4 := stnP
  have a4' := stnD
  have a4'' := stnP_1
  go_enter Try.func7, Try.ntmps7
  go_wp2_with fail
  refine (pnew_v HS.out _).mono ?_
  rintro e w1 ⟨rfl, hb1⟩
  go_wp2_with fail
  refine (rnew_v HS.out _).mono ?_
  rintro e w2 ⟨rfl, hb2⟩
  have kp0 := keep_alloc (keepB hb2 (heap_alloc_new w1 (.cells (cellsP s0) 60))) (.cells (cellsD s0) 72)
  have hC := ((((Fr.refl w).step hb1).alloc (.cells (cellsP s0) 60)).step hb2).alloc (.cells (cellsD s0) 72)
  have ld := ldP (P := Try.prog) kp0
  go_wp2
  obtain ⟨wS, hwS⟩ : ∃ wS, wS = (w2.alloc (.cells (cellsD s0) 72)).alloc (.cells (cellsP s0) 60) := ⟨_, rfl⟩
  have hf : Fr w.heap.size w wS := by rw [hwS]; exact hC.alloc _
  have hp : wS.heap[w1.heap.size]? = some (.cells (cellsP s0) 60) := by rw [hwS]; exact keep_alloc kp0 _
  have hx : wS.heap[w2.heap.size]? = some (.cells (cellsD s0) 72) := by rw [hwS]; exact keep_alloc (heap_alloc_new _ _) _
  have hw : wS.heap[w2.heap.size + 1]? = some (.cells (cellsP s0) 60) := by rw [hwS]; simpa using heap_alloc_new (w2.alloc (.cells (cellsD s0) 72)) (.cells (cellsP s0) 60)
  have hB1 : w.heap.size ≤ w1.heap.size := hb1.size
  have hlt : w1.heap.size < w2.heap.size := lt_of_at (keepB hb2 (heap_alloc_new w1 (.cells (cellsP s0) 60)))
  rw [← hwS]
  clear hwS a4 a4' a4'' ld kp0 hC hb1 hb2
  obtain ⟨bp, hbp⟩ : ∃ b, b = w1.heap.size := ⟨_, rfl⟩
  obtain ⟨bx, hbx⟩ : ∃ b, b = w2.heap.size := ⟨_, rfl⟩
  obtain ⟨bw, hbw⟩ : ∃ b, b = bx + 1 := ⟨_, rfl⟩
  rw [← hbp] at hp hB1 hlt ⊢
  rw [← hbx] at hx hw hlt ⊢
  rw [← hbw] at hw ⊢
  have hne : bx ≠ bp := by omega
  have hnw : bw ≠ bp := by omega
  have hnx : bx ≠ bw := by omega
  have hB2 : w.heap.size ≤ bx := by omega
  clear hbp hbx hbw hlt
  go_loopw [8] (fun i wr => ∃ (k : Nat) (s : PS), k ≤ len ∧ i = .int .i64 k ∧ OkP s ∧ s.n = s0.n ∧ Fr w.heap.size w wr ∧ wr.heap[bp]? = some (.cells (cellsP s) 60) ∧ wr.heap[bx]? = some (.cells (cellsD s) 72) ∧ wr.heap[bw]? = some (.cells (cellsP s0) 60)) (fun i _ => 100 - (intOf i).toNat)
  case atStart => exact ⟨0, s0, by omega, rfl, ok, rfl, hf, hp, hx, hw⟩
  case round =>
    clear hf hp hx hw
    obtain ⟨k, s, hk, rfl, oks, hsn, hfr, kp, kx, kw⟩ := hrel
    have HSN := Lib.hid hsn
    clear hsn
    by_cases hlt : k < len
    · obtain ⟨ad, kd, off, sz, v, rfl, had, hd⟩ := HD.out.step (Below.refl _ w) hlt
      have hd1 := hd.step hfr.1 had
      have hoff := hd.ho
      have hv := hd.hv
      have c1 := hd1.c1
      have c2 := hd1.c2
      have n0 := oks.n0
      have n8 := oks.n8
      obtain ⟨x0, xl, xf⟩ := knownD kx
      obtain ⟨⟨r5, i5⟩, hsp⟩ : ∃ sp, spotP s.n off sz = sp := ⟨_, rfl⟩
      have HSP := Lib.hid hsp
      obtain ⟨q, hq⟩ : ∃ q, decide (0 < r5) = q := ⟨_, rfl⟩
      have HQ : Hid (decide (0 < (spotP (newP n).n off sz).1) = q) := by show _ = _; rw [HS.out, ← HSN.out, hsp]; exact hq
      have hq2 : decide ((0 : Int) < (r5 : Int)) = q := by rw [← hq, Bool.eq_iff_iff]; simp only [decide_eq_true_eq]; omega
      have HQ2 := Lib.hid hq2
      have HQN := Lib.hid hq
      have HDD := Lib.hid hd
      clear hsp hq hd hq2
      have hk0 : (0 : Int) ≤ k := by omega
      have hk1 : (k : Int) < len := by omega
      go_wp2_with fail
      go_quiet ((go_at_call 26; exact Calls.quiet_of_same (at_t HSP.out _ hoff n0 n8)))
      obtain ⟨wq, hwq⟩ : ∃ wq, wq = wr.drewN nq := ⟨_, rfl⟩
      rw [← hwq]
      have hfr : Fr w.heap.size w wq := by rw [hwq]; exact hfr.drewN nq
      have kp : wq.heap[bp]? = some (.cells (cellsP s) 60) := by rw [hwq]; exact kp
      have kx : wq.heap[bx]? = some (.cells (cellsD s) 72) := by rw [hwq]; exact kx
      have kw : wq.heap[bw]? = some (.cells (cellsP s0) 60) := by rw [hwq]; exact kw
      clear hwq c1 c2 x0 xl xf hd1
      have hd1 := HDD.out.step hfr.1 had
      have c1 := hd1.c1
      have c2 := hd1.c2
      have hq3 := HQ2.out
      have hq4 := HQN.out
      go_wp2_with fail
      go_region_held3 (fun w' => (((Fr w.heap.size w w' ∧ w'.heap[bp]? = some (.cells (cellsP s) 60)) ∧ w'.heap[bx]? = some (.cells (cellsD s) 72)) ∧ w'.heap[bw]? = some (.cells (cellsP s0) 60)) ∧ w'.cell? ⟨(ad.add (k * 4)).block, (ad.add (k * 4)).off + 1, none⟩ = some (.int .u64 (off : Int)) ∧ w'.cell? ⟨(ad.add (k * 4)).block, (ad.add (k * 4)).off + 2, none⟩ = some (.int .i64 sz))
        (first | exact heldG ‹_› ‹_› | exact ⟨⟨⟨⟨hfr.drew, kp⟩, kx⟩, kw⟩, c1, c2⟩ | go_keep)
        (first
          | (go_at_call 32; refine (fits_v HQ.out _ hoff).mono ?_; rintro e w5 ⟨rfl, hb⟩))
      obtain ⟨⟨⟨⟨f5, p5⟩, x5⟩, v5⟩, -⟩ := ‹(((Fr w.heap.size w w5 ∧ _) ∧ _) ∧ _) ∧ _›
      obtain ⟨s', hs'⟩ : ∃ s', stepP s kd off sz v = s' := ⟨_, rfl⟩
      have oks' : OkP s' := by rw [← hs']; exact oks.step _ _ _ _
      have HSN' : Hid (s'.n = s0.n) := by show _ = _; rw [← hs', step_n]; exact HSN.out
      have HST := Lib.hid hs'
      clear hs' c1 c2 hd1 hb hfr kp kx kw
      have P5 : Hid (w5.drew.heap[bp]? = some (.cells (cellsP s) 60)) := p5
      have X5 := Lib.hid x5
      have V5 := Lib.hid v5
      have F5 := Lib.hid f5.drew
      have hlx := lt_of_at x5
      have hlp := lt_of_at p5
      have hlv := lt_of_at v5
      have hB5 : w.heap.size ≤ w5.heap.size := f5.2
      have hyb : w5.heap.size ≠ bp := by omega
      have hyx : w5.heap.size ≠ bx := by omega
      have hyv : w5.heap.size ≠ bw := by omega
      clear p5 x5 v5 f5
      have lxA : ∀ w' : World, w'.heap[bx]? = some (.cells (cellsD s) 72) → (loadCellsFrom ⟨bx, 0, none⟩ 0 szD #[]).run Try.prog w' = .ok (cellsD s) w' := fun w' h => ldD h
      have syA : ∀ w' : World, w'.heap[w5.heap.size]? = some (.cells (cellsD zeroP) 72) → (storeCells ⟨w5.heap.size, 0, none⟩ (cellsD s').toList).run Try.prog w' = .ok () (w'.setRow w5.heap.size (cellsD s')) := fun w' h => stD _ h s'
      have sn := stnD
      go_wp2_with fail
      go_region_held3 (fun w' => (Fr w.heap.size w w' ∧ w'.heap[bx]? = some (.cells (cellsD s) 72)) ∧ w'.cell? (ad.add (k * 4)) = some (.int .i64 kd) ∧ w'.cell? ⟨(ad.add (k * 4)).block, (ad.add (k * 4)).off + 1, none⟩ = some (.int .u64 (off : Int)) ∧ w'.cell? ⟨(ad.add (k * 4)).block, (ad.add (k * 4)).off + 2, none⟩ = some (.int .i64 sz) ∧ w'.cell? ⟨(ad.add (k * 4)).block, (ad.add (k * 4)).off + 3, none⟩ = some (.int .u64 (v : Int)))
        (first
          | exact sd_mk HDD.out had F5.out X5.out
          | exact sd_mk HDD.out had (fr_of WE hB1 F5.out) (WE.2 _ _ hne X5.out)
          | exact sd_mk HDD.out had (fr_of WE hB1 (F5.out.alloc _)) (WE.2 _ _ hne (keep_alloc X5.out _))
          | exact sd_mk HDD.out had (F5.out.alloc _) (keep_alloc X5.out _)
          | exact sd_mk HDD.out had ((fr_of WE hB1 F5.out).alloc _) (keep_alloc (WE.2 _ _ hne X5.out) _)
          | exact sd_mk HDD.out had ((fr_of WE hB1 (F5.out.alloc _)).row hB5 _) (keep_row (WE.2 _ _ hne (keep_alloc X5.out _)) hyx _)
          | go_keep)
        (first
          | (go_at_call 33; refine (ldo_v HST.out w5.drew oks hoff hv P5.out).mono ?_; rintro e w6 ⟨rfl, kbE, WE⟩)
          | (go_at_call 33; refine (ldo_v HST.out (w5.drew.alloc (.cells (cellsD zeroP) 72)) oks hoff hv (keep_alloc P5.out _)).mono ?_; rintro e w6 ⟨rfl, kbE, WE⟩; have kyE : w6.heap[w5.heap.size]? = some (.cells (cellsD zeroP) 72) := WE.2 _ _ hyb (heap_alloc_new w5.drew _)))
      · have gf := (fr_of WE hB1 F5.out).alloc (.cells (cellsD s') 72)
        have hlw : bx < w6.heap.size := lt_of_at (WE.2 _ _ hne X5.out)
        have gp := keep_alloc kbE (.cells (cellsD s') 72)
        have gx := keep_alloc (WE.2 _ _ hne X5.out) (.cells (cellsD s') 72)
        have gv := keep_alloc (WE.2 _ _ hnw V5.out) (.cells (cellsD s') 72)
        have gy := heap_alloc_new w6 (.cells (cellsD s') 72)
        have ly := ldD (P := Try.prog) gy
        have sx := stD Try.prog gx s'
        have gp7 := Lib.hid (keep_row gp hne (cellsD s'))
        have gx7 := Lib.hid (row_at gx (cellsD s'))
        have gv7 := Lib.hid (keep_row gv hnx (cellsD s'))
        have gf7 := Lib.hid (gf.row hB2 (cellsD s'))
        clear gp gx gv gf gy kbE WE lxA syA
        try clear kyE
        go_wp2_with fail
        clear ly sx
        obtain ⟨wz, hwz⟩ : ∃ wz, wz = (w6.alloc (.cells (cellsD s') 72)).setRow bx (cellsD s') := ⟨_, rfl⟩
        rw [← hwz]
        have gp : wz.heap[bp]? = some (.cells (cellsP s') 60) := by rw [hwz]; exact gp7.out
        have gx : wz.heap[bx]? = some (.cells (cellsD s') 72) := by rw [hwz]; exact gx7.out
        have gv : wz.heap[bw]? = some (.cells (cellsP s0) 60) := by rw [hwz]; exact gv7.out
        have gf : Fr w.heap.size w wz := by rw [hwz]; exact gf7.out
        clear hwz gp7 gx7 gv7 gf7
        obtain ⟨X, hX⟩ : ∃ X, W32 s'.wa = X := ⟨_, rfl⟩
        obtain ⟨Y, hY⟩ : ∃ Y, W32 s'.se = Y := ⟨_, rfl⟩
        have HX := Lib.hid hX
        have HY := Lib.hid hY
        clear hX hY
        have a9 := size_cellsB
        have hszB := szB_ne
        have uB := Try.underlying62
        refine wp_region_held_drew (S := (fun w' => ((Fr w.heap.size w w' ∧ w'.heap[bp]? = some (.cells (cellsP s') 60)) ∧ w'.heap[bx]? = some (.cells (cellsD s') 72)) ∧ w'.heap[bw]? = some (.cells (cellsP s0) 60))) (by kernel_rfl) ?_ (fun hHeld => ?_)
        · exact ⟨⟨⟨gf.drew, gp⟩, gx⟩, gv⟩
        clear gf gp gx gv
        refine wpAnyH_take (i := 0) (oi := { dst := some 70, op := Op.move (Operand.tmp 12), type := 4, pos := "law.go:61", after := _, guard := none }) (v := ?_) rfl (by kernel_rfl) (by kernel_rfl) (by kernel_rfl) (fun _ _ _ h => h) (Or.inl ⟨by rfl, ?_⟩) (by assumption) ?_
        rotate_left
        · intro w' hSw
          try dsimp only at hSw
          go_simp
          try with_reducible rfl
        try simp only [Act.put, List.setIfInBounds_toArray, List.set_cons_zero, List.set_cons_succ]
        refine wpAnyH_take (i := 1) (oi := { dst := some 71, op := Op.unOp UnOp.not 4 (Operand.tmp 70), type := 4, pos := "law.go:61", after := _, guard := none }) (v := ?_) rfl (by kernel_rfl) (by kernel_rfl) (by kernel_rfl) (fun _ _ _ h => h) (Or.inl ⟨by rfl, ?_⟩) (by assumption) ?_
        rotate_left
        · intro w' hSw
          try dsimp only at hSw
          go_simp
          try with_reducible rfl
        try simp only [Act.put, List.setIfInBounds_toArray, List.set_cons_zero, List.set_cons_succ]
        refine wpAnyH_take (i := 2) (oi := { dst := some 72, op := Op.move (Operand.tmp 71), type := 4, pos := "law.go:61", after := _, guard := none }) (v := ?_) rfl (by kernel_rfl) (by kernel_rfl) (by kernel_rfl) (fun _ _ _ h => h) (Or.inl ⟨by rfl, ?_⟩) (by assumption) ?_
        rotate_left
        · intro w' hSw
          try dsimp only at hSw
          go_simp
          try with_reducible rfl
        try simp only [Act.put, List.setIfInBounds_toArray, List.set_cons_zero, List.set_cons_succ]
        refine wpAnyH_take (i := 4) (oi := { dst := some 74, op := Op.fieldAddr 72 (Operand.tmp 6) 3, type := 0, pos := "law.go:61", after := _, guard := some (2, false) }) (v := ?_) rfl (by kernel_rfl) (by kernel_rfl) (by kernel_rfl) (fun _ _ _ h => h) (Or.inl ⟨by rfl, ?_⟩) (by assumption) ?_
        rotate_left
        · intro w' hSw
          try dsimp only at hSw
          go_simp
          try with_reducible rfl
        try simp only [Act.put, List.setIfInBounds_toArray, List.set_cons_zero, List.set_cons_succ]
        refine wpAnyH_take (i := 5) (oi := { dst := some 75, op := Op.load 62 (Operand.tmp 74), type := 62, pos := "law.go:61", after := _, guard := some (2, false) }) (v := .agg (cellsB s'.wa)) rfl (by kernel_rfl) (by kernel_rfl) (by kernel_rfl) (fun _ _ _ h => h) (yields_sub (g := s'.wa) (by rfl) _ _ rfl _ _ rfl (fun w' hSw => by (try dsimp only at hSw); exact rng_wa hSw.1.2) uB rfl infoB) (by assumption) ?_
        try simp only [Act.put, List.setIfInBounds_toArray, List.set_cons_zero, List.set_cons_succ]
        refine wpAnyH_ready (rs := [3]) (by kernel_rfl) (by simp) ?_
        refine AllReadyH.cons (o := { dst := some 73, op := Op.call { callee := Callee.value (Operand.func 30), args := #[Operand.tmp 5], argTypes := #[60] }, type := 22, pos := "law.go:61", after := _, guard := some (2, false) }) rfl (fun K hK => ?_) AllReadyH.nil
        go_simp
        go_at_call 30; refine (waits_h HX.out hHeld).mono ?_; rintro e wg ⟨rfl, hb⟩
        try go_wp2_with fail
        refine hK.out _ _ ?_ (fun hHeld2 => ?_)
        · (try dsimp only)
          exact heldF hb hHeld
        clear hK K hHeld
        have hHeld := hHeld2
        clear hHeld2
        try simp only [Act.put, List.setIfInBounds_toArray, List.set_cons_zero, List.set_cons_succ]
        refine wpAnyH_ready (rs := [6]) (by kernel_rfl) (by simp) ?_
        refine AllReadyH.cons (o := { dst := some 76, op := Op.call { callee := Callee.value (Operand.func 34), args := #[Operand.tmp 75], argTypes := #[62] }, type := 22, pos := "law.go:61", after := _, guard := some (2, false) }) rfl (fun K hK => ?_) AllReadyH.nil
        go_simp
        go_at_call 34; refine (word_v HX.out _).mono ?_; rintro e wg ⟨rfl, hb⟩
        try go_wp2_with fail
        refine hK.out _ _ ?_ (fun hHeld2 => ?_)
        · (try dsimp only)
          exact heldF hb hHeld
        clear hK K hHeld
        have hHeld := hHeld2
        clear hHeld2
        try simp only [Act.put, List.setIfInBounds_toArray, List.set_cons_zero, List.set_cons_succ]
        refine wpAnyH_take (i := 7) (oi := { dst := some 77, op := Op.binOp BinOp.neq 22 (Operand.tmp 73) (Operand.tmp 76) 22, type := 4, pos := "law.go:61", after := _, guard := some (2, false) }) (v := ?_) rfl (by kernel_rfl) (by kernel_rfl) (by kernel_rfl) (fun _ _ _ h => h) (Or.inl ⟨by rfl, ?_⟩) (by assumption) ?_
        rotate_left
        · intro w' hSw
          try dsimp only at hSw
          go_simp
          try with_reducible rfl
        try simp only [Act.put, List.setIfInBounds_toArray, List.set_cons_zero, List.set_cons_succ]
        refine wpAnyH_take (i := 8) (oi := { dst := some 78, op := Op.pick (Operand.tmp 72) (Operand.const (Value.bool true)) (Operand.tmp 77), type := 4, pos := "law.go:61", after := _, guard := none }) (v := ?_) rfl (by kernel_rfl) (by kernel_rfl) (by kernel_rfl) (fun _ _ _ h => h) (Or.inl ⟨by rfl, ?_⟩) (by assumption) ?_
        rotate_left
        · intro w' hSw
          try dsimp only at hSw
          go_simp
          try with_reducible rfl
        try simp only [Act.put, List.setIfInBounds_toArray, List.set_cons_zero, List.set_cons_succ]
        refine wpAnyH_take (i := 9) (oi := { dst := some 79, op := Op.move (Operand.tmp 78), type := 4, pos := "law.go:61", after := _, guard := none }) (v := ?_) rfl (by kernel_rfl) (by kernel_rfl) (by kernel_rfl) (fun _ _ _ h => h) (Or.inl ⟨by rfl, ?_⟩) (by assumption) ?_
        rotate_left
        · intro w' hSw
          try dsimp only at hSw
          go_simp
          try with_reducible rfl
        try simp only [Act.put, List.setIfInBounds_toArray, List.set_cons_zero, List.set_cons_succ]
        refine wpAnyH_take (i := 11) (oi := { dst := some 81, op := Op.fieldAddr 72 (Operand.tmp 6) 4, type := 0, pos := "law.go:61", after := _, guard := some (9, false) }) (v := ?_) rfl (by kernel_rfl) (by kernel_rfl) (by kernel_rfl) (fun _ _ _ h => h) (Or.inl ⟨by rfl, ?_⟩) (by assumption) ?_
        rotate_left
        · intro w' hSw
          try dsimp only at hSw
          go_simp
          try with_reducible rfl
        try simp only [Act.put, List.setIfInBounds_toArray, List.set_cons_zero, List.set_cons_succ]
        refine wpAnyH_take (i := 12) (oi := { dst := some 82, op := Op.load 62 (Operand.tmp 81), type := 62, pos := "law.go:61", after := _, guard := some (9, false) }) (v := .agg (cellsB s'.se)) rfl (by kernel_rfl) (by kernel_rfl) (by kernel_rfl) (fun _ _ _ h => h) (yields_sub (g := s'.se) (by rfl) _ _ rfl _ _ rfl (fun w' hSw => by (try dsimp only at hSw); exact rng_se hSw.1.2) uB rfl infoB) (by assumption) ?_
        try simp only [Act.put, List.setIfInBounds_toArray, List.set_cons_zero, List.set_cons_succ]
        refine wpAnyH_ready (rs := [10]) (by kernel_rfl) (by simp) ?_
        refine AllReadyH.cons (o := { dst := some 80, op := Op.call { callee := Callee.value (Operand.func 25), args := #[Operand.tmp 5], argTypes := #[60] }, type := 22, pos := "law.go:61", after := _, guard := some (9, false) }) rfl (fun K hK => ?_) AllReadyH.nil
        go_simp
        go_at_call 25; refine (served_h HY.out hHeld).mono ?_; rintro e wg ⟨rfl, hb⟩
        try go_wp2_with fail
        refine hK.out _ _ ?_ (fun hHeld2 => ?_)
        · (try dsimp only)
          exact heldF hb hHeld
        clear hK K hHeld
        have hHeld := hHeld2
        clear hHeld2
        try simp only [Act.put, List.setIfInBounds_toArray, List.set_cons_zero, List.set_cons_succ]
        refine wpAnyH_ready (rs := [13]) (by kernel_rfl) (by simp) ?_
        refine AllReadyH.cons (o := { dst := some 83, op := Op.call { callee := Callee.value (Operand.func 34), args := #[Operand.tmp 82], argTypes := #[62] }, type := 22, pos := "law.go:61", after := _, guard := some (9, false) }) rfl (fun K hK => ?_) AllReadyH.nil
        go_simp
        go_at_call 34; refine (word_v HY.out _).mono ?_; rintro e wg ⟨rfl, hb⟩
        try go_wp2_with fail
        refine hK.out _ _ ?_ (fun hHeld2 => ?_)
        · (try dsimp only)
          exact heldF hb hHeld
        clear hK K hHeld
        have hHeld := hHeld2
        clear hHeld2
        try simp only [Act.put, List.setIfInBounds_toArray, List.set_cons_zero, List.set_cons_succ]
        refine wpAnyH_take (i := 14) (oi := { dst := some 84, op := Op.binOp BinOp.neq 22 (Operand.tmp 80) (Operand.tmp 83) 22, type := 4, pos := "law.go:61", after := _, guard := some (9, false) }) (v := ?_) rfl (by kernel_rfl) (by kernel_rfl) (by kernel_rfl) (fun _ _ _ h => h) (Or.inl ⟨by rfl, ?_⟩) (by assumption) ?_
        rotate_left
        · intro w' hSw
          try dsimp only at hSw
          go_simp
          try with_reducible rfl
        try simp only [Act.put, List.setIfInBounds_toArray, List.set_cons_zero, List.set_cons_succ]
        refine wpAnyH_take (i := 15) (oi := { dst := some 85, op := Op.pick (Operand.tmp 79) (Operand.const (Value.bool true)) (Operand.tmp 84), type := 4, pos := "law.go:61", after := _, guard := none }) (v := ?_) rfl (by kernel_rfl) (by kernel_rfl) (by kernel_rfl) (fun _ _ _ h => h) (Or.inl ⟨by rfl, ?_⟩) (by assumption) ?_
        rotate_left
        · intro w' hSw
          try dsimp only at hSw
          go_simp
          try with_reducible rfl
        try simp only [Act.put, List.setIfInBounds_toArray, List.set_cons_zero, List.set_cons_succ]
        refine wpAnyH_done (by kernel_rfl) ?_ _
        obtain ⟨⟨⟨gf, gp⟩, gx⟩, gv⟩ := hHeld
        have lzA : ∀ w' : World, w'.heap[bx]? = some (.cells (cellsD s') 72) → (loadCellsFrom ⟨bx, 0, none⟩ 0 szD #[]).run Try.prog w' = .ok (cellsD s') w' := fun w' h => ldD h
        go_wp2
        go_loopw [13] (fun i2 wr2 => ∃ c : Int, -1 ≤ c ∧ c ≤ 17 ∧ i2 = .int .i64 c ∧ Fr w.heap.size w wr2 ∧ wr2.heap[bp]? = some (.cells (cellsP s') 60) ∧ wr2.heap[bx]? = some (.cells (cellsD s') 72) ∧ wr2.heap[bw]? = some (.cells (cellsP s0) 60)) (fun i2 _ => (17 - intOf i2).toNat)
        case atStart => exact ⟨-1, by omega, by omega, rfl, gf, gp, gx, gv⟩
        case round =>
          clear gf gp gx gv
          obtain ⟨c, hc0, hc17, rfl, gf, gp, gx, gv⟩ := hrel
          by_cases hl17 : c < 17
          · obtain ⟨q2, hq2⟩ : ∃ q2, lineP s' c = q2 := ⟨_, rfl⟩
            have HQ2' := Lib.hid hq2
            clear hq2
            go_wp2_with fail
            go_region_held3 (fun w' => ((Fr w.heap.size w w' ∧ w'.heap[bp]? = some (.cells (cellsP s') 60)) ∧ w'.heap[bx]? = some (.cells (cellsD s') 72)) ∧ w'.heap[bw]? = some (.cells (cellsP s0) 60))
              (first | exact heldF ‹_› ‹_› | exact ⟨⟨⟨gf.drew, gp⟩, gx⟩, gv⟩ | go_keep)
              (first
                | (go_at_call 35; refine (line_h HQ2'.out oks' ‹_›).mono ?_; rintro e wg ⟨rfl, hb⟩)
                | (go_at_call 36; refine (rline_v HQ2'.out _ oks').mono ?_; rintro e wg ⟨rfl, hb⟩))
            all_goals
              have hG := (‹((Fr w.heap.size w _ ∧ _) ∧ _) ∧ _› : ((Fr w.heap.size w _ ∧ _) ∧ _) ∧ _)
              go_wp2
              go_roundw
              case rel => exact ⟨c + 1, by omega, by omega, by go_num, hG.1.1.1, hG.1.1.2, hG.1.2, hG.2⟩
              case measure => simp [intOf] <;> omega
          · have ec : c = 17 := by omega
            subst ec
            go_wp2
            go_roundw
            case rel => exact ⟨k + 1, s', by omega, by go_num, oks', HSN'.out, gf, gp, gx, gv⟩
            case measure => simp [intOf] <;> omega
      · have gf := (fr_of WE hB1 (F5.out.alloc (.cells (cellsD zeroP) 72))).row hB5 (cellsD s')
        have gp := keep_row kbE hyb (cellsD s')
        have gx := keep_row (WE.2 _ _ hne (keep_alloc X5.out (.cells (cellsD zeroP) 72))) hyx (cellsD s')
        have gv := keep_row (WE.2 _ _ hnw (keep_alloc V5.out (.cells (cellsD zeroP) 72))) hyv (cellsD s')
        have gy := row_at kyE (cellsD s')
        have ly := ldD (P := Try.prog) gy
        have sx := stD Try.prog gx s'
        have gp7 := Lib.hid (keep_row gp hne (cellsD s'))
        have gx7 := Lib.hid (row_at gx (cellsD s'))
        have gv7 := Lib.hid (keep_row gv hnx (cellsD s'))
        have gf7 := Lib.hid (gf.row hB2 (cellsD s'))
        clear gp gx gv gf gy kbE WE lxA syA
        try clear kyE
        go_wp2_with fail
        clear ly sx
        obtain ⟨wz, hwz⟩ : ∃ wz, wz = (w6.setRow w5.heap.size (cellsD s')).setRow bx (cellsD s') := ⟨_, rfl⟩
        rw [← hwz]
        have gp : wz.heap[bp]? = some (.cells (cellsP s') 60) := by rw [hwz]; exact gp7.out
        have gx : wz.heap[bx]? = some (.cells (cellsD s') 72) := by rw [hwz]; exact gx7.out
        have gv : wz.heap[bw]? = some (.cells (cellsP s0) 60) := by rw [hwz]; exact gv7.out
        have gf : Fr w.heap.size w wz := by rw [hwz]; exact gf7.out
        clear hwz gp7 gx7 gv7 gf7
        obtain ⟨X, hX⟩ : ∃ X, W32 s'.wa = X := ⟨_, rfl⟩
        obtain ⟨Y, hY⟩ : ∃ Y, W32 s'.se = Y := ⟨_, rfl⟩
        have HX := Lib.hid hX
        have HY := Lib.hid hY
        clear hX hY
        have a9 := size_cellsB
        have hszB := szB_ne
        have uB := Try.underlying62
        refine wp_region_held_drew (S := (fun w' => ((Fr w.heap.size w w' ∧ w'.heap[bp]? = some (.cells (cellsP s') 60)) ∧ w'.heap[bx]? = some (.cells (cellsD s') 72)) ∧ w'.heap[bw]? = some (.cells (cellsP s0) 60))) (by kernel_rfl) ?_ (fun hHeld => ?_)
        · exact ⟨⟨⟨gf.drew, gp⟩, gx⟩, gv⟩
        clear gf gp gx gv
        refine wpAnyH_take (i := 0) (oi := { dst := some 70, op := Op.move (Operand.tmp 12), type := 4, pos := "law.go:61", after := _, guard := none }) (v := ?_) rfl (by kernel_rfl) (by kernel_rfl) (by kernel_rfl) (fun _ _ _ h => h) (Or.inl ⟨by rfl, ?_⟩) (by assumption) ?_
        rotate_left
        · intro w' hSw
          try dsimp only at hSw
          go_simp
          try with_reducible rfl
        try simp only [Act.put, List.setIfInBounds_toArray, List.set_cons_zero, List.set_cons_succ]
        refine wpAnyH_take (i := 1) (oi := { dst := some 71, op := Op.unOp UnOp.not 4 (Operand.tmp 70), type := 4, pos := "law.go:61", after := _, guard := none }) (v := ?_) rfl (by kernel_rfl) (by kernel_rfl) (by kernel_rfl) (fun _ _ _ h => h) (Or.inl ⟨by rfl, ?_⟩) (by assumption) ?_
        rotate_left
        · intro w' hSw
          try dsimp only at hSw
          go_simp
          try with_reducible rfl
        try simp only [Act.put, List.setIfInBounds_toArray, List.set_cons_zero, List.set_cons_succ]
        refine wpAnyH_take (i := 2) (oi := { dst := some 72, op := Op.move (Operand.tmp 71), type := 4, pos := "law.go:61", after := _, guard := none }) (v := ?_) rfl (by kernel_rfl) (by kernel_rfl) (by kernel_rfl) (fun _ _ _ h => h) (Or.inl ⟨by rfl, ?_⟩) (by assumption) ?_
        rotate_left
        · intro w' hSw
          try dsimp only at hSw
          go_simp
          try with_reducible rfl
        try simp only [Act.put, List.setIfInBounds_toArray, List.set_cons_zero, List.set_cons_succ]
        refine wpAnyH_take (i := 4) (oi := { dst := some 74, op := Op.fieldAddr 72 (Operand.tmp 6) 3, type := 0, pos := "law.go:61", after := _, guard := some (2, false) }) (v := ?_) rfl (by kernel_rfl) (by kernel_rfl) (by kernel_rfl) (fun _ _ _ h => h) (Or.inl ⟨by rfl, ?_⟩) (by assumption) ?_
        rotate_left
        · intro w' hSw
          try dsimp only at hSw
          go_simp
          try with_reducible rfl
        try simp only [Act.put, List.setIfInBounds_toArray, List.set_cons_zero, List.set_cons_succ]
        refine wpAnyH_take (i := 5) (oi := { dst := some 75, op := Op.load 62 (Operand.tmp 74), type := 62, pos := "law.go:61", after := _, guard := some (2, false) }) (v := .agg (cellsB s'.wa)) rfl (by kernel_rfl) (by kernel_rfl) (by kernel_rfl) (fun _ _ _ h => h) (yields_sub (g := s'.wa) (by rfl) _ _ rfl _ _ rfl (fun w' hSw => by (try dsimp only at hSw); exact rng_wa hSw.1.2) uB rfl infoB) (by assumption) ?_
        try simp only [Act.put, List.setIfInBounds_toArray, List.set_cons_zero, List.set_cons_succ]
        refine wpAnyH_ready (rs := [3]) (by kernel_rfl) (by simp) ?_
        refine AllReadyH.cons (o := { dst := some 73, op := Op.call { callee := Callee.value (Operand.func 30), args := #[Operand.tmp 5], argTypes := #[60] }, type := 22, pos := "law.go:61", after := _, guard := some (2, false) }) rfl (fun K hK => ?_) AllReadyH.nil
        go_simp
        go_at_call 30; refine (waits_h HX.out hHeld).mono ?_; rintro e wg ⟨rfl, hb⟩
        try go_wp2_with fail
        refine hK.out _ _ ?_ (fun hHeld2 => ?_)
        · (try dsimp only)
          exact heldF hb hHeld
        clear hK K hHeld
        have hHeld := hHeld2
        clear hHeld2
        try simp only [Act.put, List.setIfInBounds_toArray, List.set_cons_zero, List.set_cons_succ]
        refine wpAnyH_ready (rs := [6]) (by kernel_rfl) (by simp) ?_
        refine AllReadyH.cons (o := { dst := some 76, op := Op.call { callee := Callee.value (Operand.func 34), args := #[Operand.tmp 75], argTypes := #[62] }, type := 22, pos := "law.go:61", after := _, guard := some (2, false) }) rfl (fun K hK => ?_) AllReadyH.nil
        go_simp
        go_at_call 34; refine (word_v HX.out _).mono ?_; rintro e wg ⟨rfl, hb⟩
        try go_wp2_with fail
        refine hK.out _ _ ?_ (fun hHeld2 => ?_)
        · (try dsimp only)
          exact heldF hb hHeld
        clear hK K hHeld
        have hHeld := hHeld2
        clear hHeld2
        try simp only [Act.put, List.setIfInBounds_toArray, List.set_cons_zero, List.set_cons_succ]
        refine wpAnyH_take (i := 7) (oi := { dst := some 77, op := Op.binOp BinOp.neq 22 (Operand.tmp 73) (Operand.tmp 76) 22, type := 4, pos := "law.go:61", after := _, guard := some (2, false) }) (v := ?_) rfl (by kernel_rfl) (by kernel_rfl) (by kernel_rfl) (fun _ _ _ h => h) (Or.inl ⟨by rfl, ?_⟩) (by assumption) ?_
        rotate_left
        · intro w' hSw
          try dsimp only at hSw
          go_simp
          try with_reducible rfl
        try simp only [Act.put, List.setIfInBounds_toArray, List.set_cons_zero, List.set_cons_succ]
        refine wpAnyH_take (i := 8) (oi := { dst := some 78, op := Op.pick (Operand.tmp 72) (Operand.const (Value.bool true)) (Operand.tmp 77), type := 4, pos := "law.go:61", after := _, guard := none }) (v := ?_) rfl (by kernel_rfl) (by kernel_rfl) (by kernel_rfl) (fun _ _ _ h => h) (Or.inl ⟨by rfl, ?_⟩) (by assumption) ?_
        rotate_left
        · intro w' hSw
          try dsimp only at hSw
          go_simp
          try with_reducible rfl
        try simp only [Act.put, List.setIfInBounds_toArray, List.set_cons_zero, List.set_cons_succ]
        refine wpAnyH_take (i := 9) (oi := { dst := some 79, op := Op.move (Operand.tmp 78), type := 4, pos := "law.go:61", after := _, guard := none }) (v := ?_) rfl (by kernel_rfl) (by kernel_rfl) (by kernel_rfl) (fun _ _ _ h => h) (Or.inl ⟨by rfl, ?_⟩) (by assumption) ?_
        rotate_left
        · intro w' hSw
          try dsimp only at hSw
          go_simp
          try with_reducible rfl
        try simp only [Act.put, List.setIfInBounds_toArray, List.set_cons_zero, List.set_cons_succ]
        refine wpAnyH_take (i := 11) (oi := { dst := some 81, op := Op.fieldAddr 72 (Operand.tmp 6) 4, type := 0, pos := "law.go:61", after := _, guard := some (9, false) }) (v := ?_) rfl (by kernel_rfl) (by kernel_rfl) (by kernel_rfl) (fun _ _ _ h => h) (Or.inl ⟨by rfl, ?_⟩) (by assumption) ?_
        rotate_left
        · intro w' hSw
          try dsimp only at hSw
          go_simp
          try with_reducible rfl
        try simp only [Act.put, List.setIfInBounds_toArray, List.set_cons_zero, List.set_cons_succ]
        refine wpAnyH_take (i := 12) (oi := { dst := some 82, op := Op.load 62 (Operand.tmp 81), type := 62, pos := "law.go:61", after := _, guard := some (9, false) }) (v := .agg (cellsB s'.se)) rfl (by kernel_rfl) (by kernel_rfl) (by kernel_rfl) (fun _ _ _ h => h) (yields_sub (g := s'.se) (by rfl) _ _ rfl _ _ rfl (fun w' hSw => by (try dsimp only at hSw); exact rng_se hSw.1.2) uB rfl infoB) (by assumption) ?_
        try simp only [Act.put, List.setIfInBounds_toArray, List.set_cons_zero, List.set_cons_succ]
        refine wpAnyH_ready (rs := [10]) (by kernel_rfl) (by simp) ?_
        refine AllReadyH.cons (o := { dst := some 80, op := Op.call { callee := Callee.value (Operand.func 25), args := #[Operand.tmp 5], argTypes := #[60] }, type := 22, pos := "law.go:61", after := _, guard := some (9, false) }) rfl (fun K hK => ?_) AllReadyH.nil
        go_simp
        go_at_call 25; refine (served_h HY.out hHeld).mono ?_; rintro e wg ⟨rfl, hb⟩
        try go_wp2_with fail
        refine hK.out _ _ ?_ (fun hHeld2 => ?_)
        · (try dsimp only)
          exact heldF hb hHeld
        clear hK K hHeld
        have hHeld := hHeld2
        clear hHeld2
        try simp only [Act.put, List.setIfInBounds_toArray, List.set_cons_zero, List.set_cons_succ]
        refine wpAnyH_ready (rs := [13]) (by kernel_rfl) (by simp) ?_
        refine AllReadyH.cons (o := { dst := some 83, op := Op.call { callee := Callee.value (Operand.func 34), args := #[Operand.tmp 82], argTypes := #[62] }, type := 22, pos := "law.go:61", after := _, guard := some (9, false) }) rfl (fun K hK => ?_) AllReadyH.nil
        go_simp
        go_at_call 34; refine (word_v HY.out _).mono ?_; rintro e wg ⟨rfl, hb⟩
        try go_wp2_with fail
        refine hK.out _ _ ?_ (fun hHeld2 => ?_)
        · (try dsimp only)
          exact heldF hb hHeld
        clear hK K hHeld
        have hHeld := hHeld2
        clear hHeld2
        try simp only [Act.put, List.setIfInBounds_toArray, List.set_cons_zero, List.set_cons_succ]
        refine wpAnyH_take (i := 14) (oi := { dst := some 84, op := Op.binOp BinOp.neq 22 (Operand.tmp 80) (Operand.tmp 83) 22, type := 4, pos := "law.go:61", after := _, guard := some (9, false) }) (v := ?_) rfl (by kernel_rfl) (by kernel_rfl) (by kernel_rfl) (fun _ _ _ h => h) (Or.inl ⟨by rfl, ?_⟩) (by assumption) ?_
        rotate_left
        · intro w' hSw
          try dsimp only at hSw
          go_simp
          try with_reducible rfl
        try simp only [Act.put, List.setIfInBounds_toArray, List.set_cons_zero, List.set_cons_succ]
        refine wpAnyH_take (i := 15) (oi := { dst := some 85, op := Op.pick (Operand.tmp 79) (Operand.const (Value.bool true)) (Operand.tmp 84), type := 4, pos := "law.go:61", after := _, guard := none }) (v := ?_) rfl (by kernel_rfl) (by kernel_rfl) (by kernel_rfl) (fun _ _ _ h => h) (Or.inl ⟨by rfl, ?_⟩) (by assumption) ?_
        rotate_left
        · intro w' hSw
          try dsimp only at hSw
          go_simp
          try with_reducible rfl
        try simp only [Act.put, List.setIfInBounds_toArray, List.set_cons_zero, List.set_cons_succ]
        refine wpAnyH_done (by kernel_rfl) ?_ _
        obtain ⟨⟨⟨gf, gp⟩, gx⟩, gv⟩ := hHeld
        have lzA : ∀ w' : World, w'.heap[bx]? = some (.cells (cellsD s') 72) → (loadCellsFrom ⟨bx, 0, none⟩ 0 szD #[]).run Try.prog w' = .ok (cellsD s') w' := fun w' h => ldD h
        go_wp2
        go_loopw [13] (fun i2 wr2 => ∃ c : Int, -1 ≤ c ∧ c ≤ 17 ∧ i2 = .int .i64 c ∧ Fr w.heap.size w wr2 ∧ wr2.heap[bp]? = some (.cells (cellsP s') 60) ∧ wr2.heap[bx]? = some (.cells (cellsD s') 72) ∧ wr2.heap[bw]? = some (.cells (cellsP s0) 60)) (fun i2 _ => (17 - intOf i2).toNat)
        case atStart => exact ⟨-1, by omega, by omega, rfl, gf, gp, gx, gv⟩
        case round =>
          clear gf gp gx gv
          obtain ⟨c, hc0, hc17, rfl, gf, gp, gx, gv⟩ := hrel
          by_cases hl17 : c < 17
          · obtain ⟨q2, hq2⟩ : ∃ q2, lineP s' c = q2 := ⟨_, rfl⟩
            have HQ2' := Lib.hid hq2
            clear hq2
            go_wp2_with fail
            go_region_held3 (fun w' => ((Fr w.heap.size w w' ∧ w'.heap[bp]? = some (.cells (cellsP s') 60)) ∧ w'.heap[bx]? = some (.cells (cellsD s') 72)) ∧ w'.heap[bw]? = some (.cells (cellsP s0) 60))
              (first | exact heldF ‹_› ‹_› | exact ⟨⟨⟨gf.drew, gp⟩, gx⟩, gv⟩ | go_keep)
              (first
                | (go_at_call 35; refine (line_h HQ2'.out oks' ‹_›).mono ?_; rintro e wg ⟨rfl, hb⟩)
                | (go_at_call 36; refine (rline_v HQ2'.out _ oks').mono ?_; rintro e wg ⟨rfl, hb⟩))
            all_goals
              have hG := (‹((Fr w.heap.size w _ ∧ _) ∧ _) ∧ _› : ((Fr w.heap.size w _ ∧ _) ∧ _) ∧ _)
              go_wp2
              go_roundw
              case rel => exact ⟨c + 1, by omega, by omega, by go_num, hG.1.1.1, hG.1.1.2, hG.1.2, hG.2⟩
              case measure => simp [intOf] <;> omega
          · have ec : c = 17 := by omega
            subst ec
            go_wp2
            go_roundw
            case rel => exact ⟨k + 1, s', by omega, by go_num, oks', HSN'.out, gf, gp, gx, gv⟩
            case measure => simp [intOf] <;> omega
    · have ek : k = len := by omega
      subst ek
      have a7 : ∀ w' : World, w'.heap[bw]? = some (.cells (cellsP s0) 60) → (loadCellsFrom ⟨bw, 0, none⟩ 0 szP #[]).run Try.prog w' = .ok (cellsP s0) w' := fun w' h => ldP h
      have heq := HEQ.out
      go_wp2_with fail
      go_region_held3 (fun w' => ((Fr w.heap.size w w' ∧ w'.heap[bp]? = some (.cells (cellsP s) 60)) ∧ w'.heap[bx]? = some (.cells (cellsD s) 72)) ∧ w'.heap[bw]? = some (.cells (cellsP s0) 60))
        (first | exact heldF ‹_› ‹_› | exact ⟨⟨⟨hfr.drew, kp⟩, kx⟩, kw⟩ | go_keep)
        (first
          | (go_at_call 24; refine (pnew_v HS.out _).mono ?_; rintro e w7 ⟨rfl, hb⟩)
          | (go_at_call 23; refine (live16_any _).mono ?_; rintro e w8 ⟨rfl, hb⟩))
      have FE := Lib.hid (‹((Fr w.heap.size w _ ∧ _) ∧ _) ∧ _› : ((Fr w.heap.size w _ ∧ _) ∧ _) ∧ _).1.1.1
      go_wp2
      go_ret
      exact ⟨rfl, FE.out.1⟩
theorem pplays_any (n : Int) (a : Option Addr) (len cap : Nat) (w : World) (hmax : len ≤ 9223372036854775807) (hd : Deeds w a len) :
    Calls Try.prog 7 #[.int .i64 n, .slice a len cap] w fun e w' => e = .returned (.bool true) ∧ Below w.heap.size w w' := by
  by_cases hl : len ≤ 100
  · exact pplays_short n a len cap w hl hd
  · exact pplays_long n a len cap w (by omega) hmax
end Go.Proofs.Ytgelpapjmlbgfaa
