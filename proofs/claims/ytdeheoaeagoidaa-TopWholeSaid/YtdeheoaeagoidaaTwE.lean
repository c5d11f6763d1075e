/- ram's SetLine. -/
import Derived.Test.YtdeheoaeagoidaaTwD
import Derived.Test.YtdeheoaeagoidaaTwA
namespace Go.Proofs.Ytdeheoaeagoidaa
open Go.RowKit
set_option linter.unusedSimpArgs false
set_option linter.unusedVariables false
attribute [local simp high] sizeLL zeroLL

theorem eq_zero (h : Nat → Nat) (ok : OkL h) (w : World) (q : Bool) (hq : q = true ↔ Value.agg (cellsL h) = zline) : (Op.equalIn 10000 135 (.agg (cellsL h)) (.agg (cellsL fun _ => 0))).run Try.prog w = .ok q w := by
  obtain ⟨r, hr, hi⟩ := eqL_gen (P := Try.prog) Try.underlying135 Try.underlying5 (by kernel_rfl) (by kernel_rfl) (by kernel_rfl) h (fun _ => 0) ok (fun _ => by show 0 < 256; omega) w
  have : r = q := by
    rw [Bool.eq_iff_iff, hi, hq]
    constructor
    · intro H
      unfold zline
      rw [cellsL_ext H]
    · intro H i hi2
      have h1 := cellsL_getD h hi2
      have h2 := cellsL_getD (fun _ => 0) hi2
      unfold zline at H
      rw [Value.agg.injEq] at H
      rw [H, h2] at h1
      simp at h1
      omega
  rw [← this]; exact hr
theorem bdLL (w : World) : (Instr.build 135 #[]).run Try.prog w = .ok (.agg (cellsL fun _ => 0)) w := by
  simp [Instr.build, zeroLL, go_sem]
  rfl
set_option maxRecDepth 100000 in
set_option maxHeartbeats 4000000 in
theorem setline_zero (b m k L : Nat) (g : Nat → Nat → Nat) (i : Nat) (h : Nat → Nat) (w : World) (ok : OkL h) (hi : i < L) (hL : L ≤ 4096) (hz : Value.agg (cellsL h) = zline) (hR0 : RamAt w b m k L g) :
    Calls Try.prog 74 #[.pointer (some ⟨b, 0, none⟩), .int .i64 (i : Int), .agg (cellsL h)] w fun e w' => e = .returned (.bool true) ∧ RamAt w' b m k L (updG g i h) ∧ Wrote m w w' := by
  have hi6 := line_lt hi hL
  have F0 := (Fr.refl w).alloc (.cells (cellsL h) 135)
  have kz := heap_alloc_new w (.cells (cellsL h) 135)
  have hR := hR0.keep F0.1
  have W0 := (Wrote.refl m w).alloc (.cells (cellsL h) 135)
  obtain ⟨c0, c1, cl⟩ := hR.cells
  have hbm : b ≠ m := by
    rintro rfl
    obtain ⟨D, ⟨es, clock, h1, _⟩, _⟩ := hR0.2
    rw [hR0.1] at h1
    cases h1
  have hlm := hR0.2.lt
  have hbw : w.heap.size ≠ b := by have := lt_of_at hR0.1; omega
  have d1 : decide ((i : Int) < 0) = false := by simp
  have d2 : decide ((L : Int) ≤ (i : Int)) = false := by simp; omega
  have l3 := size_cellsL
  have lb := bdLL
  have hi0 : (0 : Int) ≤ i := by omega
  have heq := fun w => eq_zero h ok w true (by simp [hz])
  have HZ := Lib.hid hz
  clear hz
  have ld := ld_rowL (P := Try.prog) kz
  go_enter Try.func74, Try.ntmps74
  go_wp2_with fail
  refine (ramlines_any b m k L g _ hR).mono ?_
  rintro e w1 ⟨rfl, hw⟩
  rw [hw]
  clear hw w1
  obtain ⟨wS, hwS⟩ : ∃ wS, w.alloc (.cells (cellsL h) 135) = wS := ⟨_, rfl⟩
  rw [hwS] at F0 kz hR c0 c1 cl W0 ld ⊢
  clear hwS
  go_wp2_with fail
  refine wp_region_held_drew (S := (fun w' => w'.cell? ⟨b, 1, none⟩ = some (.map (some m)) ∧ w'.heap[w.heap.size]? = some (.cells (cellsL h) 135))) (by kernel_rfl) ?_ (fun hHeld => ?_)
  · exact ⟨c1, kz⟩
  refine wpAnyH_take (i := 0) (oi := { dst := some 18, op := Op.move (Operand.tmp 0), type := 57, pos := "ram.go:66", after := _, guard := none }) (v := ?_) rfl (by kernel_rfl) (by kernel_rfl) (by kernel_rfl) (fun _ _ _ h => h) (Or.inl ⟨by rfl, ?_⟩) (by assumption) ?_
  rotate_left
  · intro w' hSw
    try dsimp only at hSw
    go_simp
    try with_reducible rfl
  try simp only [Act.put, List.setIfInBounds_toArray, List.set_cons_zero, List.set_cons_succ]
  refine wpAnyH_take (i := 1) (oi := { dst := some 19, op := Op.nilCheck (Operand.tmp 18), type := 0, pos := "ram.go:66", after := _, guard := none }) (v := ?_) rfl (by kernel_rfl) (by kernel_rfl) (by kernel_rfl) (fun _ _ _ h => h) (Or.inl ⟨by rfl, ?_⟩) (by assumption) ?_
  rotate_left
  · intro w' hSw
    try dsimp only at hSw
    go_simp
    try with_reducible rfl
  try simp only [Act.put, List.setIfInBounds_toArray, List.set_cons_zero, List.set_cons_succ]
  refine wpAnyH_take (i := 2) (oi := { dst := some 20, op := Op.fieldAddr 90 (Operand.tmp 19) 1, type := 0, pos := "ram.go:66", after := _, guard := none }) (v := ?_) rfl (by kernel_rfl) (by kernel_rfl) (by kernel_rfl) (fun _ _ _ h => h) (Or.inl ⟨by rfl, ?_⟩) (by assumption) ?_
  rotate_left
  · intro w' hSw
    try dsimp only at hSw
    go_simp
    try with_reducible rfl
  try simp only [Act.put, List.setIfInBounds_toArray, List.set_cons_zero, List.set_cons_succ]
  refine wpAnyH_take (i := 3) (oi := { dst := some 21, op := Op.load 88 (Operand.tmp 20), type := 88, pos := "ram.go:66", after := _, guard := none }) (v := ?_) rfl (by kernel_rfl) (by kernel_rfl) (by kernel_rfl) (fun _ _ _ h => h) (Or.inl ⟨by rfl, ?_⟩) (by assumption) ?_
  rotate_left
  · intro w' hSw
    try dsimp only at hSw
    go_simp
    try with_reducible rfl
  try simp only [Act.put, List.setIfInBounds_toArray, List.set_cons_zero, List.set_cons_succ]
  refine wpAnyH_take (i := 4) (oi := { dst := some 22, op := Op.move (Operand.tmp 1), type := 3, pos := "ram.go:66", after := _, guard := none }) (v := ?_) rfl (by kernel_rfl) (by kernel_rfl) (by kernel_rfl) (fun _ _ _ h => h) (Or.inl ⟨by rfl, ?_⟩) (by assumption) ?_
  rotate_left
  · intro w' hSw
    try dsimp only at hSw
    go_simp
    try with_reducible rfl
  try simp only [Act.put, List.setIfInBounds_toArray, List.set_cons_zero, List.set_cons_succ]
  refine wpAnyH_ready (rs := [5]) (by kernel_rfl) (by simp) ?_
  refine AllReadyH.cons (o := { dst := some 23, op := Op.call { callee := Callee.value (Operand.func 85), args := #[Operand.tmp 22], argTypes := #[3] }, type := 152, pos := "ram.go:66", after := _, guard := none }) rfl (fun K hK => ?_) AllReadyH.nil
  go_simp
  go_at_call 85
  refine (ramof_any i _ hi6).mono ?_
  rintro e w5 ⟨rfl, hb5⟩
  have hM5 := hR.2.same (hb5.block m hR.2.lt)
  have hB5 := keepB hb5 hR.1
  obtain ⟨w6, hrun, hM6, htt⟩ := mem_drop hM5 hi6 HZ.out 0
  have ht6 := turned_wrote htt
  try go_wp2_with fail
  refine hK.out _ _ ?_ (fun hHeld2 => ?_)
  · (try dsimp only)
    exact ⟨hcell hb5 hHeld.1, keepB hb5 hHeld.2⟩
  clear hK K hHeld
  have hHeld := hHeld2
  clear hHeld2
  try simp only [Act.put, List.setIfInBounds_toArray, List.set_cons_zero, List.set_cons_succ]
  refine wpAnyH_ready (rs := [6]) (by kernel_rfl) (by simp) ?_
  refine AllReadyH.cons (o := { dst := none, op := Op.call { callee := Callee.builtin Builtin.delete, args := #[Operand.tmp 21, Operand.tmp 23], argTypes := #[88, 152] }, type := 0, pos := "ram.go:66", after := _, guard := none }) rfl (fun K hK => ?_) AllReadyH.nil
  go_simp
  refine hK.out _ _ ?_ (fun hHeld2 => ?_)
  · (try dsimp only)
    exact ⟨by rw [cell_at (ht6.2 b _ hbm hB5)]; rfl, ht6.2 _ _ (by omega) hHeld.2⟩
  clear hK K hHeld
  have hHeld := hHeld2
  clear hHeld2
  try simp only [Act.put, List.setIfInBounds_toArray, List.set_cons_zero, List.set_cons_succ]
  refine wpAnyH_done (by kernel_rfl) ?_ _
  have HB := Lib.hid (ht6.2 b _ hbm hB5)
  have HW := Lib.hid ((W0.drew.below hb5).trans ht6)
  have HM := Lib.hid hM6
  go_wp2
  go_ret
  exact ⟨rfl, ⟨HB.out, HM.out⟩, HW.out⟩
set_option maxRecDepth 100000 in
set_option maxHeartbeats 4000000 in
theorem setline_some (b m k L : Nat) (g : Nat → Nat → Nat) (i : Nat) (h : Nat → Nat) (w : World) (ok : OkL h) (hi : i < L) (hL : L ≤ 4096) (hk : k < maxLen) (hz : Value.agg (cellsL h) ≠ zline) (hR0 : RamAt w b m k L g) :
    Calls Try.prog 74 #[.pointer (some ⟨b, 0, none⟩), .int .i64 (i : Int), .agg (cellsL h)] w fun e w' => e = .returned (.bool true) ∧ RamAt w' b m (k + 1) L (updG g i h) ∧ Wrote m w w' := by
  have hi6 := line_lt hi hL
  have F0 := (Fr.refl w).alloc (.cells (cellsL h) 135)
  have kz := heap_alloc_new w (.cells (cellsL h) 135)
  have hR := hR0.keep F0.1
  have W0 := (Wrote.refl m w).alloc (.cells (cellsL h) 135)
  obtain ⟨c0, c1, cl⟩ := hR.cells
  have hbm : b ≠ m := by
    rintro rfl
    obtain ⟨D, ⟨es, clock, h1, _⟩, _⟩ := hR0.2
    rw [hR0.1] at h1
    cases h1
  have hlm := hR0.2.lt
  have hbw : w.heap.size ≠ b := by have := lt_of_at hR0.1; omega
  have d1 : decide ((i : Int) < 0) = false := by simp
  have d2 : decide ((L : Int) ≤ (i : Int)) = false := by simp; omega
  have l3 := size_cellsL
  have lb := bdLL
  have hi0 : (0 : Int) ≤ i := by omega
  have heq := fun w => eq_zero h ok w false (by simp [hz])
  have HZ := Lib.hid hz
  clear hz
  have ld := ld_rowL (P := Try.prog) kz
  go_enter Try.func74, Try.ntmps74
  go_wp2_with fail
  refine (ramlines_any b m k L g _ hR).mono ?_
  rintro e w1 ⟨rfl, hw⟩
  rw [hw]
  clear hw w1
  obtain ⟨wS, hwS⟩ : ∃ wS, w.alloc (.cells (cellsL h) 135) = wS := ⟨_, rfl⟩
  rw [hwS] at F0 kz hR c0 c1 cl W0 ld ⊢
  clear hwS
  go_wp2_with fail
  refine wp_region_held_drew (S := (fun w' => w'.cell? ⟨b, 1, none⟩ = some (.map (some m)) ∧ w'.heap[w.heap.size]? = some (.cells (cellsL h) 135))) (by kernel_rfl) ?_ (fun hHeld => ?_)
  · exact ⟨c1, kz⟩
  refine wpAnyH_take (i := 0) (oi := { dst := some 24, op := Op.move (Operand.tmp 0), type := 57, pos := "ram.go:68", after := _, guard := none }) (v := ?_) rfl (by kernel_rfl) (by kernel_rfl) (by kernel_rfl) (fun _ _ _ h => h) (Or.inl ⟨by rfl, ?_⟩) (by assumption) ?_
  rotate_left
  · intro w' hSw
    try dsimp only at hSw
    go_simp
    try with_reducible rfl
  try simp only [Act.put, List.setIfInBounds_toArray, List.set_cons_zero, List.set_cons_succ]
  refine wpAnyH_take (i := 1) (oi := { dst := some 25, op := Op.nilCheck (Operand.tmp 24), type := 0, pos := "ram.go:68", after := _, guard := none }) (v := ?_) rfl (by kernel_rfl) (by kernel_rfl) (by kernel_rfl) (fun _ _ _ h => h) (Or.inl ⟨by rfl, ?_⟩) (by assumption) ?_
  rotate_left
  · intro w' hSw
    try dsimp only at hSw
    go_simp
    try with_reducible rfl
  try simp only [Act.put, List.setIfInBounds_toArray, List.set_cons_zero, List.set_cons_succ]
  refine wpAnyH_take (i := 2) (oi := { dst := some 26, op := Op.fieldAddr 90 (Operand.tmp 25) 1, type := 0, pos := "ram.go:68", after := _, guard := none }) (v := ?_) rfl (by kernel_rfl) (by kernel_rfl) (by kernel_rfl) (fun _ _ _ h => h) (Or.inl ⟨by rfl, ?_⟩) (by assumption) ?_
  rotate_left
  · intro w' hSw
    try dsimp only at hSw
    go_simp
    try with_reducible rfl
  try simp only [Act.put, List.setIfInBounds_toArray, List.set_cons_zero, List.set_cons_succ]
  refine wpAnyH_take (i := 3) (oi := { dst := some 27, op := Op.load 88 (Operand.tmp 26), type := 88, pos := "ram.go:68", after := _, guard := none }) (v := ?_) rfl (by kernel_rfl) (by kernel_rfl) (by kernel_rfl) (fun _ _ _ h => h) (Or.inl ⟨by rfl, ?_⟩) (by assumption) ?_
  rotate_left
  · intro w' hSw
    try dsimp only at hSw
    go_simp
    try with_reducible rfl
  try simp only [Act.put, List.setIfInBounds_toArray, List.set_cons_zero, List.set_cons_succ]
  refine wpAnyH_take (i := 4) (oi := { dst := some 28, op := Op.move (Operand.tmp 1), type := 3, pos := "ram.go:68", after := _, guard := none }) (v := ?_) rfl (by kernel_rfl) (by kernel_rfl) (by kernel_rfl) (fun _ _ _ h => h) (Or.inl ⟨by rfl, ?_⟩) (by assumption) ?_
  rotate_left
  · intro w' hSw
    try dsimp only at hSw
    go_simp
    try with_reducible rfl
  try simp only [Act.put, List.setIfInBounds_toArray, List.set_cons_zero, List.set_cons_succ]
  refine wpAnyH_take (i := 6) (oi := { dst := some 30, op := Op.load 135 (Operand.tmp 5), type := 135, pos := "ram.go:68", after := _, guard := none }) (v := .agg (cellsL h)) rfl (by kernel_rfl) (by kernel_rfl) (by kernel_rfl) (fun _ _ _ h => h) (yields_row (g := h) (by rfl) _ _ rfl _ rfl (fun w' hSw => by (try dsimp only at hSw); go_split_ands; assumption) Try.underlying135 rfl infoLL) (by assumption) ?_
  try simp only [Act.put, List.setIfInBounds_toArray, List.set_cons_zero, List.set_cons_succ]
  refine wpAnyH_ready (rs := [5]) (by kernel_rfl) (by simp) ?_
  refine AllReadyH.cons (o := { dst := some 29, op := Op.call { callee := Callee.value (Operand.func 85), args := #[Operand.tmp 28], argTypes := #[3] }, type := 152, pos := "ram.go:68", after := _, guard := none }) rfl (fun K hK => ?_) AllReadyH.nil
  go_simp
  go_at_call 85
  refine (ramof_any i _ hi6).mono ?_
  rintro e w5 ⟨rfl, hb5⟩
  have hM5 := hR.2.same (hb5.block m hR.2.lt)
  have hB5 := keepB hb5 hR.1
  obtain ⟨w6, hrun, hM6, htt⟩ := mem_store hM5 hk hi6 HZ.out
  have ht6 := turned_wrote htt
  try go_wp2_with fail
  refine hK.out _ _ ?_ (fun hHeld2 => ?_)
  · (try dsimp only)
    exact ⟨hcell hb5 hHeld.1, keepB hb5 hHeld.2⟩
  clear hK K hHeld
  have hHeld := hHeld2
  clear hHeld2
  try simp only [Act.put, List.setIfInBounds_toArray, List.set_cons_zero, List.set_cons_succ]
  refine wpAnyH_ready (rs := [7]) (by kernel_rfl) (by simp) ?_
  refine AllReadyH.cons (o := { dst := none, op := Op.mapUpdate 88 (Operand.tmp 27) (Operand.tmp 29) (Operand.tmp 30), type := 0, pos := "ram.go:68", after := _, guard := none }) rfl (fun K hK => ?_) AllReadyH.nil
  go_simp
  refine hK.out _ _ ?_ (fun hHeld2 => ?_)
  · (try dsimp only)
    exact ⟨by rw [cell_at (ht6.2 b _ hbm hB5)]; rfl, ht6.2 _ _ (by omega) hHeld.2⟩
  clear hK K hHeld
  have hHeld := hHeld2
  clear hHeld2
  try simp only [Act.put, List.setIfInBounds_toArray, List.set_cons_zero, List.set_cons_succ]
  refine wpAnyH_done (by kernel_rfl) ?_ _
  have HB := Lib.hid (ht6.2 b _ hbm hB5)
  have HW := Lib.hid ((W0.drew.below hb5).trans ht6)
  have HM := Lib.hid hM6
  go_wp2
  go_ret
  exact ⟨rfl, ⟨HB.out, HM.out⟩, HW.out⟩
end Go.Proofs.Ytdeheoaeagoidaa
