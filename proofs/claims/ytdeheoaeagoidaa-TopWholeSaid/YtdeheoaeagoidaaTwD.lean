/- ram's New, Line, SetLine. -/
import Derived.Test.YtdeheoaeagoidaaTwC
import Derived.Deep.RegionHeld3
namespace Go.Proofs.Ytdeheoaeagoidaa
open Go.RowKit
set_option linter.unusedSimpArgs false
set_option linter.unusedVariables false
attribute [local simp high] sizeLL zeroLL

set_option maxRecDepth 100000 in
set_option maxHeartbeats 4000000 in
theorem ramnew_yes (n : Nat) (w : World) (h1 : 1 ≤ n) (h2 : n ≤ 4096) :
    Calls Try.prog 14 #[.int .i64 (n : Int)] w fun e w' => e = .returned (.tuple #[.pointer (some ⟨w.heap.size + 1, 0, none⟩), .int .i64 0]) ∧ RamAt w' (w.heap.size + 1) w.heap.size 0 n (fun _ _ => 0) ∧ Below w.heap.size w w' := by
  have d1 : decide ((n : Int) < 1) = false := by simp; omega
  have d2 : decide (4096 < (n : Int)) = false := by simp; omega
  have F0 := ((Fr.refl w).alloc (.map #[] 0)).alloc (.cells #[.int .i64 (n : Int), .map (some w.heap.size)] 90)
  have hb : ((w.alloc (.map #[] 0)).alloc (.cells #[.int .i64 (n : Int), .map (some w.heap.size)] 90)).heap[w.heap.size + 1]? = some (.cells #[.int .i64 (n : Int), .map (some w.heap.size)] 90) := by
    simpa using heap_alloc_new (w.alloc (.map #[] 0)) (.cells #[.int .i64 (n : Int), .map (some w.heap.size)] 90)
  have hm := (mem_new w).keep (((Fr.refl (w.alloc (.map #[] 0))).alloc (.cells #[.int .i64 (n : Int), .map (some w.heap.size)] 90)).1)
  have HR : Hid (RamAt ((w.alloc (.map #[] 0)).alloc (.cells #[.int .i64 (n : Int), .map (some w.heap.size)] 90)) (w.heap.size + 1) w.heap.size 0 n (fun _ _ => 0)) := ⟨hb, hm⟩
  clear hb hm
  have mk : ∀ w : World, (Instr.makeMap 88 none).run Try.prog w = .ok (.map (some w.heap.size)) (w.alloc (.map #[] 0)) := fun w => rfl
  go_enter Try.func14, Try.ntmps14
  go_wp2
  go_ret2
  exact ⟨rfl, HR.out, F0.1⟩

theorem cell_row {w : World} {c : Nat} {a : Addr} (h : c ≠ a.block) (cs : Array Value) : (w.setRow c cs).cell? a = w.cell? a := by
  unfold World.cell?
  simp [World.setRow, Array.getElem?_modify, h]
theorem hl_call {w w' : World} {B b c : Nat} {o : Obj} {w0 : World} {v : Value} (hb : Below w.heap.size w w') (h : (Fr B w0 w ∧ w.cell? ⟨b, 1, none⟩ = some v) ∧ w.heap[c]? = some o) : (Fr B w0 w' ∧ w'.cell? ⟨b, 1, none⟩ = some v) ∧ w'.heap[c]? = some o := ⟨⟨h.1.1.step hb, hcell hb h.1.2⟩, keepB hb h.2⟩
theorem line_lt {i L : Nat} (hi : i < L) (hL : L ≤ 4096) : i < 65536 := by omega
set_option maxRecDepth 100000 in
set_option maxHeartbeats 4000000 in
theorem ramline_yes (b m k L : Nat) (g : Nat → Nat → Nat) (i : Nat) (w : World) (hi : i < L) (hL : L ≤ 4096) (h : RamAt w b m k L g) :
    Calls Try.prog 70 #[.pointer (some ⟨b, 0, none⟩), .int .i64 (i : Int)] w fun e w' => e = .returned (.agg (cellsL (g i))) ∧ Below w.heap.size w w' := by
  have hi6 := line_lt hi hL
  have F0 := (Fr.refl w).alloc (.cells (cellsL fun _ => 0) 135)
  have kz := heap_alloc_new w (.cells (cellsL fun _ => 0) 135)
  have hR := h.keep F0.1
  obtain ⟨c0, c1, cl⟩ := hR.cells
  have hbw : w.heap.size ≠ b := by have := lt_of_at h.1; omega
  have d1 : decide ((i : Int) < 0) = false := by simp
  have d2 : decide ((L : Int) ≤ (i : Int)) = false := by simp; omega
  have l3 := size_cellsL
  have hi0 : (0 : Int) ≤ i := by omega
  go_enter Try.func70, Try.ntmps70
  go_wp2_with fail
  refine (ramlines_any b m k L g _ hR).mono ?_
  rintro e w1 ⟨rfl, hw⟩
  rw [hw]
  clear hw w1
  obtain ⟨wS, hwS⟩ : ∃ wS, w.alloc (.cells (cellsL fun _ => 0) 135) = wS := ⟨_, rfl⟩
  rw [hwS] at F0 kz hR c0 c1 cl ⊢
  clear hwS
  go_wp2_with fail
  refine wp_region_held_drew (S := (fun w' => Fr w.heap.size w w' ∧ w'.cell? ⟨b, 1, none⟩ = some (.map (some m)))) (by kernel_rfl) ?_ (fun hHeld => ?_)
  · exact ⟨F0.drew, c1⟩
  refine wpAnyH_take (i := 0) (oi := { dst := some 14, op := Op.move (Operand.tmp 0), type := 57, pos := "ram.go:57", after := _, guard := none }) (v := ?_) rfl (by kernel_rfl) (by kernel_rfl) (by kernel_rfl) (fun _ _ _ h => h) (Or.inl ⟨by rfl, ?_⟩) (by assumption) ?_
  rotate_left
  · intro w' hSw
    try dsimp only at hSw
    go_simp
    try with_reducible rfl
  try simp only [Act.put, List.setIfInBounds_toArray, List.set_cons_zero, List.set_cons_succ]
  refine wpAnyH_take (i := 1) (oi := { dst := some 15, op := Op.nilCheck (Operand.tmp 14), type := 0, pos := "ram.go:57", after := _, guard := none }) (v := ?_) rfl (by kernel_rfl) (by kernel_rfl) (by kernel_rfl) (fun _ _ _ h => h) (Or.inl ⟨by rfl, ?_⟩) (by assumption) ?_
  rotate_left
  · intro w' hSw
    try dsimp only at hSw
    go_simp
    try with_reducible rfl
  try simp only [Act.put, List.setIfInBounds_toArray, List.set_cons_zero, List.set_cons_succ]
  refine wpAnyH_take (i := 2) (oi := { dst := some 16, op := Op.fieldAddr 90 (Operand.tmp 15) 1, type := 0, pos := "ram.go:57", after := _, guard := none }) (v := ?_) rfl (by kernel_rfl) (by kernel_rfl) (by kernel_rfl) (fun _ _ _ h => h) (Or.inl ⟨by rfl, ?_⟩) (by assumption) ?_
  rotate_left
  · intro w' hSw
    try dsimp only at hSw
    go_simp
    try with_reducible rfl
  try simp only [Act.put, List.setIfInBounds_toArray, List.set_cons_zero, List.set_cons_succ]
  refine wpAnyH_take (i := 3) (oi := { dst := some 17, op := Op.load 88 (Operand.tmp 16), type := 88, pos := "ram.go:57", after := _, guard := none }) (v := ?_) rfl (by kernel_rfl) (by kernel_rfl) (by kernel_rfl) (fun _ _ _ h => h) (Or.inl ⟨by rfl, ?_⟩) (by assumption) ?_
  rotate_left
  · intro w' hSw
    try dsimp only at hSw
    go_simp
    try with_reducible rfl
  try simp only [Act.put, List.setIfInBounds_toArray, List.set_cons_zero, List.set_cons_succ]
  refine wpAnyH_take (i := 4) (oi := { dst := some 18, op := Op.move (Operand.tmp 1), type := 3, pos := "ram.go:57", after := _, guard := none }) (v := ?_) rfl (by kernel_rfl) (by kernel_rfl) (by kernel_rfl) (fun _ _ _ h => h) (Or.inl ⟨by rfl, ?_⟩) (by assumption) ?_
  rotate_left
  · intro w' hSw
    try dsimp only at hSw
    go_simp
    try with_reducible rfl
  try simp only [Act.put, List.setIfInBounds_toArray, List.set_cons_zero, List.set_cons_succ]
  refine wpAnyH_ready (rs := [5]) (by kernel_rfl) (by simp) ?_
  refine AllReadyH.cons (o := { dst := some 19, op := Op.call { callee := Callee.value (Operand.func 85), args := #[Operand.tmp 18], argTypes := #[3] }, type := 152, pos := "ram.go:57", after := _, guard := none }) rfl (fun K hK => ?_) AllReadyH.nil
  go_simp
  go_at_call 85
  refine (ramof_any i _ hi6).mono ?_
  rintro e w5 ⟨rfl, hb5⟩
  have hM5 := hR.2.same (hb5.block m hR.2.lt)
  have lk := mem_look hM5 hi6
  have kz5 := keepB hb5 kz
  have sA := st_rowL Try.prog kz5 (g i)
  try go_wp2_with fail
  refine hK.out _ _ ?_ (fun hHeld2 => ?_)
  · (try dsimp only)
    exact ⟨hHeld.1.step hb5, hcell hb5 hHeld.2⟩
  clear hK K hHeld
  have hHeld := hHeld2
  clear hHeld2
  try simp only [Act.put, List.setIfInBounds_toArray, List.set_cons_zero, List.set_cons_succ]
  refine wpAnyH_ready (rs := [6]) (by kernel_rfl) (by simp) ?_
  refine AllReadyH.cons (o := { dst := some 20, op := Op.lookup 88 (Operand.tmp 17) (Operand.tmp 19) false, type := 135, pos := "ram.go:57", after := _, guard := none }) rfl (fun K hK => ?_) AllReadyH.nil
  go_simp
  refine hK.out _ _ ?_ (fun hHeld2 => ?_)
  · (try dsimp only)
    exact hHeld
  clear hK K hHeld
  have hHeld := hHeld2
  clear hHeld2
  try simp only [Act.put, List.setIfInBounds_toArray, List.set_cons_zero, List.set_cons_succ]
  refine wpAnyH_ready (rs := [7]) (by kernel_rfl) (by simp) ?_
  refine AllReadyH.cons (o := { dst := none, op := Op.store 135 (Operand.tmp 4) (Operand.tmp 20), type := 0, pos := "ram.go:57", after := _, guard := none }) rfl (fun K hK => ?_) AllReadyH.nil
  go_simp
  refine hK.out _ _ ?_ (fun hHeld2 => ?_)
  · (try dsimp only)
    exact ⟨hHeld.1.row (Nat.le_refl _) _, by rw [cell_row hbw]; exact hHeld.2⟩
  clear hK K hHeld
  have hHeld := hHeld2
  clear hHeld2
  try simp only [Act.put, List.setIfInBounds_toArray, List.set_cons_zero, List.set_cons_succ]
  refine wpAnyH_done (by kernel_rfl) ?_ _
  have FE := Lib.hid hHeld.1
  have EE := Lib.hid (lvLL (row_at kz5 (cellsL (g i))))
  go_wp2
  refine bodyPost_ret (v := .agg (cellsL (g i))) (by simp [results, Try.results70, asAddr, Act.put, EE.out]) rfl ⟨rfl, FE.out.1⟩
end Go.Proofs.Ytdeheoaeagoidaa
