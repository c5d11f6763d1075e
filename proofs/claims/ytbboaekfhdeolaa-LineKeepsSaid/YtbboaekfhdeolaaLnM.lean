/- LineKeeps: the walk. -/
import Derived.Test.YtbboaekfhdeolaaLnL
namespace Go.Proofs.Ytbboaekfhdeolaa
open Go.RowKit
set_option linter.unusedSimpArgs false
set_option linter.unusedVariables false
attribute [local simp high] sizeLL zeroLL sizeLR zeroLR

theorem heldK {w w' : World} {B b c : Nat} {o p : Obj} {a1 a2 a3 : Addr} {v1 v2 v3 : Value} {w0 : World} (hb : Below w.heap.size w w') (h : ((((Fr B w0 w ∧ w.heap[b]? = some o) ∧ w.heap[c]? = some p) ∧ w.cell? a1 = some v1) ∧ w.cell? a2 = some v2) ∧ w.cell? a3 = some v3) :
    ((((Fr B w0 w' ∧ w'.heap[b]? = some o) ∧ w'.heap[c]? = some p) ∧ w'.cell? a1 = some v1) ∧ w'.cell? a2 = some v2) ∧ w'.cell? a3 = some v3 := ⟨⟨⟨⟨⟨h.1.1.1.1.1.step hb, keepB hb h.1.1.1.1.2⟩, keepB hb h.1.1.1.2⟩, hcell hb h.1.1.2⟩, hcell hb h.1.2⟩, hcell hb h.2⟩
theorem heldJ {w w' : World} {B b c d : Nat} {o p q : Obj} {w0 : World} (hb : Below w.heap.size w w') (h : ((Fr B w0 w ∧ w.heap[b]? = some o) ∧ w.heap[c]? = some p) ∧ w.heap[d]? = some q) :
    ((Fr B w0 w' ∧ w'.heap[b]? = some o) ∧ w'.heap[c]? = some p) ∧ w'.heap[d]? = some q := ⟨⟨⟨h.1.1.1.step hb, keepB hb h.1.1.2⟩, keepB hb h.1.2⟩, keepB hb h.2⟩
theorem i64_nn (n : Nat) (h : n < 9223372036854775808) : IntB (n : Int) := by unfold IntB; omega
set_option maxRecDepth 100000 in
set_option maxHeartbeats 8000000 in
theorem keeps_any (a : Option Addr) (len cap : Nat) (b : Nat → Nat) (a' : Option Addr) (len' cap' : Nat) (b' : Nat → Nat) (p0 p1 p2 : Int) (w : World) (hb : Bytes w a len b) (h8 : ∀ i, i < len → b i < 256)
    (hb' : Bytes w a' len' b') (h8' : ∀ i, i < len' → b' i < 256) :
    Calls Try.prog 5 #[.slice a len cap, .slice a' len' cap', .agg #[.int .i64 p0, .int .i64 p1, .int .i64 p2]] w fun e w' => e = .returned (.bool true) ∧ Below w.heap.size w w' := by
  have okl := ofL_ok h8
  have oko := ofL_ok h8'
  obtain ⟨gl, hgl⟩ : ∃ g, ofL b len = g := ⟨_, rfl⟩
  obtain ⟨go, hgo⟩ : ∃ g, ofL b' len' = g := ⟨_, rfl⟩
  rw [hgl] at okl
  rw [hgo] at oko
  obtain ⟨y, hy⟩ : ∃ y, diffV gl go = y := ⟨_, rfl⟩
  have hbl : cellsL (blendL gl go y 64) = cellsL go := by rw [← hy]; exact blend_diff gl go
  have hbn : cellsL (blendL gl go 0 64) = cellsL gl := by rw [blend_none]
  have hy64 : y < 18446744073709551616 := by rw [← hy]; exact W64_lt _
  have hdz : diffV gl gl = 0 := diffV_zero fun _ _ => rfl
  obtain ⟨v, hv⟩ : ∃ v : Nat, IntKind.u64.wrap p2 = (v : Int) := ⟨(IntKind.u64.wrap p2).toNat, by rw [IntKind.wrap_u64]; omega⟩
  have hv64 : v < 18446744073709551616 := by have := hv; rw [IntKind.wrap_u64] at this; omega
  have HG := Lib.hid hgl
  have HO := Lib.hid hgo
  have HY := Lib.hid hy
  have HBL := Lib.hid hbl
  have HBN := Lib.hid hbn
  have HDZ := Lib.hid hdz
  have OKG := Lib.hid okl
  have OKO := Lib.hid oko
  clear hgl hgo hy hbl hbn hdz okl oko h8 h8'
  have l3 := size_cellsL
  have eqg : ∀ w, (Op.equalIn 10000 26 (.agg (cellsL gl)) (.agg (cellsL gl))).run Try.prog w = .ok true w := fun w => eqLs gl OKG.out w
  have eqo : ∀ w, (Op.equalIn 10000 26 (.agg (cellsL go)) (.agg (cellsL go))).run Try.prog w = .ok true w := fun w => eqLs go OKO.out w
  have uL := Try.underlying26
  have s1 := stnLL
  have k0 := heap_alloc_new w (.cells #[.int .i64 p0, .int .i64 p1, .int .i64 p2] 47)
  have F0 := (Fr.refl w).alloc (.cells #[.int .i64 p0, .int .i64 p1, .int .i64 p2] 47)
  have B0 := Lib.hid (hb.keep F0.1)
  have B0' := Lib.hid (hb'.keep F0.1)
  clear hb hb'
  go_enter Try.func5, Try.ntmps5
  go_wp2_with fail
  refine (lof_v HG.out _ B0.out).mono ?_
  rintro e w1 ⟨rfl, hb1⟩
  have k1 := keepB hb1 k0
  have F1 := F0.step hb1
  have B1' := Lib.hid (B0'.out.keep hb1)
  clear k0 F0 B0 B0' hb1
  go_wp2_with fail
  refine (lof_v HO.out _ B1'.out).mono ?_
  rintro e w2 ⟨rfl, hb2⟩
  have k2 := keepB hb2 k1
  have F2 := F1.step hb2
  clear k1 F1 B1' hb2
  have kax := keep_alloc (heap_alloc_new w2 (.cells (cellsL fun _ => 0) 26)) (.cells (cellsL fun _ => 0) 26)
  have sax := st_rowL Try.prog kax gl
  have kzx : ((w2.alloc (.cells (cellsL fun _ => 0) 26)).alloc (.cells (cellsL fun _ => 0) 26)).heap[w2.heap.size + 1]? = some (.cells (cellsL fun _ => 0) 26) := by simpa using heap_alloc_new (w2.alloc (.cells (cellsL fun _ => 0) 26)) (.cells (cellsL fun _ => 0) 26)
  have hn1x : w2.heap.size ≠ w2.heap.size + 1 := by omega
  have hn2x : w2.heap.size + 1 ≠ w2.heap.size := by omega
  have sbx := st_rowL Try.prog (keep_row kzx hn1x (cellsL gl)) go
  have ql := keep_row (row_at kax (cellsL gl)) hn2x (cellsL go)
  have qo := row_at (keep_row kzx hn1x (cellsL gl)) (cellsL go)
  have hB1x : w.heap.size ≤ w2.heap.size := F2.2
  have hB2x : w.heap.size ≤ w2.heap.size + 1 := by omega
  have hlk3 := lt_of_at k2
  have k3 := keep_row (keep_row (keep_alloc (keep_alloc k2 (.cells (cellsL fun _ => 0) 26)) (.cells (cellsL fun _ => 0) 26)) (Nat.ne_of_gt hlk3) (cellsL gl)) (Nat.ne_of_gt (Nat.lt_succ_of_lt hlk3)) (cellsL go)
  have F3 := ((((F2.alloc (.cells (cellsL fun _ => 0) 26)).alloc (.cells (cellsL fun _ => 0) 26)).row hB1x (cellsL gl)).row hB2x (cellsL go))
  clear kax kzx F2 k2
  go_upto_region 2 with fail
  obtain ⟨WB, hWB⟩ : ∃ W, ((((w2.alloc (.cells (cellsL fun _ => 0) 26)).alloc (.cells (cellsL fun _ => 0) 26)).setRow w2.heap.size (cellsL gl)).setRow (w2.heap.size + 1) (cellsL go)) = W := ⟨_, rfl⟩
  obtain ⟨bl, hbl⟩ : ∃ b, w2.heap.size = b := ⟨_, rfl⟩
  obtain ⟨bo, hbo⟩ : ∃ b, bl + 1 = b := ⟨_, rfl⟩
  rw [hWB] at ql qo F3 k3 ⊢
  rw [hbl] at ql qo ⊢
  rw [hbo] at qo ⊢
  clear sax sbx hn1x hn2x hB1x hB2x hWB hbl hbo hlk3
  have hltl := lt_of_at ql
  go_wp2_with fail
  refine wp_region_held_drew (S := (fun w' => ((Fr w.heap.size w w' ∧ w'.heap[bl]? = some (.cells (cellsL gl) 26)) ∧ w'.heap[bo]? = some (.cells (cellsL go) 26)) ∧ w'.heap[w.heap.size]? = some (.cells #[.int .i64 p0, .int .i64 p1, .int .i64 p2] 47))) (by kernel_rfl) ?_ (fun hHeld => ?_)
  · exact ⟨⟨⟨F3.drew, ql⟩, qo⟩, k3⟩
  refine wpAnyH_take (i := 0) (oi := { dst := some 17, op := Op.load 26 (Operand.tmp 7), type := 26, pos := "law.go:52", after := _, guard := none }) (v := .agg (cellsL gl)) rfl (by kernel_rfl) (by kernel_rfl) (by kernel_rfl) (fun _ _ _ h => h) (yields_row (g := gl) (by rfl) _ _ rfl _ rfl (fun w' hSw => by (try dsimp only at hSw); go_split_ands; assumption) uL rfl infoLL) (by assumption) ?_
  try simp only [Act.put, List.setIfInBounds_toArray, List.set_cons_zero, List.set_cons_succ]
  refine wpAnyH_take (i := 1) (oi := { dst := some 18, op := Op.load 26 (Operand.tmp 8), type := 26, pos := "law.go:52", after := _, guard := none }) (v := .agg (cellsL go)) rfl (by kernel_rfl) (by kernel_rfl) (by kernel_rfl) (fun _ _ _ h => h) (yields_row (g := go) (by rfl) _ _ rfl _ rfl (fun w' hSw => by (try dsimp only at hSw); go_split_ands; assumption) uL rfl infoLL) (by assumption) ?_
  try simp only [Act.put, List.setIfInBounds_toArray, List.set_cons_zero, List.set_cons_succ]
  refine wpAnyH_take (i := 2) (oi := { dst := some 19, op := Op.load 26 (Operand.tmp 7), type := 26, pos := "law.go:52", after := _, guard := none }) (v := .agg (cellsL gl)) rfl (by kernel_rfl) (by kernel_rfl) (by kernel_rfl) (fun _ _ _ h => h) (yields_row (g := gl) (by rfl) _ _ rfl _ rfl (fun w' hSw => by (try dsimp only at hSw); go_split_ands; assumption) uL rfl infoLL) (by assumption) ?_
  try simp only [Act.put, List.setIfInBounds_toArray, List.set_cons_zero, List.set_cons_succ]
  refine wpAnyH_take (i := 3) (oi := { dst := some 20, op := Op.load 26 (Operand.tmp 8), type := 26, pos := "law.go:52", after := _, guard := none }) (v := .agg (cellsL go)) rfl (by kernel_rfl) (by kernel_rfl) (by kernel_rfl) (fun _ _ _ h => h) (yields_row (g := go) (by rfl) _ _ rfl _ rfl (fun w' hSw => by (try dsimp only at hSw); go_split_ands; assumption) uL rfl infoLL) (by assumption) ?_
  try simp only [Act.put, List.setIfInBounds_toArray, List.set_cons_zero, List.set_cons_succ]
  refine wpAnyH_take (i := 6) (oi := { dst := some 23, op := Op.load 26 (Operand.tmp 8), type := 26, pos := "law.go:52", after := _, guard := none }) (v := .agg (cellsL go)) rfl (by kernel_rfl) (by kernel_rfl) (by kernel_rfl) (fun _ _ _ h => h) (yields_row (g := go) (by rfl) _ _ rfl _ rfl (fun w' hSw => by (try dsimp only at hSw); go_split_ands; assumption) uL rfl infoLL) (by assumption) ?_
  try simp only [Act.put, List.setIfInBounds_toArray, List.set_cons_zero, List.set_cons_succ]
  refine wpAnyH_ready (rs := [4]) (by kernel_rfl) (by simp) ?_
  refine AllReadyH.cons (o := { dst := some 21, op := Op.call { callee := Callee.value (Operand.func 19), args := #[Operand.tmp 19, Operand.tmp 20], argTypes := #[26, 26] }, type := 24, pos := "law.go:52", after := _, guard := none }) rfl (fun K hK => ?_) AllReadyH.nil
  go_simp
  go_at_call 19; refine (ldiff_v HY.out _ OKG.out OKO.out).mono ?_; rintro e w' ⟨rfl, hb⟩
  try go_wp2_with fail
  refine hK.out _ _ ?_ (fun hHeld2 => ?_)
  · (try dsimp only)
    exact heldJ hb hHeld
  clear hK K hHeld
  have hHeld := hHeld2
  clear hHeld2
  try simp only [Act.put, List.setIfInBounds_toArray, List.set_cons_zero, List.set_cons_succ]
  refine wpAnyH_ready (rs := [5]) (by kernel_rfl) (by simp) ?_
  refine AllReadyH.cons (o := { dst := some 22, op := Op.call { callee := Callee.value (Operand.func 17), args := #[Operand.tmp 17, Operand.tmp 18, Operand.tmp 21], argTypes := #[26, 26, 24] }, type := 26, pos := "law.go:52", after := _, guard := none }) rfl (fun K hK => ?_) AllReadyH.nil
  go_simp
  go_at_call 17; refine (lblend_c HBL.out _ hy64).mono ?_; rintro e w' ⟨rfl, hb⟩
  try go_wp2_with fail
  refine hK.out _ _ ?_ (fun hHeld2 => ?_)
  · (try dsimp only)
    exact heldJ hb hHeld
  clear hK K hHeld
  have hHeld := hHeld2
  clear hHeld2
  try simp only [Act.put, List.setIfInBounds_toArray, List.set_cons_zero, List.set_cons_succ]
  refine wpAnyH_take (i := 7) (oi := { dst := some 24, op := Op.binOp BinOp.neq 26 (Operand.tmp 22) (Operand.tmp 23) 26, type := 4, pos := "law.go:52", after := _, guard := none }) (v := ?_) rfl (by kernel_rfl) (by kernel_rfl) (by kernel_rfl) (fun _ _ _ h => h) (Or.inl ⟨by rfl, ?_⟩) (by assumption) ?_
  rotate_left
  · intro w' hSw
    try dsimp only at hSw
    go_simp
    try with_reducible rfl
  try simp only [Act.put, List.setIfInBounds_toArray, List.set_cons_zero, List.set_cons_succ]
  refine wpAnyH_take (i := 8) (oi := { dst := some 25, op := Op.move (Operand.tmp 24), type := 4, pos := "law.go:52", after := _, guard := none }) (v := ?_) rfl (by kernel_rfl) (by kernel_rfl) (by kernel_rfl) (fun _ _ _ h => h) (Or.inl ⟨by rfl, ?_⟩) (by assumption) ?_
  rotate_left
  · intro w' hSw
    try dsimp only at hSw
    go_simp
    try with_reducible rfl
  try simp only [Act.put, List.setIfInBounds_toArray, List.set_cons_zero, List.set_cons_succ]
  refine wpAnyH_take (i := 9) (oi := { dst := some 26, op := Op.load 26 (Operand.tmp 7), type := 26, pos := "law.go:52", after := _, guard := some (8, false) }) (v := .agg (cellsL gl)) rfl (by kernel_rfl) (by kernel_rfl) (by kernel_rfl) (fun _ _ _ h => h) (yields_row (g := gl) (by rfl) _ _ rfl _ rfl (fun w' hSw => by (try dsimp only at hSw); go_split_ands; assumption) uL rfl infoLL) (by assumption) ?_
  try simp only [Act.put, List.setIfInBounds_toArray, List.set_cons_zero, List.set_cons_succ]
  refine wpAnyH_take (i := 10) (oi := { dst := some 27, op := Op.load 26 (Operand.tmp 8), type := 26, pos := "law.go:52", after := _, guard := some (8, false) }) (v := .agg (cellsL go)) rfl (by kernel_rfl) (by kernel_rfl) (by kernel_rfl) (fun _ _ _ h => h) (yields_row (g := go) (by rfl) _ _ rfl _ rfl (fun w' hSw => by (try dsimp only at hSw); go_split_ands; assumption) uL rfl infoLL) (by assumption) ?_
  try simp only [Act.put, List.setIfInBounds_toArray, List.set_cons_zero, List.set_cons_succ]
  refine wpAnyH_take (i := 12) (oi := { dst := some 29, op := Op.load 26 (Operand.tmp 7), type := 26, pos := "law.go:52", after := _, guard := some (8, false) }) (v := .agg (cellsL gl)) rfl (by kernel_rfl) (by kernel_rfl) (by kernel_rfl) (fun _ _ _ h => h) (yields_row (g := gl) (by rfl) _ _ rfl _ rfl (fun w' hSw => by (try dsimp only at hSw); go_split_ands; assumption) uL rfl infoLL) (by assumption) ?_
  try simp only [Act.put, List.setIfInBounds_toArray, List.set_cons_zero, List.set_cons_succ]
  refine wpAnyH_ready (rs := [11]) (by kernel_rfl) (by simp) ?_
  refine AllReadyH.cons (o := { dst := some 28, op := Op.call { callee := Callee.value (Operand.func 17), args := #[Operand.tmp 26, Operand.tmp 27, Operand.const (Value.int IntKind.u64 0)], argTypes := #[26, 26, 24] }, type := 26, pos := "law.go:52", after := _, guard := some (8, false) }) rfl (fun K hK => ?_) AllReadyH.nil
  go_simp
  go_at_call 17; refine (lblend_c (x := 0) HBN.out _ (by omega)).mono ?_; rintro e w' ⟨rfl, hb⟩
  try go_wp2_with fail
  refine hK.out _ _ ?_ (fun hHeld2 => ?_)
  · (try dsimp only)
    exact heldJ hb hHeld
  clear hK K hHeld
  have hHeld := hHeld2
  clear hHeld2
  try simp only [Act.put, List.setIfInBounds_toArray, List.set_cons_zero, List.set_cons_succ]
  refine wpAnyH_take (i := 13) (oi := { dst := some 30, op := Op.binOp BinOp.neq 26 (Operand.tmp 28) (Operand.tmp 29) 26, type := 4, pos := "law.go:52", after := _, guard := some (8, false) }) (v := ?_) rfl (by kernel_rfl) (by kernel_rfl) (by kernel_rfl) (fun _ _ _ h => h) (Or.inl ⟨by rfl, ?_⟩) (by assumption) ?_
  rotate_left
  · intro w' hSw
    try dsimp only at hSw
    go_simp
    try with_reducible rfl
  try simp only [Act.put, List.setIfInBounds_toArray, List.set_cons_zero, List.set_cons_succ]
  refine wpAnyH_take (i := 14) (oi := { dst := some 31, op := Op.pick (Operand.tmp 25) (Operand.const (Value.bool true)) (Operand.tmp 30), type := 4, pos := "law.go:52", after := _, guard := none }) (v := ?_) rfl (by kernel_rfl) (by kernel_rfl) (by kernel_rfl) (fun _ _ _ h => h) (Or.inl ⟨by rfl, ?_⟩) (by assumption) ?_
  rotate_left
  · intro w' hSw
    try dsimp only at hSw
    go_simp
    try with_reducible rfl
  try simp only [Act.put, List.setIfInBounds_toArray, List.set_cons_zero, List.set_cons_succ]
  refine wpAnyH_take (i := 15) (oi := { dst := some 32, op := Op.move (Operand.tmp 31), type := 4, pos := "law.go:52", after := _, guard := none }) (v := ?_) rfl (by kernel_rfl) (by kernel_rfl) (by kernel_rfl) (fun _ _ _ h => h) (Or.inl ⟨by rfl, ?_⟩) (by assumption) ?_
  rotate_left
  · intro w' hSw
    try dsimp only at hSw
    go_simp
    try with_reducible rfl
  try simp only [Act.put, List.setIfInBounds_toArray, List.set_cons_zero, List.set_cons_succ]
  refine wpAnyH_take (i := 16) (oi := { dst := some 33, op := Op.load 26 (Operand.tmp 7), type := 26, pos := "law.go:52", after := _, guard := some (15, false) }) (v := .agg (cellsL gl)) rfl (by kernel_rfl) (by kernel_rfl) (by kernel_rfl) (fun _ _ _ h => h) (yields_row (g := gl) (by rfl) _ _ rfl _ rfl (fun w' hSw => by (try dsimp only at hSw); go_split_ands; assumption) uL rfl infoLL) (by assumption) ?_
  try simp only [Act.put, List.setIfInBounds_toArray, List.set_cons_zero, List.set_cons_succ]
  refine wpAnyH_take (i := 17) (oi := { dst := some 34, op := Op.load 26 (Operand.tmp 7), type := 26, pos := "law.go:52", after := _, guard := some (15, false) }) (v := .agg (cellsL gl)) rfl (by kernel_rfl) (by kernel_rfl) (by kernel_rfl) (fun _ _ _ h => h) (yields_row (g := gl) (by rfl) _ _ rfl _ rfl (fun w' hSw => by (try dsimp only at hSw); go_split_ands; assumption) uL rfl infoLL) (by assumption) ?_
  try simp only [Act.put, List.setIfInBounds_toArray, List.set_cons_zero, List.set_cons_succ]
  refine wpAnyH_ready (rs := [18]) (by kernel_rfl) (by simp) ?_
  refine AllReadyH.cons (o := { dst := some 35, op := Op.call { callee := Callee.value (Operand.func 19), args := #[Operand.tmp 33, Operand.tmp 34], argTypes := #[26, 26] }, type := 24, pos := "law.go:52", after := _, guard := some (15, false) }) rfl (fun K hK => ?_) AllReadyH.nil
  go_simp
  go_at_call 19; refine (ldiff_v HDZ.out _ OKG.out OKG.out).mono ?_; rintro e w' ⟨rfl, hb⟩
  try go_wp2_with fail
  refine hK.out _ _ ?_ (fun hHeld2 => ?_)
  · (try dsimp only)
    exact heldJ hb hHeld
  clear hK K hHeld
  have hHeld := hHeld2
  clear hHeld2
  try simp only [Act.put, List.setIfInBounds_toArray, List.set_cons_zero, List.set_cons_succ]
  refine wpAnyH_take (i := 19) (oi := { dst := some 36, op := Op.binOp BinOp.neq 24 (Operand.tmp 35) (Operand.const (Value.int IntKind.u64 0)) 24, type := 4, pos := "law.go:52", after := _, guard := some (15, false) }) (v := ?_) rfl (by kernel_rfl) (by kernel_rfl) (by kernel_rfl) (fun _ _ _ h => h) (Or.inl ⟨by rfl, ?_⟩) (by assumption) ?_
  rotate_left
  · intro w' hSw
    try dsimp only at hSw
    go_simp
    try with_reducible rfl
  try simp only [Act.put, List.setIfInBounds_toArray, List.set_cons_zero, List.set_cons_succ]
  refine wpAnyH_take (i := 20) (oi := { dst := some 37, op := Op.pick (Operand.tmp 32) (Operand.const (Value.bool true)) (Operand.tmp 36), type := 4, pos := "law.go:52", after := _, guard := none }) (v := ?_) rfl (by kernel_rfl) (by kernel_rfl) (by kernel_rfl) (fun _ _ _ h => h) (Or.inl ⟨by rfl, ?_⟩) (by assumption) ?_
  rotate_left
  · intro w' hSw
    try dsimp only at hSw
    go_simp
    try with_reducible rfl
  try simp only [Act.put, List.setIfInBounds_toArray, List.set_cons_zero, List.set_cons_succ]
  refine wpAnyH_done (by kernel_rfl) ?_ _
  obtain ⟨⟨⟨F4, ql4⟩, qo4⟩, k4⟩ := hHeld
  clear F3 ql qo k3
  rename_i w4
  have ld := ld_rowL (P := Try.prog) ql4
  obtain ⟨c0, c1, c2⟩ := three_cells k4
  cases hf : fitB p0 p1 with
  | false =>
    have hpv : putV gl p0 p1 v = gl := by unfold putV; rw [if_neg (by simp [hf])]
    have HF := Lib.hid hf
    have HPV := Lib.hid hpv
    clear hf hpv
    go_wp2_with fail
    refine (lput_v HPV.out HF.out _ OKG.out hv64).mono ?_
    rintro e w5 ⟨rfl, hb5⟩
    clear ld c0 c1 c2
    have ql5 := keep_alloc (keepB hb5 ql4) (.cells (cellsL gl) 26)
    have qn5 := heap_alloc_new w5 (.cells (cellsL gl) 26)
    have F5 := (F4.step hb5).alloc (.cells (cellsL gl) 26)
    have ld1 := ld_rowL (P := Try.prog) ql5
    have ld2 := ld_rowL (P := Try.prog) qn5
    clear ql4 qo4 k4 F4 hb5
    go_wp2_with fail
    refine (live09_any _).mono ?_
    rintro e w6 ⟨rfl, hb6⟩
    have FE := Lib.hid (F5.step hb6).1
    clear ld1 ld2
    go_wp2
    go_ret
    exact ⟨rfl, FE.out⟩
  | true =>
    obtain ⟨h1, h8, h0, ha⟩ := fitB_t hf
    obtain ⟨A, rfl⟩ : ∃ A : Nat, p0 = A := ⟨p0.toNat, by omega⟩
    obtain ⟨N, rfl⟩ : ∃ N : Nat, p1 = N := ⟨p1.toNat, by omega⟩
    obtain ⟨gx, hgx⟩ : ∃ g, putL gl A N v = g := ⟨_, rfl⟩
    have okx : OkL gx := by rw [← hgx]; exact OKG.out.put _ _ _
    have hpv : putV gl (A : Int) (N : Int) v = gx := by unfold putV; rw [if_pos hf]; exact hgx
    obtain ⟨z, hz⟩ : ∃ z, v % 256 ^ N = z := ⟨_, rfl⟩
    have hgv : getV gx (A : Int) (N : Int) = z := by
      unfold getV; rw [if_pos hf, Int.toNat_natCast, Int.toNat_natCast, ← hgx, put_get, hz]
    have hcut : W64 (cutF v 0 (8 * (N : Int))) = z := by rw [cut_low v N (by omega), hz]
    have hdl := diff_lanes gl A N v (by omega) (by omega)
    rw [hgx] at hdl
    obtain ⟨dx, hdx⟩ : ∃ d, diffV gl gx = d := ⟨_, rfl⟩
    obtain ⟨on, hon⟩ : ∃ d, onesV (A : Int) (N : Int) = d := ⟨_, rfl⟩
    rw [hdx, hon] at hdl
    have h8N : IntB (8 * (N : Int)) := by unfold IntB; omega
    have hw8 : IntKind.i64.wrap (8 * (N : Int)) = 8 * (N : Int) := by simp [IntKind.wrap, IntKind.bits, IntKind.signed]; omega
    have hAB : IntB (A : Int) := by unfold IntB; omega
    have hNB : IntB (N : Int) := by unfold IntB; omega
    have h0B : IntB (0 : Int) := by unfold IntB; omega
    have HF := Lib.hid hf
    have HPV := Lib.hid hpv
    have HGV := Lib.hid hgv
    have HCUT := Lib.hid hcut
    have HDX := Lib.hid hdx
    have HON := Lib.hid hon
    have OKX := Lib.hid okx
    clear hf hpv hgv hcut hdx hon okx hgx hz
    go_wp2_with fail
    refine (lput_v HPV.out HF.out _ OKG.out hv64).mono ?_
    rintro e w5 ⟨rfl, hb5⟩
    clear ld c0 c1 c2
    have ql5 := keep_alloc (keepB hb5 ql4) (.cells (cellsL gx) 26)
    have k5 := keep_alloc (keepB hb5 k4) (.cells (cellsL gx) 26)
    have qn5 := heap_alloc_new w5 (.cells (cellsL gx) 26)
    have F5 := (F4.step hb5).alloc (.cells (cellsL gx) 26)
    clear ql4 qo4 k4 F4 hb5
    have ld1 := ld_rowL (P := Try.prog) qn5
    obtain ⟨c0, c1, c2⟩ := three_cells k5
    go_wp2_with fail
    refine (lget_v HGV.out HF.out _ OKX.out).mono ?_
    rintro e w6 ⟨rfl, hb6⟩
    clear ld1 c0 c1 c2
    have ql6 := keepB hb6 ql5
    have k6 := keepB hb6 k5
    have qn6 := keepB hb6 qn5
    have F6 := F5.step hb6
    obtain ⟨bn, hbn⟩ : ∃ b, w5.heap.size = b := ⟨_, rfl⟩
    rw [hbn] at qn6 ⊢
    obtain ⟨c0, c1, c2⟩ := three_cells k6
    clear ql5 k5 qn5 F5 hb6 hbn
    go_wp2_with fail
    refine wp_region_held_drew (S := (fun w' => ((((Fr w.heap.size w w' ∧ w'.heap[bl]? = some (.cells (cellsL gl) 26)) ∧ w'.heap[bn]? = some (.cells (cellsL gx) 26)) ∧ w'.cell? ⟨w.heap.size, 0, none⟩ = some (.int .i64 (A : Int))) ∧ w'.cell? ⟨w.heap.size, 1, none⟩ = some (.int .i64 (N : Int))) ∧ w'.cell? ⟨w.heap.size, 2, none⟩ = some (.int .i64 p2))) (by kernel_rfl) ?_ (fun hHeld => ?_)
    · exact ⟨⟨⟨⟨⟨F6.drew, ql6⟩, qn6⟩, c0⟩, c1⟩, c2⟩
    refine wpAnyH_take (i := 0) (oi := { dst := some 67, op := Op.move (Operand.tmp 12), type := 4, pos := "law.go:60", after := _, guard := none }) (v := ?_) rfl (by kernel_rfl) (by kernel_rfl) (by kernel_rfl) (fun _ _ _ h => h) (Or.inl ⟨by rfl, ?_⟩) (by assumption) ?_
    rotate_left
    · intro w' hSw
      try dsimp only at hSw
      go_simp
      try with_reducible rfl
    try simp only [Act.put, List.setIfInBounds_toArray, List.set_cons_zero, List.set_cons_succ]
    refine wpAnyH_take (i := 1) (oi := { dst := some 68, op := Op.move (Operand.tmp 67), type := 4, pos := "law.go:60", after := _, guard := none }) (v := ?_) rfl (by kernel_rfl) (by kernel_rfl) (by kernel_rfl) (fun _ _ _ h => h) (Or.inl ⟨by rfl, ?_⟩) (by assumption) ?_
    rotate_left
    · intro w' hSw
      try dsimp only at hSw
      go_simp
      try with_reducible rfl
    try simp only [Act.put, List.setIfInBounds_toArray, List.set_cons_zero, List.set_cons_succ]
    refine wpAnyH_take (i := 2) (oi := { dst := some 69, op := Op.move (Operand.tmp 11), type := 24, pos := "law.go:60", after := _, guard := some (1, true) }) (v := ?_) rfl (by kernel_rfl) (by kernel_rfl) (by kernel_rfl) (fun _ _ _ h => h) (Or.inl ⟨by rfl, ?_⟩) (by assumption) ?_
    rotate_left
    · intro w' hSw
      try dsimp only at hSw
      go_simp
      try with_reducible rfl
    try simp only [Act.put, List.setIfInBounds_toArray, List.set_cons_zero, List.set_cons_succ]
    refine wpAnyH_take (i := 3) (oi := { dst := some 70, op := Op.indexAddr 47 (Operand.tmp 5) (Operand.const (Value.int IntKind.i64 2)), type := 0, pos := "law.go:60", after := _, guard := some (1, true) }) (v := ?_) rfl (by kernel_rfl) (by kernel_rfl) (by kernel_rfl) (fun _ _ _ h => h) (Or.inl ⟨by rfl, ?_⟩) (by assumption) ?_
    rotate_left
    · intro w' hSw
      try dsimp only at hSw
      go_simp
      try with_reducible rfl
    try simp only [Act.put, List.setIfInBounds_toArray, List.set_cons_zero, List.set_cons_succ]
    refine wpAnyH_take (i := 4) (oi := { dst := some 71, op := Op.load 3 (Operand.tmp 70), type := 3, pos := "law.go:60", after := _, guard := some (1, true) }) (v := ?_) rfl (by kernel_rfl) (by kernel_rfl) (by kernel_rfl) (fun _ _ _ h => h) (Or.inl ⟨by rfl, ?_⟩) (by assumption) ?_
    rotate_left
    · intro w' hSw
      try dsimp only at hSw
      go_simp
      try with_reducible rfl
    try simp only [Act.put, List.setIfInBounds_toArray, List.set_cons_zero, List.set_cons_succ]
    refine wpAnyH_take (i := 5) (oi := { dst := some 72, op := Op.convert 3 24 (Operand.tmp 71), type := 24, pos := "law.go:60", after := _, guard := some (1, true) }) (v := ?_) rfl (by kernel_rfl) (by kernel_rfl) (by kernel_rfl) (fun _ _ _ h => h) (Or.inl ⟨by rfl, ?_⟩) (by assumption) ?_
    rotate_left
    · intro w' hSw
      try dsimp only at hSw
      go_simp
      try with_reducible rfl
    try simp only [Act.put, List.setIfInBounds_toArray, List.set_cons_zero, List.set_cons_succ]
    refine wpAnyH_take (i := 6) (oi := { dst := some 73, op := Op.indexAddr 47 (Operand.tmp 5) (Operand.const (Value.int IntKind.i64 1)), type := 0, pos := "law.go:60", after := _, guard := some (1, true) }) (v := ?_) rfl (by kernel_rfl) (by kernel_rfl) (by kernel_rfl) (fun _ _ _ h => h) (Or.inl ⟨by rfl, ?_⟩) (by assumption) ?_
    rotate_left
    · intro w' hSw
      try dsimp only at hSw
      go_simp
      try with_reducible rfl
    try simp only [Act.put, List.setIfInBounds_toArray, List.set_cons_zero, List.set_cons_succ]
    refine wpAnyH_take (i := 7) (oi := { dst := some 74, op := Op.load 3 (Operand.tmp 73), type := 3, pos := "law.go:60", after := _, guard := some (1, true) }) (v := ?_) rfl (by kernel_rfl) (by kernel_rfl) (by kernel_rfl) (fun _ _ _ h => h) (Or.inl ⟨by rfl, ?_⟩) (by assumption) ?_
    rotate_left
    · intro w' hSw
      try dsimp only at hSw
      go_simp
      try with_reducible rfl
    try simp only [Act.put, List.setIfInBounds_toArray, List.set_cons_zero, List.set_cons_succ]
    refine wpAnyH_take (i := 8) (oi := { dst := some 75, op := Op.binOp BinOp.mul 3 (Operand.const (Value.int IntKind.i64 8)) (Operand.tmp 74) 3, type := 3, pos := "law.go:60", after := _, guard := some (1, true) }) (v := ?_) rfl (by kernel_rfl) (by kernel_rfl) (by kernel_rfl) (fun _ _ _ h => h) (Or.inl ⟨by rfl, ?_⟩) (by assumption) ?_
    rotate_left
    · intro w' hSw
      try dsimp only at hSw
      go_simp
      try with_reducible rfl
    try simp only [Act.put, List.setIfInBounds_toArray, List.set_cons_zero, List.set_cons_succ]
    refine wpAnyH_ready (rs := [9]) (by kernel_rfl) (by simp) ?_
    refine AllReadyH.cons (o := { dst := some 76, op := Op.call { callee := Callee.value (Operand.func 23), args := #[Operand.tmp 72, Operand.const (Value.int IntKind.i64 0), Operand.tmp 75], argTypes := #[24, 3, 3] }, type := 24, pos := "law.go:60", after := _, guard := some (1, true) }) rfl (fun K hK => ?_) AllReadyH.nil
    go_simp
    go_at_call 23; refine (cut_v HCUT.out _ hv64 h0B h8N).mono ?_; rintro e w' ⟨rfl, hb⟩
    try go_wp2_with fail
    refine hK.out _ _ ?_ (fun hHeld2 => ?_)
    · (try dsimp only)
      exact heldK hb hHeld
    clear hK K hHeld
    have hHeld := hHeld2
    clear hHeld2
    try simp only [Act.put, List.setIfInBounds_toArray, List.set_cons_zero, List.set_cons_succ]
    refine wpAnyH_take (i := 10) (oi := { dst := some 77, op := Op.binOp BinOp.eql 24 (Operand.tmp 69) (Operand.tmp 76) 24, type := 4, pos := "law.go:60", after := _, guard := some (1, true) }) (v := ?_) rfl (by kernel_rfl) (by kernel_rfl) (by kernel_rfl) (fun _ _ _ h => h) (Or.inl ⟨by rfl, ?_⟩) (by assumption) ?_
    rotate_left
    · intro w' hSw
      try dsimp only at hSw
      go_simp
      try with_reducible rfl
    try simp only [Act.put, List.setIfInBounds_toArray, List.set_cons_zero, List.set_cons_succ]
    refine wpAnyH_take (i := 11) (oi := { dst := some 78, op := Op.pick (Operand.tmp 68) (Operand.tmp 77) (Operand.const (Value.bool false)), type := 4, pos := "law.go:60", after := _, guard := none }) (v := ?_) rfl (by kernel_rfl) (by kernel_rfl) (by kernel_rfl) (fun _ _ _ h => h) (Or.inl ⟨by rfl, ?_⟩) (by assumption) ?_
    rotate_left
    · intro w' hSw
      try dsimp only at hSw
      go_simp
      try with_reducible rfl
    try simp only [Act.put, List.setIfInBounds_toArray, List.set_cons_zero, List.set_cons_succ]
    refine wpAnyH_take (i := 12) (oi := { dst := some 79, op := Op.move (Operand.tmp 78), type := 4, pos := "law.go:60", after := _, guard := none }) (v := ?_) rfl (by kernel_rfl) (by kernel_rfl) (by kernel_rfl) (fun _ _ _ h => h) (Or.inl ⟨by rfl, ?_⟩) (by assumption) ?_
    rotate_left
    · intro w' hSw
      try dsimp only at hSw
      go_simp
      try with_reducible rfl
    try simp only [Act.put, List.setIfInBounds_toArray, List.set_cons_zero, List.set_cons_succ]
    refine wpAnyH_take (i := 13) (oi := { dst := some 80, op := Op.load 26 (Operand.tmp 7), type := 26, pos := "law.go:60", after := _, guard := some (12, true) }) (v := .agg (cellsL gl)) rfl (by kernel_rfl) (by kernel_rfl) (by kernel_rfl) (fun _ _ _ h => h) (yields_row (g := gl) (by rfl) _ _ rfl _ rfl (fun w' hSw => by (try dsimp only at hSw); go_split_ands; assumption) uL rfl infoLL) (by assumption) ?_
    try simp only [Act.put, List.setIfInBounds_toArray, List.set_cons_zero, List.set_cons_succ]
    refine wpAnyH_take (i := 14) (oi := { dst := some 81, op := Op.load 26 (Operand.tmp 9), type := 26, pos := "law.go:60", after := _, guard := some (12, true) }) (v := .agg (cellsL gx)) rfl (by kernel_rfl) (by kernel_rfl) (by kernel_rfl) (fun _ _ _ h => h) (yields_row (g := gx) (by rfl) _ _ rfl _ rfl (fun w' hSw => by (try dsimp only at hSw); go_split_ands; assumption) uL rfl infoLL) (by assumption) ?_
    try simp only [Act.put, List.setIfInBounds_toArray, List.set_cons_zero, List.set_cons_succ]
    refine wpAnyH_take (i := 16) (oi := { dst := some 83, op := Op.indexAddr 47 (Operand.tmp 5) (Operand.const (Value.int IntKind.i64 0)), type := 0, pos := "law.go:60", after := _, guard := some (12, true) }) (v := ?_) rfl (by kernel_rfl) (by kernel_rfl) (by kernel_rfl) (fun _ _ _ h => h) (Or.inl ⟨by rfl, ?_⟩) (by assumption) ?_
    rotate_left
    · intro w' hSw
      try dsimp only at hSw
      go_simp
      try with_reducible rfl
    try simp only [Act.put, List.setIfInBounds_toArray, List.set_cons_zero, List.set_cons_succ]
    refine wpAnyH_take (i := 17) (oi := { dst := some 84, op := Op.load 3 (Operand.tmp 83), type := 3, pos := "law.go:60", after := _, guard := some (12, true) }) (v := ?_) rfl (by kernel_rfl) (by kernel_rfl) (by kernel_rfl) (fun _ _ _ h => h) (Or.inl ⟨by rfl, ?_⟩) (by assumption) ?_
    rotate_left
    · intro w' hSw
      try dsimp only at hSw
      go_simp
      try with_reducible rfl
    try simp only [Act.put, List.setIfInBounds_toArray, List.set_cons_zero, List.set_cons_succ]
    refine wpAnyH_take (i := 18) (oi := { dst := some 85, op := Op.indexAddr 47 (Operand.tmp 5) (Operand.const (Value.int IntKind.i64 1)), type := 0, pos := "law.go:60", after := _, guard := some (12, true) }) (v := ?_) rfl (by kernel_rfl) (by kernel_rfl) (by kernel_rfl) (fun _ _ _ h => h) (Or.inl ⟨by rfl, ?_⟩) (by assumption) ?_
    rotate_left
    · intro w' hSw
      try dsimp only at hSw
      go_simp
      try with_reducible rfl
    try simp only [Act.put, List.setIfInBounds_toArray, List.set_cons_zero, List.set_cons_succ]
    refine wpAnyH_take (i := 19) (oi := { dst := some 86, op := Op.load 3 (Operand.tmp 85), type := 3, pos := "law.go:60", after := _, guard := some (12, true) }) (v := ?_) rfl (by kernel_rfl) (by kernel_rfl) (by kernel_rfl) (fun _ _ _ h => h) (Or.inl ⟨by rfl, ?_⟩) (by assumption) ?_
    rotate_left
    · intro w' hSw
      try dsimp only at hSw
      go_simp
      try with_reducible rfl
    try simp only [Act.put, List.setIfInBounds_toArray, List.set_cons_zero, List.set_cons_succ]
    refine wpAnyH_ready (rs := [15]) (by kernel_rfl) (by simp) ?_
    refine AllReadyH.cons (o := { dst := some 82, op := Op.call { callee := Callee.value (Operand.func 19), args := #[Operand.tmp 80, Operand.tmp 81], argTypes := #[26, 26] }, type := 24, pos := "law.go:60", after := _, guard := some (12, true) }) rfl (fun K hK => ?_) AllReadyH.nil
    go_simp
    go_at_call 19; refine (ldiff_v HDX.out _ OKG.out OKX.out).mono ?_; rintro e w' ⟨rfl, hb⟩
    try go_wp2_with fail
    refine hK.out _ _ ?_ (fun hHeld2 => ?_)
    · (try dsimp only)
      exact heldK hb hHeld
    clear hK K hHeld
    have hHeld := hHeld2
    clear hHeld2
    try simp only [Act.put, List.setIfInBounds_toArray, List.set_cons_zero, List.set_cons_succ]
    refine wpAnyH_ready (rs := [20]) (by kernel_rfl) (by simp) ?_
    refine AllReadyH.cons (o := { dst := some 87, op := Op.call { callee := Callee.value (Operand.func 21), args := #[Operand.tmp 84, Operand.tmp 86], argTypes := #[3, 3] }, type := 24, pos := "law.go:60", after := _, guard := some (12, true) }) rfl (fun K hK => ?_) AllReadyH.nil
    go_simp
    go_at_call 21; refine (lanes_v HON.out _ hAB hNB).mono ?_; rintro e w' ⟨rfl, rfl⟩; have hb := Below.refl w'.heap.size w'
    try go_wp2_with fail
    refine hK.out _ _ ?_ (fun hHeld2 => ?_)
    · (try dsimp only)
      exact heldK hb hHeld
    clear hK K hHeld
    have hHeld := hHeld2
    clear hHeld2
    try simp only [Act.put, List.setIfInBounds_toArray, List.set_cons_zero, List.set_cons_succ]
    refine wpAnyH_take (i := 21) (oi := { dst := some 88, op := Op.binOp BinOp.andNot 24 (Operand.tmp 82) (Operand.tmp 87) 24, type := 24, pos := "law.go:60", after := _, guard := some (12, true) }) (v := ?_) rfl (by kernel_rfl) (by kernel_rfl) (by kernel_rfl) (fun _ _ _ h => h) (Or.inl ⟨by rfl, ?_⟩) (by assumption) ?_
    rotate_left
    · intro w' hSw
      try dsimp only at hSw
      go_simp
      try with_reducible rfl
    try simp only [Act.put, List.setIfInBounds_toArray, List.set_cons_zero, List.set_cons_succ]
    refine wpAnyH_take (i := 22) (oi := { dst := some 89, op := Op.binOp BinOp.eql 24 (Operand.tmp 88) (Operand.const (Value.int IntKind.u64 0)) 24, type := 4, pos := "law.go:60", after := _, guard := some (12, true) }) (v := ?_) rfl (by kernel_rfl) (by kernel_rfl) (by kernel_rfl) (fun _ _ _ h => h) (Or.inl ⟨by rfl, ?_⟩) (by assumption) ?_
    rotate_left
    · intro w' hSw
      try dsimp only at hSw
      go_simp
      try with_reducible rfl
    try simp only [Act.put, List.setIfInBounds_toArray, List.set_cons_zero, List.set_cons_succ]
    refine wpAnyH_take (i := 23) (oi := { dst := some 90, op := Op.pick (Operand.tmp 79) (Operand.tmp 89) (Operand.const (Value.bool false)), type := 4, pos := "law.go:60", after := _, guard := none }) (v := ?_) rfl (by kernel_rfl) (by kernel_rfl) (by kernel_rfl) (fun _ _ _ h => h) (Or.inl ⟨by rfl, ?_⟩) (by assumption) ?_
    rotate_left
    · intro w' hSw
      try dsimp only at hSw
      go_simp
      try with_reducible rfl
    try simp only [Act.put, List.setIfInBounds_toArray, List.set_cons_zero, List.set_cons_succ]
    refine wpAnyH_take (i := 24) (oi := { dst := some 91, op := Op.move (Operand.tmp 90), type := 4, pos := "law.go:60", after := _, guard := none }) (v := ?_) rfl (by kernel_rfl) (by kernel_rfl) (by kernel_rfl) (fun _ _ _ h => h) (Or.inl ⟨by rfl, ?_⟩) (by assumption) ?_
    rotate_left
    · intro w' hSw
      try dsimp only at hSw
      go_simp
      try with_reducible rfl
    try simp only [Act.put, List.setIfInBounds_toArray, List.set_cons_zero, List.set_cons_succ]
    refine wpAnyH_ready (rs := [25]) (by kernel_rfl) (by simp) ?_
    refine AllReadyH.cons (o := { dst := some 92, op := Op.call { callee := Callee.value (Operand.func 16), args := #[], argTypes := #[] }, type := 4, pos := "law.go:60", after := _, guard := some (24, true) }) rfl (fun K hK => ?_) AllReadyH.nil
    go_simp
    go_at_call 16; refine (live09_any _).mono ?_; rintro e w' ⟨rfl, hb⟩
    try go_wp2_with fail
    refine hK.out _ _ ?_ (fun hHeld2 => ?_)
    · (try dsimp only)
      exact heldK hb hHeld
    clear hK K hHeld
    have hHeld := hHeld2
    clear hHeld2
    try simp only [Act.put, List.setIfInBounds_toArray, List.set_cons_zero, List.set_cons_succ]
    refine wpAnyH_take (i := 26) (oi := { dst := some 93, op := Op.pick (Operand.tmp 91) (Operand.tmp 92) (Operand.const (Value.bool false)), type := 4, pos := "law.go:60", after := _, guard := none }) (v := ?_) rfl (by kernel_rfl) (by kernel_rfl) (by kernel_rfl) (fun _ _ _ h => h) (Or.inl ⟨by rfl, ?_⟩) (by assumption) ?_
    rotate_left
    · intro w' hSw
      try dsimp only at hSw
      go_simp
      try with_reducible rfl
    try simp only [Act.put, List.setIfInBounds_toArray, List.set_cons_zero, List.set_cons_succ]
    refine wpAnyH_take (i := 27) (oi := { dst := some 6, op := Op.assign (Operand.tmp 93), type := 4, pos := "law.go:60", after := _, guard := none }) (v := ?_) rfl (by kernel_rfl) (by kernel_rfl) (by kernel_rfl) (fun _ _ _ h => h) (Or.inl ⟨by rfl, ?_⟩) (by assumption) ?_
    rotate_left
    · intro w' hSw
      try dsimp only at hSw
      go_simp
      try with_reducible rfl
    try simp only [Act.put, List.setIfInBounds_toArray, List.set_cons_zero, List.set_cons_succ]
    refine wpAnyH_done (by kernel_rfl) ?_ _
    have FE := Lib.hid hHeld.1.1.1.1.1.1
    go_wp2
    go_ret
    exact ⟨rfl, FE.out⟩
end Go.Proofs.Ytbboaekfhdeolaa
