/- LineBlends: the walk. -/
import Derived.Test.YtbboaekfhdeolaaLnI
import Derived.Test.YtbboaekfhdeolaaLnJ
import Derived.Deep.MidRow
namespace Go.Proofs.Ytbboaekfhdeolaa
open Go.RowKit
set_option linter.unusedSimpArgs false
set_option linter.unusedVariables false
attribute [local simp high] sizeLL zeroLL sizeLR zeroLR

theorem three_cells {w : World} {b : Nat} {v0 v1 v2 : Value} {t : TypeId} (h : w.heap[b]? = some (.cells #[v0, v1, v2] t)) : w.cell? ⟨b, 0, none⟩ = some v0 ∧ w.cell? ⟨b, 1, none⟩ = some v1 ∧ w.cell? ⟨b, 2, none⟩ = some v2 := by
  rw [cell_at h, cell_at h, cell_at h]; exact ⟨rfl, rfl, rfl⟩
theorem rangeL {w : World} {b : Nat} {g : Nat → Nat} {t : TypeId} (h : w.heap[b]? = some (.cells (cellsL g) t)) : w.rangeAt b 0 (cellsL g).toList := by
  intro j v hv
  rw [Nat.zero_add, cell_at h]
  simpa using hv
theorem yields_row {P : Program} {ops : Array Oper} {S : World → Prop} {op : Oper} {a : Act} {g : Nat → Nat} {t : TypeId} (hw : Region.wanted op (yielded ops a.tmps) = true) (ty : TypeId) (x : Operand) (ho : op.op = .load ty x)
    (b : Nat) (hx : a.eval x = .pointer (some ⟨b, 0, none⟩)) {d : TypeDesc} (hS : ∀ w, S w → w.heap[b]? = some (.cells (cellsL g) t))
    (hu : P.underlying ty = some d) (hd : d.isRow = true) (hi : (P.info? ty).map (·.size) = some 64) : YieldsIf P ops S op (.agg (cellsL g)) a := by
  have h := yieldsIf_load_mid (P := P) hw ty x ho b 0 hx (cellsL g).toList d (fun w hs => rangeL (hS w hs)) hu hd (by rw [Array.length_toList, size_cellsL']; exact hi)
  rwa [Array.toArray_toList] at h
theorem heldQ {w w' : World} {B b c d e : Nat} {o p q r : Obj} {a : Addr} {v : Value} {w0 : World} (hb : Below w.heap.size w w') (h : ((((Fr B w0 w ∧ w.heap[b]? = some o) ∧ w.heap[c]? = some p) ∧ w.heap[d]? = some q) ∧ w.heap[e]? = some r) ∧ w.cell? a = some v) :
    ((((Fr B w0 w' ∧ w'.heap[b]? = some o) ∧ w'.heap[c]? = some p) ∧ w'.heap[d]? = some q) ∧ w'.heap[e]? = some r) ∧ w'.cell? a = some v := ⟨⟨⟨⟨⟨h.1.1.1.1.1.step hb, keepB hb h.1.1.1.1.2⟩, keepB hb h.1.1.1.2⟩, keepB hb h.1.1.2⟩, keepB hb h.1.2⟩, hcell hb h.2⟩
theorem lblend_v {g h g' : Nat → Nat} {x : Nat} (hg : blendL g h x 64 = g') (w : World) (hx : x < 18446744073709551616) :
    Calls Try.prog 17 #[.agg (cellsL g), .agg (cellsL h), .int .u64 (x : Int)] w fun e w' => e = .returned (.agg (cellsL g')) ∧ Below w.heap.size w w' := by
  rw [← hg]; exact lblend_any g h x w hx
theorem rblend_v {g h g' : Nat → Nat} {x : Nat} (hg : blendL g h x 64 = g') (w : World) (hx : x < 18446744073709551616) :
    Calls Try.prog 18 #[.agg (cellsL g), .agg (cellsL h), .int .u64 (x : Int)] w fun e w' => e = .returned (.agg (cellsL g')) ∧ Below w.heap.size w w' := by
  rw [← hg]; exact rblend_any g h x w hx
theorem ldiff_v {g h : Nat → Nat} {y : Nat} (hy : diffV g h = y) (w : World) (okg : OkL g) (okh : OkL h) :
    Calls Try.prog 19 #[.agg (cellsL g), .agg (cellsL h)] w fun e w' => e = .returned (.int .u64 (y : Int)) ∧ Below w.heap.size w w' := by
  rw [← hy]; exact ldiff_any g h w okg okh
theorem rdiff_v {g h : Nat → Nat} {y : Nat} (hy : diffV g h = y) (w : World) (okg : OkL g) (okh : OkL h) :
    Calls Try.prog 20 #[.agg (cellsL g), .agg (cellsL h)] w fun e w' => e = .returned (.int .u64 (y : Int)) ∧ Below w.heap.size w w' := by
  rw [← hy]; exact rdiff_any g h w okg okh
theorem rones_v {a n : Int} {y : Nat} (hy : onesV a n = y) (w : World) (ha : IntB a) (hs : IntB n) :
    Calls Try.prog 22 #[.int .i64 a, .int .i64 n] w fun e w' => e = .returned (.int .u64 (y : Int)) ∧ Below w.heap.size w w' := by
  rw [← hy]; exact rones_any a n w ha hs
theorem IntB.wrap (x : Int) : IntB (IntKind.i64.wrap x) := by
  rw [IntKind.wrap_i64]; unfold IntB; omega
theorem OkL.blend {g h : Nat → Nat} (okg : OkL g) (okh : OkL h) (x k : Nat) : OkL (blendL g h x k) := by
  intro i; unfold blendL; split; exact okh i; exact okg i
set_option maxRecDepth 100000 in
set_option maxHeartbeats 4000000 in
theorem blends_any (a : Option Addr) (len cap : Nat) (b : Nat → Nat) (a' : Option Addr) (len' cap' : Nat) (b' : Nat → Nat) (x0 x1 x2 : Nat) (w : World) (hb : Bytes w a len b) (h8 : ∀ i, i < len → b i < 256) (hlen : len ≤ 9223372036854775807)
    (hb' : Bytes w a' len' b') (h8' : ∀ i, i < len' → b' i < 256) (hlen' : len' ≤ 9223372036854775807) (h0 : x0 < 18446744073709551616) (h1 : x1 < 18446744073709551616) (h2 : x2 < 18446744073709551616) :
    Calls Try.prog 4 #[.slice a len cap, .slice a' len' cap', .agg #[.int .u64 (x0 : Int), .int .u64 (x1 : Int), .int .u64 (x2 : Int)]] w fun e w' => e = .returned (.bool true) ∧ Below w.heap.size w w' := by
  have okl := ofL_ok h8
  have oko := ofL_ok h8'
  obtain ⟨gl, hgl⟩ : ∃ g, ofL b len = g := ⟨_, rfl⟩
  obtain ⟨go, hgo⟩ : ∃ g, ofL b' len' = g := ⟨_, rfl⟩
  rw [hgl] at okl
  rw [hgo] at oko
  obtain ⟨gb, hgb⟩ : ∃ g, blendL gl go x0 64 = g := ⟨_, rfl⟩
  have okb : OkL gb := by rw [← hgb]; exact okl.blend oko _ _
  obtain ⟨y, hy⟩ : ∃ y, diffV gl go = y := ⟨_, rfl⟩
  obtain ⟨p, hp⟩ : ∃ z, IntKind.i64.wrap (x1 : Int) = z := ⟨_, rfl⟩
  obtain ⟨n, hn⟩ : ∃ z, IntKind.i64.wrap (x2 : Int) = z := ⟨_, rfl⟩
  obtain ⟨z, hz⟩ : ∃ z, onesV p n = z := ⟨_, rfl⟩
  have hpB : IntB p := by rw [← hp]; exact IntB.wrap _
  have hnB : IntB n := by rw [← hn]; exact IntB.wrap _
  have HG := Lib.hid hgl
  have HO := Lib.hid hgo
  have HGB := Lib.hid hgb
  have HY := Lib.hid hy
  have HZ := Lib.hid hz
  have OKG := Lib.hid okl
  have OKO := Lib.hid oko
  have OKB := Lib.hid okb
  have HPB := Lib.hid hpB
  have HNB := Lib.hid hnB
  clear hgl hgo hgb hy hz okl oko okb h8 h8' hpB hnB
  have l3 := size_cellsL
  have eqb : ∀ w, (Op.equalIn 10000 26 (.agg (cellsL gb)) (.agg (cellsL gb))).run Try.prog w = .ok true w := fun w => eqLs gb OKB.out w
  have k0 := heap_alloc_new w (.cells #[.int .u64 (x0 : Int), .int .u64 (x1 : Int), .int .u64 (x2 : Int)] 40)
  have F0 := (Fr.refl w).alloc (.cells #[.int .u64 (x0 : Int), .int .u64 (x1 : Int), .int .u64 (x2 : Int)] 40)
  have B0 := Lib.hid (hb.keep F0.1)
  have B0' := Lib.hid (hb'.keep F0.1)
  clear hb hb'
  go_enter Try.func4, Try.ntmps4
  go_wp2_with fail
  refine (lof_v HG.out _ B0.out).mono ?_
  rintro e w1 ⟨rfl, hb1⟩
  have k1 := keepB hb1 k0
  have F1 := F0.step hb1
  have B1 := Lib.hid (B0.out.keep hb1)
  have B1' := Lib.hid (B0'.out.keep hb1)
  clear k0 F0 B0 B0' hb1
  go_wp2_with fail
  refine (lof_v HO.out _ B1'.out).mono ?_
  rintro e w2 ⟨rfl, hb2⟩
  have k2 := keepB hb2 k1
  have F2 := F1.step hb2
  have B2 := Lib.hid (B1.out.keep (((Fr.refl _).step hb2)).1)
  have B2' := Lib.hid (B1'.out.keep (((Fr.refl _).step hb2)).1)
  clear k1 F1 B1 B1' hb2
  have FW := Fr.refl w2
  have kax := keep_alloc (heap_alloc_new w2 (.cells (cellsL fun _ => 0) 26)) (.cells (cellsL fun _ => 0) 26)
  have sax := st_rowL Try.prog kax gl
  have kzx : ((w2.alloc (.cells (cellsL fun _ => 0) 26)).alloc (.cells (cellsL fun _ => 0) 26)).heap[w2.heap.size + 1]? = some (.cells (cellsL fun _ => 0) 26) := by simpa using heap_alloc_new (w2.alloc (.cells (cellsL fun _ => 0) 26)) (.cells (cellsL fun _ => 0) 26)
  have hn1x : w2.heap.size ≠ w2.heap.size + 1 := by omega
  have hn2x : w2.heap.size + 1 ≠ w2.heap.size := by omega
  have sbx := st_rowL Try.prog (keep_row kzx hn1x (cellsL gl)) go
  have ql := keep_row (row_at kax (cellsL gl)) hn2x (cellsL go)
  have qo := row_at (keep_row kzx hn1x (cellsL gl)) (cellsL go)
  have hB1x : w.heap.size ≤ w2.heap.size := F2.2
  have hB2x : w.heap.size ≤ w2.heap.size + 1 := by omega
  have hlk3 := lt_of_at k2
  have k3 := keep_row (keep_row (keep_alloc (keep_alloc k2 (.cells (cellsL fun _ => 0) 26)) (.cells (cellsL fun _ => 0) 26)) (Nat.ne_of_gt hlk3) (cellsL gl)) (Nat.ne_of_gt (Nat.lt_succ_of_lt hlk3)) (cellsL go)
  have F3 := ((((F2.alloc (.cells (cellsL fun _ => 0) 26)).alloc (.cells (cellsL fun _ => 0) 26)).row hB1x (cellsL gl)).row hB2x (cellsL go))
  clear kax kzx F2 k2
  have B3 := Lib.hid (B2.out.keep ((((FW.alloc (.cells (cellsL fun _ => 0) 26)).alloc (.cells (cellsL fun _ => 0) 26)).row (Nat.le_refl _) (cellsL gl)).row (Nat.le_succ _) (cellsL go)).1)
  have B3' := Lib.hid (B2'.out.keep ((((FW.alloc (.cells (cellsL fun _ => 0) 26)).alloc (.cells (cellsL fun _ => 0) 26)).row (Nat.le_refl _) (cellsL gl)).row (Nat.le_succ _) (cellsL go)).1)
  clear B2 B2' FW
  go_upto_region 2 with fail
  obtain ⟨WB, hWB⟩ : ∃ W, ((((w2.alloc (.cells (cellsL fun _ => 0) 26)).alloc (.cells (cellsL fun _ => 0) 26)).setRow w2.heap.size (cellsL gl)).setRow (w2.heap.size + 1) (cellsL go)) = W := ⟨_, rfl⟩
  obtain ⟨bl, hbl⟩ : ∃ b, w2.heap.size = b := ⟨_, rfl⟩
  obtain ⟨bo, hbo⟩ : ∃ b, bl + 1 = b := ⟨_, rfl⟩
  rw [hWB] at ql qo F3 k3 B3 B3' ⊢
  rw [hbl] at ql qo ⊢
  rw [hbo] at qo ⊢
  clear sax sbx hn1x hn2x hB1x hB2x hWB hbl hbo hlk3
  go_wp2_with fail
  refine (rof_v HG.out _ B3.out hlen).mono ?_
  rintro e w4 ⟨rfl, hb4⟩
  have k4 := keepB hb4 k3
  have ql4 := keepB hb4 ql
  have qo4 := keepB hb4 qo
  have F4 := F3.step hb4
  have B4' := Lib.hid (B3'.out.keep hb4)
  clear k3 ql qo F3 B3 B3' hb4
  go_wp2_with fail
  refine (rof_v HO.out _ B4'.out hlen').mono ?_
  rintro e w5 ⟨rfl, hb5⟩
  have k5 := keepB hb5 k4
  have ql5 := keepB hb5 ql4
  have qo5 := keepB hb5 qo4
  have F5 := F4.step hb5
  clear k4 ql4 qo4 F4 B4' hb5
  have kay := keep_alloc (heap_alloc_new w5 (.cells (cellsL fun _ => 0) 25)) (.cells (cellsL fun _ => 0) 25)
  have say := st_rowL Try.prog kay gl
  have kzy : ((w5.alloc (.cells (cellsL fun _ => 0) 25)).alloc (.cells (cellsL fun _ => 0) 25)).heap[w5.heap.size + 1]? = some (.cells (cellsL fun _ => 0) 25) := by simpa using heap_alloc_new (w5.alloc (.cells (cellsL fun _ => 0) 25)) (.cells (cellsL fun _ => 0) 25)
  have hn1y : w5.heap.size ≠ w5.heap.size + 1 := by omega
  have hn2y : w5.heap.size + 1 ≠ w5.heap.size := by omega
  have sby := st_rowL Try.prog (keep_row kzy hn1y (cellsL gl)) go
  have rl := keep_row (row_at kay (cellsL gl)) hn2y (cellsL go)
  have ro := row_at (keep_row kzy hn1y (cellsL gl)) (cellsL go)
  have hB1y : w.heap.size ≤ w5.heap.size := F5.2
  have hB2y : w.heap.size ≤ w5.heap.size + 1 := by omega
  have hlk6 := lt_of_at k5
  have k6 := keep_row (keep_row (keep_alloc (keep_alloc k5 (.cells (cellsL fun _ => 0) 25)) (.cells (cellsL fun _ => 0) 25)) (Nat.ne_of_gt hlk6) (cellsL gl)) (Nat.ne_of_gt (Nat.lt_succ_of_lt hlk6)) (cellsL go)
  have hlql6 := lt_of_at ql5
  have ql6 := keep_row (keep_row (keep_alloc (keep_alloc ql5 (.cells (cellsL fun _ => 0) 25)) (.cells (cellsL fun _ => 0) 25)) (Nat.ne_of_gt hlql6) (cellsL gl)) (Nat.ne_of_gt (Nat.lt_succ_of_lt hlql6)) (cellsL go)
  have hlqo6 := lt_of_at qo5
  have qo6 := keep_row (keep_row (keep_alloc (keep_alloc qo5 (.cells (cellsL fun _ => 0) 25)) (.cells (cellsL fun _ => 0) 25)) (Nat.ne_of_gt hlqo6) (cellsL gl)) (Nat.ne_of_gt (Nat.lt_succ_of_lt hlqo6)) (cellsL go)
  have F6 := ((((F5.alloc (.cells (cellsL fun _ => 0) 25)).alloc (.cells (cellsL fun _ => 0) 25)).row hB1y (cellsL gl)).row hB2y (cellsL go))
  clear kay kzy F5 k5 ql5 qo5
  go_upto_region 3 with fail
  obtain ⟨WC, hWC⟩ : ∃ W, ((((w5.alloc (.cells (cellsL fun _ => 0) 25)).alloc (.cells (cellsL fun _ => 0) 25)).setRow w5.heap.size (cellsL gl)).setRow (w5.heap.size + 1) (cellsL go)) = W := ⟨_, rfl⟩
  obtain ⟨bx, hbx⟩ : ∃ b, w5.heap.size = b := ⟨_, rfl⟩
  obtain ⟨by_, hby_⟩ : ∃ b, bx + 1 = b := ⟨_, rfl⟩
  rw [hWC] at rl ro F6 k6 ql6 qo6 ⊢
  rw [hbx] at rl ro ⊢
  rw [hby_] at ro ⊢
  clear say sby hn1y hn2y hB1y hB2y hWC hbx hby_ hlk6 hlql6 hlqo6
  obtain ⟨c0, c1, c2⟩ := three_cells k6
  go_wp2_with fail
  go_quiet (fail)
  clear c1 c2
  have uL := Try.underlying26
  have uR := Try.underlying25
  clear k6
  go_wp2_with fail
  refine wp_region_held_drew (S := (fun w' => ((((Fr w.heap.size w w' ∧ w'.heap[bl]? = some (.cells (cellsL gl) 26)) ∧ w'.heap[bo]? = some (.cells (cellsL go) 26)) ∧ w'.heap[bx]? = some (.cells (cellsL gl) 25)) ∧ w'.heap[by_]? = some (.cells (cellsL go) 25)) ∧ w'.cell? ⟨w.heap.size, 0, none⟩ = some (.int .u64 (x0 : Int)))) (by kernel_rfl) ?_ (fun hHeld => ?_)
  · exact ⟨⟨⟨⟨⟨(F6.drewN _).drew, ql6⟩, qo6⟩, rl⟩, ro⟩, c0⟩
  refine wpAnyH_take (i := 0) (oi := { dst := some 27, op := Op.load 26 (Operand.tmp 7), type := 26, pos := "law.go:46", after := _, guard := none }) (v := .agg (cellsL gl)) rfl (by kernel_rfl) (by kernel_rfl) (by kernel_rfl) (fun _ _ _ h => h) (yields_row (g := gl) (by rfl) _ _ rfl _ rfl (fun w' hSw => by (try dsimp only at hSw); go_split_ands; assumption) uL rfl infoLL) (by assumption) ?_
  try simp only [Act.put, List.setIfInBounds_toArray, List.set_cons_zero, List.set_cons_succ]
  refine wpAnyH_take (i := 1) (oi := { dst := some 28, op := Op.load 26 (Operand.tmp 8), type := 26, pos := "law.go:46", after := _, guard := none }) (v := .agg (cellsL go)) rfl (by kernel_rfl) (by kernel_rfl) (by kernel_rfl) (fun _ _ _ h => h) (yields_row (g := go) (by rfl) _ _ rfl _ rfl (fun w' hSw => by (try dsimp only at hSw); go_split_ands; assumption) uL rfl infoLL) (by assumption) ?_
  try simp only [Act.put, List.setIfInBounds_toArray, List.set_cons_zero, List.set_cons_succ]
  refine wpAnyH_take (i := 2) (oi := { dst := some 29, op := Op.indexAddr 40 (Operand.tmp 5) (Operand.const (Value.int IntKind.i64 0)), type := 0, pos := "law.go:46", after := _, guard := none }) (v := ?_) rfl (by kernel_rfl) (by kernel_rfl) (by kernel_rfl) (fun _ _ _ h => h) (Or.inl ⟨by rfl, ?_⟩) (by assumption) ?_
  rotate_left
  · intro w' hSw
    try dsimp only at hSw
    go_simp
    try with_reducible rfl
  try simp only [Act.put, List.setIfInBounds_toArray, List.set_cons_zero, List.set_cons_succ]
  refine wpAnyH_take (i := 3) (oi := { dst := some 30, op := Op.load 24 (Operand.tmp 29), type := 24, pos := "law.go:46", after := _, guard := none }) (v := ?_) rfl (by kernel_rfl) (by kernel_rfl) (by kernel_rfl) (fun _ _ _ h => h) (Or.inl ⟨by rfl, ?_⟩) (by assumption) ?_
  rotate_left
  · intro w' hSw
    try dsimp only at hSw
    go_simp
    try with_reducible rfl
  try simp only [Act.put, List.setIfInBounds_toArray, List.set_cons_zero, List.set_cons_succ]
  refine wpAnyH_take (i := 5) (oi := { dst := some 32, op := Op.load 25 (Operand.tmp 9), type := 25, pos := "law.go:46", after := _, guard := none }) (v := .agg (cellsL gl)) rfl (by kernel_rfl) (by kernel_rfl) (by kernel_rfl) (fun _ _ _ h => h) (yields_row (g := gl) (by rfl) _ _ rfl _ rfl (fun w' hSw => by (try dsimp only at hSw); go_split_ands; assumption) uR rfl infoLR) (by assumption) ?_
  try simp only [Act.put, List.setIfInBounds_toArray, List.set_cons_zero, List.set_cons_succ]
  refine wpAnyH_take (i := 6) (oi := { dst := some 33, op := Op.load 25 (Operand.tmp 10), type := 25, pos := "law.go:46", after := _, guard := none }) (v := .agg (cellsL go)) rfl (by kernel_rfl) (by kernel_rfl) (by kernel_rfl) (fun _ _ _ h => h) (yields_row (g := go) (by rfl) _ _ rfl _ rfl (fun w' hSw => by (try dsimp only at hSw); go_split_ands; assumption) uR rfl infoLR) (by assumption) ?_
  try simp only [Act.put, List.setIfInBounds_toArray, List.set_cons_zero, List.set_cons_succ]
  refine wpAnyH_take (i := 7) (oi := { dst := some 34, op := Op.indexAddr 40 (Operand.tmp 5) (Operand.const (Value.int IntKind.i64 0)), type := 0, pos := "law.go:46", after := _, guard := none }) (v := ?_) rfl (by kernel_rfl) (by kernel_rfl) (by kernel_rfl) (fun _ _ _ h => h) (Or.inl ⟨by rfl, ?_⟩) (by assumption) ?_
  rotate_left
  · intro w' hSw
    try dsimp only at hSw
    go_simp
    try with_reducible rfl
  try simp only [Act.put, List.setIfInBounds_toArray, List.set_cons_zero, List.set_cons_succ]
  refine wpAnyH_take (i := 8) (oi := { dst := some 35, op := Op.load 24 (Operand.tmp 34), type := 24, pos := "law.go:46", after := _, guard := none }) (v := ?_) rfl (by kernel_rfl) (by kernel_rfl) (by kernel_rfl) (fun _ _ _ h => h) (Or.inl ⟨by rfl, ?_⟩) (by assumption) ?_
  rotate_left
  · intro w' hSw
    try dsimp only at hSw
    go_simp
    try with_reducible rfl
  try simp only [Act.put, List.setIfInBounds_toArray, List.set_cons_zero, List.set_cons_succ]
  refine wpAnyH_ready (rs := [4]) (by kernel_rfl) (by simp) ?_
  refine AllReadyH.cons (o := { dst := some 31, op := Op.call { callee := Callee.value (Operand.func 17), args := #[Operand.tmp 27, Operand.tmp 28, Operand.tmp 30], argTypes := #[26, 26, 24] }, type := 26, pos := "law.go:46", after := _, guard := none }) rfl (fun K hK => ?_) AllReadyH.nil
  go_simp
  go_at_call 17; refine (lblend_v HGB.out _ h0).mono ?_; rintro e w' ⟨rfl, hb⟩
  try go_wp2_with fail
  refine hK.out _ _ ?_ (fun hHeld2 => ?_)
  · (try dsimp only)
    exact heldQ hb hHeld
  clear hK K hHeld
  have hHeld := hHeld2
  clear hHeld2
  try simp only [Act.put, List.setIfInBounds_toArray, List.set_cons_zero, List.set_cons_succ]
  refine wpAnyH_ready (rs := [9]) (by kernel_rfl) (by simp) ?_
  refine AllReadyH.cons (o := { dst := some 36, op := Op.call { callee := Callee.value (Operand.func 18), args := #[Operand.tmp 32, Operand.tmp 33, Operand.tmp 35], argTypes := #[25, 25, 24] }, type := 25, pos := "law.go:46", after := _, guard := none }) rfl (fun K hK => ?_) AllReadyH.nil
  go_simp
  go_at_call 18; refine (rblend_v HGB.out _ h0).mono ?_; rintro e w' ⟨rfl, hb⟩
  try go_wp2_with fail
  refine hK.out _ _ ?_ (fun hHeld2 => ?_)
  · (try dsimp only)
    exact heldQ hb hHeld
  clear hK K hHeld
  have hHeld := hHeld2
  clear hHeld2
  try simp only [Act.put, List.setIfInBounds_toArray, List.set_cons_zero, List.set_cons_succ]
  refine wpAnyH_take (i := 10) (oi := { dst := some 37, op := Op.binOp BinOp.eql 26 (Operand.tmp 31) (Operand.tmp 36) 26, type := 4, pos := "law.go:46", after := _, guard := none }) (v := ?_) rfl (by kernel_rfl) (by kernel_rfl) (by kernel_rfl) (fun _ _ _ h => h) (Or.inl ⟨by rfl, ?_⟩) (by assumption) ?_
  rotate_left
  · intro w' hSw
    try dsimp only at hSw
    go_simp
    try with_reducible rfl
  try simp only [Act.put, List.setIfInBounds_toArray, List.set_cons_zero, List.set_cons_succ]
  refine wpAnyH_take (i := 11) (oi := { dst := some 38, op := Op.move (Operand.tmp 37), type := 4, pos := "law.go:46", after := _, guard := none }) (v := ?_) rfl (by kernel_rfl) (by kernel_rfl) (by kernel_rfl) (fun _ _ _ h => h) (Or.inl ⟨by rfl, ?_⟩) (by assumption) ?_
  rotate_left
  · intro w' hSw
    try dsimp only at hSw
    go_simp
    try with_reducible rfl
  try simp only [Act.put, List.setIfInBounds_toArray, List.set_cons_zero, List.set_cons_succ]
  refine wpAnyH_take (i := 12) (oi := { dst := some 39, op := Op.load 26 (Operand.tmp 7), type := 26, pos := "law.go:46", after := _, guard := some (11, true) }) (v := .agg (cellsL gl)) rfl (by kernel_rfl) (by kernel_rfl) (by kernel_rfl) (fun _ _ _ h => h) (yields_row (g := gl) (by rfl) _ _ rfl _ rfl (fun w' hSw => by (try dsimp only at hSw); go_split_ands; assumption) uL rfl infoLL) (by assumption) ?_
  try simp only [Act.put, List.setIfInBounds_toArray, List.set_cons_zero, List.set_cons_succ]
  refine wpAnyH_take (i := 13) (oi := { dst := some 40, op := Op.load 26 (Operand.tmp 8), type := 26, pos := "law.go:46", after := _, guard := some (11, true) }) (v := .agg (cellsL go)) rfl (by kernel_rfl) (by kernel_rfl) (by kernel_rfl) (fun _ _ _ h => h) (yields_row (g := go) (by rfl) _ _ rfl _ rfl (fun w' hSw => by (try dsimp only at hSw); go_split_ands; assumption) uL rfl infoLL) (by assumption) ?_
  try simp only [Act.put, List.setIfInBounds_toArray, List.set_cons_zero, List.set_cons_succ]
  refine wpAnyH_take (i := 15) (oi := { dst := some 42, op := Op.load 25 (Operand.tmp 9), type := 25, pos := "law.go:46", after := _, guard := some (11, true) }) (v := .agg (cellsL gl)) rfl (by kernel_rfl) (by kernel_rfl) (by kernel_rfl) (fun _ _ _ h => h) (yields_row (g := gl) (by rfl) _ _ rfl _ rfl (fun w' hSw => by (try dsimp only at hSw); go_split_ands; assumption) uR rfl infoLR) (by assumption) ?_
  try simp only [Act.put, List.setIfInBounds_toArray, List.set_cons_zero, List.set_cons_succ]
  refine wpAnyH_take (i := 16) (oi := { dst := some 43, op := Op.load 25 (Operand.tmp 10), type := 25, pos := "law.go:46", after := _, guard := some (11, true) }) (v := .agg (cellsL go)) rfl (by kernel_rfl) (by kernel_rfl) (by kernel_rfl) (fun _ _ _ h => h) (yields_row (g := go) (by rfl) _ _ rfl _ rfl (fun w' hSw => by (try dsimp only at hSw); go_split_ands; assumption) uR rfl infoLR) (by assumption) ?_
  try simp only [Act.put, List.setIfInBounds_toArray, List.set_cons_zero, List.set_cons_succ]
  refine wpAnyH_ready (rs := [14]) (by kernel_rfl) (by simp) ?_
  refine AllReadyH.cons (o := { dst := some 41, op := Op.call { callee := Callee.value (Operand.func 19), args := #[Operand.tmp 39, Operand.tmp 40], argTypes := #[26, 26] }, type := 24, pos := "law.go:46", after := _, guard := some (11, true) }) rfl (fun K hK => ?_) AllReadyH.nil
  go_simp
  go_at_call 19; refine (ldiff_v HY.out _ OKG.out OKO.out).mono ?_; rintro e w' ⟨rfl, hb⟩
  try go_wp2_with fail
  refine hK.out _ _ ?_ (fun hHeld2 => ?_)
  · (try dsimp only)
    exact heldQ hb hHeld
  clear hK K hHeld
  have hHeld := hHeld2
  clear hHeld2
  try simp only [Act.put, List.setIfInBounds_toArray, List.set_cons_zero, List.set_cons_succ]
  refine wpAnyH_ready (rs := [17]) (by kernel_rfl) (by simp) ?_
  refine AllReadyH.cons (o := { dst := some 44, op := Op.call { callee := Callee.value (Operand.func 20), args := #[Operand.tmp 42, Operand.tmp 43], argTypes := #[25, 25] }, type := 24, pos := "law.go:46", after := _, guard := some (11, true) }) rfl (fun K hK => ?_) AllReadyH.nil
  go_simp
  go_at_call 20; refine (rdiff_v HY.out _ OKG.out OKO.out).mono ?_; rintro e w' ⟨rfl, hb⟩
  try go_wp2_with fail
  refine hK.out _ _ ?_ (fun hHeld2 => ?_)
  · (try dsimp only)
    exact heldQ hb hHeld
  clear hK K hHeld
  have hHeld := hHeld2
  clear hHeld2
  try simp only [Act.put, List.setIfInBounds_toArray, List.set_cons_zero, List.set_cons_succ]
  refine wpAnyH_take (i := 18) (oi := { dst := some 45, op := Op.binOp BinOp.eql 24 (Operand.tmp 41) (Operand.tmp 44) 24, type := 4, pos := "law.go:46", after := _, guard := some (11, true) }) (v := ?_) rfl (by kernel_rfl) (by kernel_rfl) (by kernel_rfl) (fun _ _ _ h => h) (Or.inl ⟨by rfl, ?_⟩) (by assumption) ?_
  rotate_left
  · intro w' hSw
    try dsimp only at hSw
    go_simp
    try with_reducible rfl
  try simp only [Act.put, List.setIfInBounds_toArray, List.set_cons_zero, List.set_cons_succ]
  refine wpAnyH_take (i := 19) (oi := { dst := some 46, op := Op.pick (Operand.tmp 38) (Operand.tmp 45) (Operand.const (Value.bool false)), type := 4, pos := "law.go:46", after := _, guard := none }) (v := ?_) rfl (by kernel_rfl) (by kernel_rfl) (by kernel_rfl) (fun _ _ _ h => h) (Or.inl ⟨by rfl, ?_⟩) (by assumption) ?_
  rotate_left
  · intro w' hSw
    try dsimp only at hSw
    go_simp
    try with_reducible rfl
  try simp only [Act.put, List.setIfInBounds_toArray, List.set_cons_zero, List.set_cons_succ]
  refine wpAnyH_take (i := 20) (oi := { dst := some 47, op := Op.move (Operand.tmp 46), type := 4, pos := "law.go:46", after := _, guard := none }) (v := ?_) rfl (by kernel_rfl) (by kernel_rfl) (by kernel_rfl) (fun _ _ _ h => h) (Or.inl ⟨by rfl, ?_⟩) (by assumption) ?_
  rotate_left
  · intro w' hSw
    try dsimp only at hSw
    go_simp
    try with_reducible rfl
  try simp only [Act.put, List.setIfInBounds_toArray, List.set_cons_zero, List.set_cons_succ]
  refine wpAnyH_take (i := 21) (oi := { dst := some 48, op := Op.move (Operand.tmp 11), type := 3, pos := "law.go:46", after := _, guard := some (20, true) }) (v := ?_) rfl (by kernel_rfl) (by kernel_rfl) (by kernel_rfl) (fun _ _ _ h => h) (Or.inl ⟨by rfl, ?_⟩) (by assumption) ?_
  rotate_left
  · intro w' hSw
    try dsimp only at hSw
    go_simp
    try with_reducible rfl
  try simp only [Act.put, List.setIfInBounds_toArray, List.set_cons_zero, List.set_cons_succ]
  refine wpAnyH_take (i := 22) (oi := { dst := some 49, op := Op.move (Operand.tmp 12), type := 3, pos := "law.go:46", after := _, guard := some (20, true) }) (v := ?_) rfl (by kernel_rfl) (by kernel_rfl) (by kernel_rfl) (fun _ _ _ h => h) (Or.inl ⟨by rfl, ?_⟩) (by assumption) ?_
  rotate_left
  · intro w' hSw
    try dsimp only at hSw
    go_simp
    try with_reducible rfl
  try simp only [Act.put, List.setIfInBounds_toArray, List.set_cons_zero, List.set_cons_succ]
  refine wpAnyH_take (i := 24) (oi := { dst := some 51, op := Op.move (Operand.tmp 11), type := 3, pos := "law.go:46", after := _, guard := some (20, true) }) (v := ?_) rfl (by kernel_rfl) (by kernel_rfl) (by kernel_rfl) (fun _ _ _ h => h) (Or.inl ⟨by rfl, ?_⟩) (by assumption) ?_
  rotate_left
  · intro w' hSw
    try dsimp only at hSw
    go_simp
    try with_reducible rfl
  try simp only [Act.put, List.setIfInBounds_toArray, List.set_cons_zero, List.set_cons_succ]
  refine wpAnyH_take (i := 25) (oi := { dst := some 52, op := Op.move (Operand.tmp 12), type := 3, pos := "law.go:46", after := _, guard := some (20, true) }) (v := ?_) rfl (by kernel_rfl) (by kernel_rfl) (by kernel_rfl) (fun _ _ _ h => h) (Or.inl ⟨by rfl, ?_⟩) (by assumption) ?_
  rotate_left
  · intro w' hSw
    try dsimp only at hSw
    go_simp
    try with_reducible rfl
  try simp only [Act.put, List.setIfInBounds_toArray, List.set_cons_zero, List.set_cons_succ]
  refine wpAnyH_ready (rs := [23]) (by kernel_rfl) (by simp) ?_
  refine AllReadyH.cons (o := { dst := some 50, op := Op.call { callee := Callee.value (Operand.func 21), args := #[Operand.tmp 48, Operand.tmp 49], argTypes := #[3, 3] }, type := 24, pos := "law.go:46", after := _, guard := some (20, true) }) rfl (fun K hK => ?_) AllReadyH.nil
  go_simp
  go_at_call 21; refine (lanes_v HZ.out _ HPB.out HNB.out).mono ?_; rintro e w' ⟨rfl, rfl⟩; have hb := Below.refl w'.heap.size w'
  try go_wp2_with fail
  refine hK.out _ _ ?_ (fun hHeld2 => ?_)
  · (try dsimp only)
    exact heldQ hb hHeld
  clear hK K hHeld
  have hHeld := hHeld2
  clear hHeld2
  try simp only [Act.put, List.setIfInBounds_toArray, List.set_cons_zero, List.set_cons_succ]
  refine wpAnyH_ready (rs := [26]) (by kernel_rfl) (by simp) ?_
  refine AllReadyH.cons (o := { dst := some 53, op := Op.call { callee := Callee.value (Operand.func 22), args := #[Operand.tmp 51, Operand.tmp 52], argTypes := #[3, 3] }, type := 24, pos := "law.go:46", after := _, guard := some (20, true) }) rfl (fun K hK => ?_) AllReadyH.nil
  go_simp
  go_at_call 22; refine (rones_v HZ.out _ HPB.out HNB.out).mono ?_; rintro e w' ⟨rfl, hb⟩
  try go_wp2_with fail
  refine hK.out _ _ ?_ (fun hHeld2 => ?_)
  · (try dsimp only)
    exact heldQ hb hHeld
  clear hK K hHeld
  have hHeld := hHeld2
  clear hHeld2
  try simp only [Act.put, List.setIfInBounds_toArray, List.set_cons_zero, List.set_cons_succ]
  refine wpAnyH_take (i := 27) (oi := { dst := some 54, op := Op.binOp BinOp.eql 24 (Operand.tmp 50) (Operand.tmp 53) 24, type := 4, pos := "law.go:46", after := _, guard := some (20, true) }) (v := ?_) rfl (by kernel_rfl) (by kernel_rfl) (by kernel_rfl) (fun _ _ _ h => h) (Or.inl ⟨by rfl, ?_⟩) (by assumption) ?_
  rotate_left
  · intro w' hSw
    try dsimp only at hSw
    go_simp
    try with_reducible rfl
  try simp only [Act.put, List.setIfInBounds_toArray, List.set_cons_zero, List.set_cons_succ]
  refine wpAnyH_take (i := 28) (oi := { dst := some 55, op := Op.pick (Operand.tmp 47) (Operand.tmp 54) (Operand.const (Value.bool false)), type := 4, pos := "law.go:46", after := _, guard := none }) (v := ?_) rfl (by kernel_rfl) (by kernel_rfl) (by kernel_rfl) (fun _ _ _ h => h) (Or.inl ⟨by rfl, ?_⟩) (by assumption) ?_
  rotate_left
  · intro w' hSw
    try dsimp only at hSw
    go_simp
    try with_reducible rfl
  try simp only [Act.put, List.setIfInBounds_toArray, List.set_cons_zero, List.set_cons_succ]
  refine wpAnyH_take (i := 29) (oi := { dst := some 56, op := Op.move (Operand.tmp 55), type := 4, pos := "law.go:46", after := _, guard := none }) (v := ?_) rfl (by kernel_rfl) (by kernel_rfl) (by kernel_rfl) (fun _ _ _ h => h) (Or.inl ⟨by rfl, ?_⟩) (by assumption) ?_
  rotate_left
  · intro w' hSw
    try dsimp only at hSw
    go_simp
    try with_reducible rfl
  try simp only [Act.put, List.setIfInBounds_toArray, List.set_cons_zero, List.set_cons_succ]
  refine wpAnyH_ready (rs := [30]) (by kernel_rfl) (by simp) ?_
  refine AllReadyH.cons (o := { dst := some 57, op := Op.call { callee := Callee.value (Operand.func 16), args := #[], argTypes := #[] }, type := 4, pos := "law.go:46", after := _, guard := some (29, true) }) rfl (fun K hK => ?_) AllReadyH.nil
  go_simp
  go_at_call 16; refine (live09_any _).mono ?_; rintro e w' ⟨rfl, hb⟩
  try go_wp2_with fail
  refine hK.out _ _ ?_ (fun hHeld2 => ?_)
  · (try dsimp only)
    exact heldQ hb hHeld
  clear hK K hHeld
  have hHeld := hHeld2
  clear hHeld2
  try simp only [Act.put, List.setIfInBounds_toArray, List.set_cons_zero, List.set_cons_succ]
  refine wpAnyH_take (i := 31) (oi := { dst := some 58, op := Op.pick (Operand.tmp 56) (Operand.tmp 57) (Operand.const (Value.bool false)), type := 4, pos := "law.go:46", after := _, guard := none }) (v := ?_) rfl (by kernel_rfl) (by kernel_rfl) (by kernel_rfl) (fun _ _ _ h => h) (Or.inl ⟨by rfl, ?_⟩) (by assumption) ?_
  rotate_left
  · intro w' hSw
    try dsimp only at hSw
    go_simp
    try with_reducible rfl
  try simp only [Act.put, List.setIfInBounds_toArray, List.set_cons_zero, List.set_cons_succ]
  refine wpAnyH_take (i := 32) (oi := { dst := some 6, op := Op.assign (Operand.tmp 58), type := 4, pos := "law.go:46", after := _, guard := none }) (v := ?_) rfl (by kernel_rfl) (by kernel_rfl) (by kernel_rfl) (fun _ _ _ h => h) (Or.inl ⟨by rfl, ?_⟩) (by assumption) ?_
  rotate_left
  · intro w' hSw
    try dsimp only at hSw
    go_simp
    try with_reducible rfl
  try simp only [Act.put, List.setIfInBounds_toArray, List.set_cons_zero, List.set_cons_succ]
  refine wpAnyH_done (by kernel_rfl) ?_ _
  have hS9 := hHeld
  have FE := Lib.hid hS9.1.1.1.1.1.1
  go_wp2
  go_ret
  exact ⟨rfl, FE.out⟩
end Go.Proofs.Ytbboaekfhdeolaa
