/- Law 10's do: a line that is set, a load. -/
import Derived.Test.YtbboaekfhdeolaaRpI
import Derived.Deep.MidRow
namespace Go.Proofs.Ytbboaekfhdeolaa
open Go.RowKit
set_option linter.unusedSimpArgs false
set_option linter.unusedVariables false
attribute [local simp high] sizeLL zeroLL sizeLR zeroLR

set_option maxRecDepth 100000 in
set_option maxHeartbeats 8000000 in
theorem do_load (b m k L c cap addr v len bcap : Nat) (kd n : Int) (a : Option Addr) (g : Nat → Nat → Nat) (w : World) (h0 : kd ≠ 0) (h1 : kd ≠ 1) (h2 : kd ≠ 2) (okg : ∀ i, OkL (g i)) (ha : addr < 18446744073709551616) (hv : v < 18446744073709551616) (hn1 : n ≤ 9223372036854775807) (hL : L ≤ 4096)
    (hR : RamAt w b m k L g) (hX : XB w c (64 * L) (fl g)) :
    Calls Try.prog 33 #[.pointer (some ⟨b, 0, none⟩), .agg #[.slice (some ⟨c, 0, none⟩) (64 * L) cap], .agg #[.int .i64 kd, .int .u64 (addr : Int), .int .i64 n, .int .u64 (v : Int), .slice a len bcap]] w fun e w' => e = .returned (.bool true) ∧ Below w.heap.size w w' := by
  have e0 : (kd == 0) = false := by simpa using h0
  have e1 : (kd == 1) = false := by simpa using h1
  have e2 : (kd == 2) = false := by simpa using h2
  clear h0 h1 h2
  obtain ⟨x, q, hq⟩ : ∃ x q, loadR g L addr n = (x, q) := ⟨_, _, rfl⟩
  obtain ⟨p, hp⟩ : ∃ p, hasR L addr n = p := ⟨_, rfl⟩
  have HG := Lib.hid hq
  have HP := Lib.hid hp
  have HA := Lib.hid ha
  have HV := Lib.hid hv
  have HN := Lib.hid hn1
  have OKG := Lib.hid okg
  have hml : m < w.heap.size := hR.2.lt
  have hcl : c < w.heap.size := hX.1
  have hbl : b < w.heap.size := lt_of_at hR.1
  have F0 := ((Fr.refl w).alloc (.cells #[.slice (some ⟨c, 0, none⟩) (64 * L) cap] 66)).alloc (.cells #[.int .i64 kd, .int .u64 (addr : Int), .int .i64 n, .int .u64 (v : Int), .slice a len bcap] 63)
  have B0 := bx_new w c (64 * L) cap kd addr n v a len bcap
  obtain ⟨w1, hw1⟩ : ∃ w1, (w.alloc (.cells #[.slice (some ⟨c, 0, none⟩) (64 * L) cap] 66)).alloc (.cells #[.int .i64 kd, .int .u64 (addr : Int), .int .i64 n, .int .u64 (v : Int), .slice a len bcap] 63) = w1 := ⟨_, rfl⟩
  rw [hw1] at F0 B0
  have R0 := hR.keep F0.1
  have X0 := hX.keep F0.1
  obtain ⟨-, c0, c1, c2, c3, c4, c5⟩ := B0.cells
  clear hq hp ha hv hn1 okg hR hX
  go_enter Try.func33, Try.ntmps33
  go_wp2_with fail
  clear hw1
  refine (ramload_v HG.out _ OKG.out HA.out HN.out hL R0).mono ?_
  rintro e w2 ⟨rfl, hb2⟩
  have F2 := F0.step hb2
  have R2 := R0.keep hb2
  have X2 := X0.keep hb2
  have B2 := B0.keep hb2
  clear c0 c1 c2 c3 c4 c5
  obtain ⟨-, c0, c1, c2, c3, c4, c5⟩ := B2.cells
  clear F0 R0 X0 B0 hb2
  go_wp2_with fail
  refine (rload_v HG.out _ OKG.out HA.out HN.out hL X2).mono ?_
  rintro e w3 ⟨rfl, hb3⟩
  have F3 := Lib.hid (F2.step hb3).drew
  have R3 := Lib.hid ((R2.keep hb3).keep (Fr.refl w3).drew.1)
  have X3 := (X2.keep hb3)
  have B3 := Lib.hid ((B2.keep hb3).keep (Fr.refl w3).drew.1)
  clear c0 c1 c2 c3 c4 c5 F2 R2 X2 B2 hb3
  go_wp2_with fail
  go_region_held3 (fun w' => BX w.heap.size c (64 * L) cap kd addr n v a len bcap w' ∧ w'.cell? ⟨w.heap.size, 0, none⟩ = some (.slice (some ⟨c, 0, none⟩) (64 * L) cap) ∧ w'.cell? ⟨w.heap.size + 1, 0, none⟩ = some (.int .i64 kd) ∧ w'.cell? ⟨w.heap.size + 1, 1, none⟩ = some (.int .u64 (addr : Int)) ∧ w'.cell? ⟨w.heap.size + 1, 2, none⟩ = some (.int .i64 n) ∧ w'.cell? ⟨w.heap.size + 1, 3, none⟩ = some (.int .u64 (v : Int)) ∧ w'.cell? ⟨w.heap.size + 1, 4, none⟩ = some (.slice a len bcap))
    (first | exact B3.out.cells | exact (B3.out.keep HB).cells)
    (first
      | (go_at_call 29; refine (ramhas_v HP.out _ HA.out HN.out hL R3.out).mono ?_; rintro e wa ⟨rfl, rfl⟩)
      | (go_at_call 56; refine (rhas_v rfl HP.out _ HA.out HN.out hL).mono ?_; rintro e wb ⟨rfl, HB⟩))
  all_goals
    have E := Lib.hid (F3.out.step HB)
    clear HB
    cases p
    all_goals
      go_wp2
      go_ret
      exact ⟨rfl, E.out.1⟩
theorem rg_at {w : World} {b : Nat} {cs : Array Value} {t : TypeId} (h : w.heap[b]? = some (.cells cs t)) : w.rangeAt b 0 cs.toList := by
  intro j v hv
  rw [Nat.zero_add, cell_at h]
  simpa using hv
theorem RamAt.alloc {w : World} {b m n L : Nat} {g : Nat → Nat → Nat} (h : RamAt w b m n L g) (o : Obj) : RamAt (w.alloc o) b m n L g := h.keep ((Below.refl _ w).alloc (Nat.le_refl _) o)
set_option maxRecDepth 100000 in
set_option maxHeartbeats 8000000 in
theorem do_set (b m k L c cap addr v len bcap : Nat) (n : Int) (a : Option Addr) (g : Nat → Nat → Nat) (bs : Nat → Nat) (w : World) (okg : ∀ i, OkL (g i)) (ha : addr < 18446744073709551616) (hv : v < 18446744073709551616) (hn1 : n ≤ 9223372036854775807) (hL : L ≤ 4096) (hk : k < 1000000)
    (hl5 : len ≤ 500) (hcp : len ≤ bcap) (hb : Bytes w a len bs) (hb8 : ∀ i, i < len → bs i < 256) (hnm : 0 < len → ∀ ad, a = some ad → ad.block ≠ m) (hnc : 0 < len → ∀ ad, a = some ad → ad.block ≠ c)
    (hR : RamAt w b m k L g) (hX : XB w c (64 * L) (fl g)) (hmc : m ≠ c) (hbc : b ≠ c) :
    Calls Try.prog 33 #[.pointer (some ⟨b, 0, none⟩), .agg #[.slice (some ⟨c, 0, none⟩) (64 * L) cap], .agg #[.int .i64 2, .int .u64 (addr : Int), .int .i64 n, .int .u64 (v : Int), .slice a len bcap]] w fun e w' => e = .returned (.bool true) ∧ RamAt w' b m (k + 1) L (setR g L n (ofL bs len)).1 ∧ XB w' c (64 * L) (fl (setR g L n (ofL bs len)).1) ∧ Wr2 m c w w' := by
  obtain ⟨g', q, hg⟩ : ∃ g' q, setR g L n (ofL bs len) = (g', q) := ⟨_, _, rfl⟩
  rw [hg]
  show Calls _ _ _ _ fun e w' => e = .returned (.bool true) ∧ RamAt w' b m (k + 1) L g' ∧ XB w' c (64 * L) (fl g') ∧ Wr2 m c w w'
  have HG := Lib.hid hg
  have HA := Lib.hid ha
  have HV := Lib.hid hv
  have HN := Lib.hid hn1
  have OKG := Lib.hid okg
  have hml : m < w.heap.size := hR.2.lt
  have hcl : c < w.heap.size := hX.1
  have hbl : b < w.heap.size := lt_of_at hR.1
  have F0 := ((Fr.refl w).alloc (.cells #[.slice (some ⟨c, 0, none⟩) (64 * L) cap] 66)).alloc (.cells #[.int .i64 2, .int .u64 (addr : Int), .int .i64 n, .int .u64 (v : Int), .slice a len bcap] 63)
  have B0 := bx_new w c (64 * L) cap 2 addr n v a len bcap
  obtain ⟨w1, hw1⟩ : ∃ w1, (w.alloc (.cells #[.slice (some ⟨c, 0, none⟩) (64 * L) cap] 66)).alloc (.cells #[.int .i64 2, .int .u64 (addr : Int), .int .i64 n, .int .u64 (v : Int), .slice a len bcap] 63) = w1 := ⟨_, rfl⟩
  rw [hw1] at F0 B0
  have R0 := hR.keep F0.1
  have X0 := hX.keep F0.1
  have Y0 := hb.keep F0.1
  have OKF : Hid (OkL (ofL bs len)) := by
    show ∀ i, ofL bs len i < 256
    intro i; unfold ofL; split
    · rename_i h; exact hb8 i h.1
    · omega
  obtain ⟨f, hf⟩ : ∃ f, ofL bs len = f := ⟨_, rfl⟩
  rw [hf] at HG OKF
  have HF := Lib.hid hf
  obtain ⟨-, c0, c1, c2, c3, c4, c5⟩ := B0.cells
  have n1 : w.heap.size ≠ m := by omega
  have n2 : w.heap.size + 1 ≠ m := by omega
  have n3 : w.heap.size ≠ c := by omega
  have n4 : w.heap.size + 1 ≠ c := by omega
  have l3 := size_cellsL
  have sn := stnLL
  clear hg ha hv hn1 okg hR hX hb hb8 hnm hnc hf
  go_enter Try.func33, Try.ntmps33
  go_wp2_with fail
  clear hw1
  refine (lof_v HF.out _ Y0).mono ?_
  rintro e w2 ⟨rfl, hb2⟩
  have ky := heap_alloc_new w2 (.cells (cellsL f) 26)
  have F3 := (F0.step hb2).alloc (.cells (cellsL f) 26)
  have hB2 : w.heap.size ≤ w2.heap.size := (F0.step hb2).2
  have R3 := (R0.keep hb2).alloc (.cells (cellsL f) 26)
  have X3 := (X0.keep hb2).alloc (.cells (cellsL f) 26)
  have B3 := (B0.keep hb2).keep ((Fr.refl w2).alloc (.cells (cellsL f) 26)).1
  clear c0 c1 c2 c3 c4 c5 R0 X0 Y0 B0 F0 hb2
  go_wp2_with fail
  obtain ⟨w3, hw3⟩ : ∃ w3, w2.alloc (.cells (cellsL f) 26) = w3 := ⟨_, rfl⟩
  obtain ⟨B, hB⟩ : ∃ B, w2.heap.size = B := ⟨_, rfl⟩
  rw [hw3] at ky F3 R3 X3 B3 ⊢
  rw [hB] at ky hB2 ⊢
  have R0 := Lib.hid (R3.keep (Fr.refl w3).drew.1)
  have X0 := Lib.hid (X3.keep (Fr.refl w3).drew.1)
  have BB := B3.keep (Fr.refl w3).drew.1
  have B2 := Lib.hid BB
  have KY : Hid (w3.drew.heap[B]? = some (.cells (cellsL f) 26)) := ky
  have W0 := Lib.hid ((Wr2.refl m c w).below F3.drew.1)
  have n5 : B ≠ m := by omega
  have n6 : B ≠ c := by omega
  have hu := Try.underlying26
  have hlen : (cellsL f).toList.length = 64 := by rw [Array.length_toList, size_cellsL']
  have hi : (Try.prog.info? 26).map (·.size) = some (cellsL f).toList.length := by rw [hlen]; exact infoLL
  have hone : ∀ v ∈ (cellsL f).toList, v.oneCell' = true := fun v hv => (Array.all_eq_true_iff_forall_mem.1 (one_cellsL f)) v (by simpa using hv)
  clear hw3 hB ky F3 R3 X3 B3 BB sn
  refine wp_region_held_drew (S := (fun w' => w'.heap[B]? = some (.cells (cellsL f) 26) ∧ BX w.heap.size c (64 * L) cap 2 addr n v a len bcap w' ∧ w'.cell? ⟨w.heap.size, 0, none⟩ = some (.slice (some ⟨c, 0, none⟩) (64 * L) cap) ∧ w'.cell? ⟨w.heap.size + 1, 0, none⟩ = some (.int .i64 2) ∧ w'.cell? ⟨w.heap.size + 1, 1, none⟩ = some (.int .u64 (addr : Int)) ∧ w'.cell? ⟨w.heap.size + 1, 2, none⟩ = some (.int .i64 n) ∧ w'.cell? ⟨w.heap.size + 1, 3, none⟩ = some (.int .u64 (v : Int)) ∧ w'.cell? ⟨w.heap.size + 1, 4, none⟩ = some (.slice a len bcap))) (by kernel_rfl) ?_ (fun hHeld => ?_)
  · exact ⟨KY.out, B2.out.cells⟩
  refine wpAnyH_take (i := 0) (oi := { dst := some 53, op := Op.move (Operand.tmp 0), type := 50, pos := "law.go:65", after := _, guard := none }) (v := ?_) rfl (by kernel_rfl) (by kernel_rfl) (by kernel_rfl) (fun _ _ _ h => h) (Or.inl ⟨by rfl, ?_⟩) (by assumption) ?_
  rotate_left
  · intro w' hSw
    try dsimp only at hSw
    go_simp
    try with_reducible rfl
  try simp only [Act.put, List.setIfInBounds_toArray, List.set_cons_zero, List.set_cons_succ]
  refine wpAnyH_take (i := 1) (oi := { dst := some 54, op := Op.fieldAddr 63 (Operand.tmp 5) 2, type := 0, pos := "law.go:65", after := _, guard := none }) (v := ?_) rfl (by kernel_rfl) (by kernel_rfl) (by kernel_rfl) (fun _ _ _ h => h) (Or.inl ⟨by rfl, ?_⟩) (by assumption) ?_
  rotate_left
  · intro w' hSw
    try dsimp only at hSw
    go_simp
    try with_reducible rfl
  try simp only [Act.put, List.setIfInBounds_toArray, List.set_cons_zero, List.set_cons_succ]
  refine wpAnyH_take (i := 2) (oi := { dst := some 55, op := Op.load 3 (Operand.tmp 54), type := 3, pos := "law.go:65", after := _, guard := none }) (v := ?_) rfl (by kernel_rfl) (by kernel_rfl) (by kernel_rfl) (fun _ _ _ h => h) (Or.inl ⟨by rfl, ?_⟩) (by assumption) ?_
  rotate_left
  · intro w' hSw
    try dsimp only at hSw
    obtain ⟨-, -, x0, x1, x2, x3, x4, x5⟩ := hSw
    go_simp
    try with_reducible rfl
  try simp only [Act.put, List.setIfInBounds_toArray, List.set_cons_zero, List.set_cons_succ]
  refine wpAnyH_take (i := 3) (oi := { dst := some 56, op := Op.load 26 (Operand.tmp 7), type := 26, pos := "law.go:65", after := _, guard := none }) (v := .agg (cellsL (f))) rfl (by kernel_rfl) (by kernel_rfl) (by kernel_rfl) (fun _ _ _ h => h) (yields_row (g := f) (by rfl) _ _ rfl _ rfl (fun w' hSw => by (try dsimp only at hSw); exact hSw.1) hu rfl infoLL) (by assumption) ?_
  try simp only [Act.put, List.setIfInBounds_toArray, List.set_cons_zero, List.set_cons_succ]
  refine wpAnyH_take (i := 5) (oi := { dst := some 58, op := Op.load 66 (Operand.tmp 4), type := 66, pos := "law.go:65", after := _, guard := none }) (v := ?_) rfl (by kernel_rfl) (by kernel_rfl) (by kernel_rfl) (fun _ _ _ h => h) (Or.inl ⟨by rfl, ?_⟩) (by assumption) ?_
  rotate_left
  · intro w' hSw
    try dsimp only at hSw
    obtain ⟨-, -, x0, x1, x2, x3, x4, x5⟩ := hSw
    go_simp
    try with_reducible rfl
  try simp only [Act.put, List.setIfInBounds_toArray, List.set_cons_zero, List.set_cons_succ]
  refine wpAnyH_take (i := 6) (oi := { dst := some 59, op := Op.fieldAddr 63 (Operand.tmp 5) 2, type := 0, pos := "law.go:65", after := _, guard := none }) (v := ?_) rfl (by kernel_rfl) (by kernel_rfl) (by kernel_rfl) (fun _ _ _ h => h) (Or.inl ⟨by rfl, ?_⟩) (by assumption) ?_
  rotate_left
  · intro w' hSw
    try dsimp only at hSw
    go_simp
    try with_reducible rfl
  try simp only [Act.put, List.setIfInBounds_toArray, List.set_cons_zero, List.set_cons_succ]
  refine wpAnyH_take (i := 7) (oi := { dst := some 60, op := Op.load 3 (Operand.tmp 59), type := 3, pos := "law.go:65", after := _, guard := none }) (v := ?_) rfl (by kernel_rfl) (by kernel_rfl) (by kernel_rfl) (fun _ _ _ h => h) (Or.inl ⟨by rfl, ?_⟩) (by assumption) ?_
  rotate_left
  · intro w' hSw
    try dsimp only at hSw
    obtain ⟨-, -, x0, x1, x2, x3, x4, x5⟩ := hSw
    go_simp
    try with_reducible rfl
  try simp only [Act.put, List.setIfInBounds_toArray, List.set_cons_zero, List.set_cons_succ]
  refine wpAnyH_take (i := 8) (oi := { dst := some 61, op := Op.load 26 (Operand.tmp 7), type := 26, pos := "law.go:65", after := _, guard := none }) (v := .agg (cellsL (f))) rfl (by kernel_rfl) (by kernel_rfl) (by kernel_rfl) (fun _ _ _ h => h) (yields_row (g := f) (by rfl) _ _ rfl _ rfl (fun w' hSw => by (try dsimp only at hSw); exact hSw.1) hu rfl infoLL) (by assumption) ?_
  try simp only [Act.put, List.setIfInBounds_toArray, List.set_cons_zero, List.set_cons_succ]
  refine wpAnyH_ready (rs := [4]) (by kernel_rfl) (by simp) ?_
  refine AllReadyH.cons (o := { dst := some 57, op := Op.call { callee := Callee.value (Operand.func 39), args := #[Operand.tmp 53, Operand.tmp 55, Operand.tmp 56], argTypes := #[50, 3, 26] }, type := 4, pos := "law.go:65", after := _, guard := none }) rfl (fun K hK => ?_) AllReadyH.nil
  go_simp
  go_at_call 39
  refine (ramset_v HG.out _ OKF.out hL hk R0.out).mono ?_
  rintro e wa ⟨rfl, hRa, WA⟩
  have XA := X0.out.wrote WA (by have := R0.out.2.lt; omega) (fun e => hmc e.symm)
  try go_wp2_with fail
  refine hK.out _ _ ?_ (fun hHeld2 => ?_)
  · (try dsimp only)
    exact ⟨WA.2 _ _ n5 KY.out, (BX.wrote WA n1 n2 B2.out).cells⟩
  clear hK K hHeld
  have hHeld := hHeld2
  clear hHeld2
  try simp only [Act.put, List.setIfInBounds_toArray, List.set_cons_zero, List.set_cons_succ]
  refine wpAnyH_ready (rs := [9]) (by kernel_rfl) (by simp) ?_
  refine AllReadyH.cons (o := { dst := some 62, op := Op.call { callee := Callee.value (Operand.func 54), args := #[Operand.tmp 58, Operand.tmp 60, Operand.tmp 61], argTypes := #[66, 3, 25] }, type := 4, pos := "law.go:65", after := _, guard := none }) rfl (fun K hK => ?_) AllReadyH.nil
  go_simp
  go_at_call 54
  refine (rset_v HG.out _ hL XA).mono ?_
  rintro e wb ⟨rfl, WB, XB'⟩
  have hRb := hRa.wrote WB hbc hmc
  try go_wp2_with fail
  refine hK.out _ _ ?_ (fun hHeld2 => ?_)
  · (try dsimp only)
    exact ⟨WB.2 _ _ n6 (WA.2 _ _ n5 KY.out), (BX.wrote WB n3 n4 (BX.wrote WA n1 n2 B2.out)).cells⟩
  clear hK K hHeld
  have hHeld := hHeld2
  clear hHeld2
  try simp only [Act.put, List.setIfInBounds_toArray, List.set_cons_zero, List.set_cons_succ]
  refine wpAnyH_take (i := 10) (oi := { dst := some 63, op := Op.binOp BinOp.eql 4 (Operand.tmp 57) (Operand.tmp 62) 4, type := 4, pos := "law.go:65", after := _, guard := none }) (v := ?_) rfl (by kernel_rfl) (by kernel_rfl) (by kernel_rfl) (fun _ _ _ h => h) (Or.inl ⟨by rfl, ?_⟩) (by assumption) ?_
  rotate_left
  · intro w' hSw
    try dsimp only at hSw
    go_simp
    try with_reducible rfl
  try simp only [Act.put, List.setIfInBounds_toArray, List.set_cons_zero, List.set_cons_succ]
  refine wpAnyH_take (i := 11) (oi := { dst := some 6, op := Op.assign (Operand.tmp 63), type := 4, pos := "law.go:65", after := _, guard := none }) (v := ?_) rfl (by kernel_rfl) (by kernel_rfl) (by kernel_rfl) (fun _ _ _ h => h) (Or.inl ⟨by rfl, ?_⟩) (by assumption) ?_
  rotate_left
  · intro w' hSw
    try dsimp only at hSw
    go_simp
    try with_reducible rfl
  try simp only [Act.put, List.setIfInBounds_toArray, List.set_cons_zero, List.set_cons_succ]
  refine wpAnyH_done (by kernel_rfl) ?_ _
  have E := Lib.hid (And.intro hRb (And.intro XB' ((W0.out.left WA).right WB)))
  clear hRb XB' WA WB hRa XA hHeld
  cases q
  all_goals
    go_wp2
    go_ret
    exact ⟨rfl, E.out⟩
end Go.Proofs.Ytbboaekfhdeolaa
