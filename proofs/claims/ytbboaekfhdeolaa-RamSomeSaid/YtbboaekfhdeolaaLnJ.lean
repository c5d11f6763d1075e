/- Lines: Blend and Diff of both. -/
import Derived.Test.YtbboaekfhdeolaaLnH
import Derived.BigQuiet
namespace Go.Proofs.Ytbboaekfhdeolaa
open Go.RowKit
set_option linter.unusedSimpArgs false
set_option linter.unusedVariables false
attribute [local simp high] sizeLL zeroLL sizeLR zeroLR

theorem bit_test1 (x k : Nat) (hx : x < 18446744073709551616) : (bits BinOp.and IntKind.u64 ((x : Int) / 2 ^ k) 1 == 1) = x.testBit k := by
  have h := u64_and_nat (x / 2 ^ k) 1 (Nat.lt_of_le_of_lt (Nat.div_le_self _ _) hx) (by omega)
  have e : ((x : Int) / 2 ^ k) = ((x / 2 ^ k : Nat) : Int) := by simp
  rw [e]
  show (bits BinOp.and IntKind.u64 ((x / 2 ^ k : Nat) : Int) ((1 : Nat) : Int) == 1) = _
  rw [h, Nat.and_one_is_mod, Nat.testBit_eq_decide_div_mod_eq]
  generalize x / 2 ^ k % 2 = y
  rw [Bool.eq_iff_iff]
  simp
  omega
theorem bitv (x k : Nat) (hx : x < 18446744073709551616) (hk : k < 64) : bitN x (k : Int) = (x.testBit k).toNat := by
  rw [bitN_big x hx k (by omega), Int.toNat_natCast]
theorem blendL_zero (g h : Nat → Nat) (x : Nat) : blendL g h x 0 = g := by
  funext i; unfold blendL; rw [if_neg (by omega)]
theorem blendL_yes (g h : Nat → Nat) (x k : Nat) (hb : x.testBit k = true) : updL (blendL g h x k) k (h k) = blendL g h x (k + 1) := by
  funext j
  unfold updL blendL
  by_cases e : j = k
  · subst e; rw [if_pos rfl, if_pos ⟨by omega, hb⟩]
  · rw [if_neg e]
    by_cases h2 : j < k ∧ x.testBit j = true
    · rw [if_pos h2, if_pos ⟨by omega, h2.2⟩]
    · rw [if_neg h2, if_neg (fun h3 => h2 ⟨by omega, h3.2⟩)]
theorem blendL_no (g h : Nat → Nat) (x k : Nat) (hb : x.testBit k = false) : blendL g h x k = blendL g h x (k + 1) := by
  funext j
  unfold blendL
  by_cases h2 : j < k ∧ x.testBit j = true
  · rw [if_pos h2, if_pos ⟨by omega, h2.2⟩]
  · rw [if_neg h2, if_neg]
    rintro ⟨h3, h4⟩
    by_cases e : j = k
    · subst e; rw [hb] at h4; cases h4
    · exact h2 ⟨by omega, h4⟩
def diffB (g h : Nat → Nat) (i : Nat) : Bool := !decide (g i = h i)
theorem diffB_yes {g h : Nat → Nat} {k : Nat} (hd : diffB g h k = true) : g k ≠ h k := by unfold diffB at hd; simpa using hd
theorem diffB_no {g h : Nat → Nat} {k : Nat} (hd : diffB g h k = false) : g k = h k := by unfold diffB at hd; simpa using hd
def diffV (g h : Nat → Nat) : Nat := W64 (diffB g h)
set_option maxRecDepth 100000 in
set_option maxHeartbeats 2000000 in
theorem lblend_any (g h : Nat → Nat) (x : Nat) (w : World) (hx : x < 18446744073709551616) :
    Calls Try.prog 17 #[.agg (cellsL g), .agg (cellsL h), .int .u64 (x : Int)] w fun e w' => e = .returned (.agg (cellsL (blendL g h x 64))) ∧ Below w.heap.size w w' := by
  have l3 := size_cellsL
  go_enter Try.func17, Try.ntmps17
  go_wp2
  obtain ⟨w1, hw1⟩ : ∃ w1, w1 = ((w.alloc (.cells (cellsL g) 26)).alloc (.cells (cellsL h) 26)).alloc (.cells (cellsL fun _ => 0) 26) := ⟨_, rfl⟩
  have F0 : Fr w.heap.size w w1 := by rw [hw1]; exact (((Fr.refl w).alloc _).alloc _).alloc _
  have k0 : w1.heap[w.heap.size]? = some (.cells (cellsL (blendL g h x 0)) 26) := by rw [hw1, blendL_zero]; exact keep_alloc (keep_alloc (heap_alloc_new _ _) _) _
  have o0 : w1.heap[w.heap.size + 1]? = some (.cells (cellsL h) 26) := by rw [hw1]; exact keep_alloc (by simpa using heap_alloc_new (w.alloc (.cells (cellsL g) 26)) (.cells (cellsL h) 26)) _
  have r0 : w1.heap[w.heap.size + 2]? = some (.cells (cellsL fun _ => 0) 26) := by rw [hw1]; simpa using heap_alloc_new ((w.alloc (.cells (cellsL g) 26)).alloc (.cells (cellsL h) 26)) (.cells (cellsL fun _ => 0) 26)
  rw [← hw1]
  clear hw1
  go_loopw [8] (fun i wr => ∃ k : Nat, k ≤ 64 ∧ i = .int .i64 (k : Int) ∧ Fr w.heap.size w wr ∧ wr.heap[w.heap.size]? = some (.cells (cellsL (blendL g h x k)) 26) ∧ wr.heap[w.heap.size + 1]? = some (.cells (cellsL h) 26) ∧ wr.heap[w.heap.size + 2]? = some (.cells (cellsL fun _ => 0) 26)) (fun i _ => 64 - (intOf i).toNat)
  case atStart => exact ⟨0, by omega, rfl, F0, k0, o0, r0⟩
  case round =>
    clear F0 k0 o0 r0
    obtain ⟨k, hk, rfl, hfr, hr, ho, hr1⟩ := hrel
    by_cases hlt : k < 64
    · have hk8 : (k : Int) < 64 := by omega
      have hk0 : (0 : Int) ≤ k := by omega
      have hk64 : (k : Int) ≤ 64 := by omega
      have hmin : min k 64 = k := by omega
      have hwk : IntKind.u64.wrap (k : Int) = (k : Int) := by rw [IntKind.wrap_u64]; omega
      have co := knownL ho hlt
      have cl := knownL hr hlt
      have hltb := lt_of_at hr
      have hfz : ∀ o, wr.frozen? ⟨w.heap.size, o, none⟩ = false := fun o => by simp [World.frozen?, hr]
      cases hb : x.testBit k with
      | true =>
        have e1 := setL hr hlt (h k)
        rw [blendL_yes g h x k hb] at e1
        have e0 := keep_setCell ho (p := ⟨w.heap.size, k, none⟩) (by simp) (.int .u8 (h k : Int))
        have e2 := keep_setCell hr1 (p := ⟨w.heap.size, k, none⟩) (by simp) (.int .u8 (h k : Int))
        have ef := hfr.setCell (p := ⟨w.heap.size, k, none⟩) (by simp) (.int .u8 (h k : Int))
        have E := Lib.hid (And.intro ef (And.intro e1 (And.intro e0 e2)))
        clear e0 e1 e2 ef hr ho hr1 hfr
        have hbt := bit_test1 x k hx
        rw [hb] at hbt
        go_wp2
        go_roundw
        case rel => exact ⟨k + 1, by omega, by go_num, E.out⟩
        case measure => simp [intOf]; omega
      | false =>
        rw [blendL_no g h x k hb] at hr
        have E := Lib.hid (And.intro hfr (And.intro hr (And.intro ho hr1)))
        clear hr ho hr1 hfr co cl
        have hbt := bit_test1 x k hx
        rw [hb] at hbt
        go_wp2
        go_roundw
        case rel => exact ⟨k + 1, by omega, by go_num, E.out⟩
        case measure => simp [intOf]; omega
    · have e : k = 64 := by omega
      subst e
      have ld := ld_rowL (P := Try.prog) hr
      have st := st_rowL Try.prog hr1 (blendL g h x 64)
      have e0 := row_at hr1 (cellsL (blendL g h x 64))
      have F1 := hfr.row (b := w.heap.size + 2) (by omega) (cellsL (blendL g h x 64))
      go_wp2
      exact bodyPost_ret (v := .agg (cellsL (blendL g h x 64))) (by simp [results, Try.results17, asAddr, lvLL e0, ld_rowL e0, go_sem]) rfl ⟨rfl, F1.1⟩
set_option maxRecDepth 100000 in
set_option maxHeartbeats 2000000 in
theorem rblend_any (g h : Nat → Nat) (x : Nat) (w : World) (hx : x < 18446744073709551616) :
    Calls Try.prog 18 #[.agg (cellsL g), .agg (cellsL h), .int .u64 (x : Int)] w fun e w' => e = .returned (.agg (cellsL (blendL g h x 64))) ∧ Below w.heap.size w w' := by
  have l3 := size_cellsL
  go_enter Try.func18, Try.ntmps18
  go_wp2
  obtain ⟨w1, hw1⟩ : ∃ w1, w1 = ((w.alloc (.cells (cellsL g) 25)).alloc (.cells (cellsL h) 25)).alloc (.cells (cellsL fun _ => 0) 25) := ⟨_, rfl⟩
  have F0 : Fr w.heap.size w w1 := by rw [hw1]; exact (((Fr.refl w).alloc _).alloc _).alloc _
  have k0 : w1.heap[w.heap.size]? = some (.cells (cellsL (blendL g h x 0)) 25) := by rw [hw1, blendL_zero]; exact keep_alloc (keep_alloc (heap_alloc_new _ _) _) _
  have o0 : w1.heap[w.heap.size + 1]? = some (.cells (cellsL h) 25) := by rw [hw1]; exact keep_alloc (by simpa using heap_alloc_new (w.alloc (.cells (cellsL g) 25)) (.cells (cellsL h) 25)) _
  have r0 : w1.heap[w.heap.size + 2]? = some (.cells (cellsL fun _ => 0) 25) := by rw [hw1]; simpa using heap_alloc_new ((w.alloc (.cells (cellsL g) 25)).alloc (.cells (cellsL h) 25)) (.cells (cellsL fun _ => 0) 25)
  rw [← hw1]
  clear hw1
  go_loopw [7] (fun i wr => ∃ k : Nat, k ≤ 64 ∧ i = .int .i64 (k : Int) ∧ Fr w.heap.size w wr ∧ wr.heap[w.heap.size]? = some (.cells (cellsL (blendL g h x k)) 25) ∧ wr.heap[w.heap.size + 1]? = some (.cells (cellsL h) 25) ∧ wr.heap[w.heap.size + 2]? = some (.cells (cellsL fun _ => 0) 25)) (fun i _ => 64 - (intOf i).toNat)
  case atStart => exact ⟨0, by omega, rfl, F0, k0, o0, r0⟩
  case round =>
    clear F0 k0 o0 r0
    obtain ⟨k, hk, rfl, hfr, hr, ho, hr1⟩ := hrel
    by_cases hlt : k < 64
    · have hk8 : (k : Int) < 64 := by omega
      have hk0 : (0 : Int) ≤ k := by omega
      have hk64 : (k : Int) ≤ 64 := by omega
      have hmin : min k 64 = k := by omega
      have hwk : IntKind.u64.wrap (k : Int) = (k : Int) := by rw [IntKind.wrap_u64]; omega
      have co := knownL ho hlt
      have cl := knownL hr hlt
      have hltb := lt_of_at hr
      have hfz : ∀ o, wr.frozen? ⟨w.heap.size, o, none⟩ = false := fun o => by simp [World.frozen?, hr]
      cases hb : x.testBit k with
      | true =>
        have e1 := setL hr hlt (h k)
        rw [blendL_yes g h x k hb] at e1
        have e0 := keep_setCell ho (p := ⟨w.heap.size, k, none⟩) (by simp) (.int .u8 (h k : Int))
        have e2 := keep_setCell hr1 (p := ⟨w.heap.size, k, none⟩) (by simp) (.int .u8 (h k : Int))
        have ef := hfr.setCell (p := ⟨w.heap.size, k, none⟩) (by simp) (.int .u8 (h k : Int))
        have E := Lib.hid (And.intro ef (And.intro e1 (And.intro e0 e2)))
        clear e0 e1 e2 ef hr ho hr1 hfr
        have hbn : bitN x (k : Int) = 1 := by rw [bitv x k hx hlt, hb]; rfl
        have HBN := Lib.hid hbn
        clear hbn
        go_wp2_with fail
        refine (bit_v HBN.out _ hx).mono ?_
        rintro e w2 ⟨rfl, rfl⟩
        go_wp2
        go_roundw
        case rel => exact ⟨k + 1, by omega, by go_num, E.out⟩
        case measure => simp [intOf]; omega
      | false =>
        rw [blendL_no g h x k hb] at hr
        have E := Lib.hid (And.intro hfr (And.intro hr (And.intro ho hr1)))
        clear hr ho hr1 hfr co cl
        have hbn : bitN x (k : Int) = 0 := by rw [bitv x k hx hlt, hb]; rfl
        have HBN := Lib.hid hbn
        clear hbn
        go_wp2_with fail
        refine (bit_v HBN.out _ hx).mono ?_
        rintro e w2 ⟨rfl, rfl⟩
        go_wp2
        go_roundw
        case rel => exact ⟨k + 1, by omega, by go_num, E.out⟩
        case measure => simp [intOf]; omega
    · have e : k = 64 := by omega
      subst e
      have ld := ld_rowL (P := Try.prog) hr
      have st := st_rowL Try.prog hr1 (blendL g h x 64)
      have e0 := row_at hr1 (cellsL (blendL g h x 64))
      have F1 := hfr.row (b := w.heap.size + 2) (by omega) (cellsL (blendL g h x 64))
      go_wp2
      exact bodyPost_ret (v := .agg (cellsL (blendL g h x 64))) (by simp [results, Try.results18, asAddr, lvLR e0, ld_rowL e0, go_sem]) rfl ⟨rfl, F1.1⟩
set_option maxRecDepth 100000 in
set_option maxHeartbeats 2000000 in
theorem rdiff_any (g h : Nat → Nat) (w : World) (okg : OkL g) (okh : OkL h) :
    Calls Try.prog 20 #[.agg (cellsL g), .agg (cellsL h)] w fun e w' => e = .returned (.int .u64 (diffV g h : Int)) ∧ Below w.heap.size w w' := by
  obtain ⟨i0, hi, hz0, hz1, hz2⟩ := info_parts info_u64
  have l3 := size_cellsL
  go_enter Try.func20, Try.ntmps20
  go_wp2
  obtain ⟨w1, hw1⟩ : ∃ w1, w1 = (w.alloc (.cells (cellsL g) 25)).alloc (.cells (cellsL h) 25) := ⟨_, rfl⟩
  have F0 : Fr (w.heap.size + 2) w1 w1 := by
    have e : w1.heap.size = w.heap.size + 2 := by rw [hw1]; simp
    rw [← e]; exact Fr.refl w1
  have FW : Fr w.heap.size w w1 := by rw [hw1]; exact ((Fr.refl w).alloc _).alloc _
  have k0 : w1.heap[w.heap.size]? = some (.cells (cellsL g) 25) := by rw [hw1]; exact keep_alloc (heap_alloc_new _ _) _
  have o0 : w1.heap[w.heap.size + 1]? = some (.cells (cellsL h) 25) := by rw [hw1]; simpa using heap_alloc_new (w.alloc (.cells (cellsL g) 25)) (.cells (cellsL h) 25)
  rw [← hw1]
  clear hw1
  go_loopw [5, 6] (fun v i wr => ∃ k : Nat, k ≤ 64 ∧ i = .int .i64 k ∧ wr.ownsRow (w.heap.size + 2) 24 1 v k ((List.range k).map fun j => Value.int .u64 ((diffB g h j).toNat : Nat)) ∧ Fr (w.heap.size + 2) w1 wr) (fun _ i _ => 64 - (intOf i).toNat)
  case atStart => exact ⟨0, by omega, rfl, World.ownsRow_nil _ _ _ _, F0⟩
  case round =>
    clear F0
    obtain ⟨k, hk, rfl, hown, hfr⟩ := hrel
    by_cases hlt : k < 64
    · have hk8 : (k : Int) < 64 := by omega
      have hk0 : (0 : Int) ≤ k := by omega
      have hr := heapAt hfr.1 k0 (by omega)
      have ho := heapAt hfr.1 o0 (by omega)
      have cl := knownL hr hlt
      have co := knownL ho hlt
      have HP := @own_push (diffB g h) k
      cases hd : diffB g h k
      · rw [hd] at HP
        have HHP : Hid (((List.range (k + 1)).map fun j => Value.int .u64 ((diffB g h j).toNat : Nat)) = ((List.range k).map fun j => Value.int .u64 ((diffB g h j).toNat : Nat)) ++ [Value.int .u64 0]) := HP
        have he : ((g k : Int) == (h k : Int)) = true := by have := diffB_no hd; rw [this]; simp
        clear HP hd hr ho
        go_wp2_with fail
        go_quiet (fail)
        have hown := hown
        go_wp2_with (first
          | (at_builtin; refine wpList_append_own _ rfl _ _ 84 rfl (w.heap.size + 2) 24 i0 (.int .u64 0) 1 8 Try.underlying84 hi hz0 hz1 hz2 rfl (by decide) _ _ _ rfl (World.ownsRow.alloc (w := wr.drewN _) hown _) ⟨wr.heap.size, 0, none⟩ 1 1 [.int .u64 0] rfl rfl (one_new _ _ _) (one_cell _) (by unfold maxLen; omega) (by omega) (by have := hfr.2; simp; omega) ?_; intro v' w2 hown1 hgrow1 _; rw [← HHP.out] at hown1; have hfr1 := Fr.grown ((hfr.drewN _).alloc _) hgrow1 (own_ge hown)))
        go_roundw
        case rel => exact ⟨k + 1, by omega, by go_num, hown1, hfr1⟩
        case measure => simp [intOf]; omega
      · rw [hd] at HP
        have HHP : Hid (((List.range (k + 1)).map fun j => Value.int .u64 ((diffB g h j).toNat : Nat)) = ((List.range k).map fun j => Value.int .u64 ((diffB g h j).toNat : Nat)) ++ [Value.int .u64 1]) := HP
        have he : ((g k : Int) == (h k : Int)) = false := by have := diffB_yes hd; simp; omega
        clear HP hd hr ho
        go_wp2_with fail
        go_quiet (fail)
        go_wp2_with (first
          | (at_builtin; refine wpList_append_own _ rfl _ _ 84 rfl (w.heap.size + 2) 24 i0 (.int .u64 0) 1 8 Try.underlying84 hi hz0 hz1 hz2 rfl (by decide) _ _ _ rfl (World.ownsRow.alloc (w := wr.drewN _) hown _) ⟨wr.heap.size, 0, none⟩ 1 1 [.int .u64 1] rfl rfl (one_new _ _ _) (one_cell _) (by unfold maxLen; omega) (by omega) (by have := hfr.2; simp; omega) ?_; intro v' w2 hown1 hgrow1 _; rw [← HHP.out] at hown1; have hfr1 := Fr.grown ((hfr.drewN _).alloc _) hgrow1 (own_ge hown)))
        go_roundw
        case rel => exact ⟨k + 1, by omega, by go_num, hown1, hfr1⟩
        case measure => simp [intOf]; omega
    · obtain rfl : k = 64 := by omega
      obtain ⟨gg, cap, rfl, hg, hcells⟩ := own_cells hown (by omega)
      have hc : ∀ k, k < 64 → wr.cell? ⟨gg, k, none⟩ = some (.int .u64 (((diffV g h).testBit k).toNat : Nat)) := fun k hk => by
        rw [hcells k hk]
        unfold diffV
        rw [W64_bit]
        simp [hk]
      have hc' := Lib.hid hc
      have FE := Lib.hid (FW.1.trans (hfr.1.mono (by omega)))
      clear hc hcells
      go_wp2_with fail
      refine (of_any _ (W64_lt _) gg cap _ hc'.out).mono ?_
      rintro e w' ⟨rfl, rfl⟩
      go_wp2
      go_ret
      exact ⟨rfl, FE.out⟩
theorem or_bit (f : Nat → Bool) (k : Nat) (hk : k < 64) (hf : f k = true) : bits BinOp.or IntKind.u64 (mkW f k : Int) ((2 : Int) ^ k) = (mkW f (k + 1) : Int) := by
  have hl := mkW_lt f k
  have h2 : (2 : Nat) ^ k < 18446744073709551616 := by
    have := Nat.pow_lt_pow_right (show 1 < 2 by omega) hk
    simpa using this
  have h := u64_or_nat (mkW f k) (2 ^ k) (by omega) h2
  have e : ((2 ^ k : Nat) : Int) = (2 : Int) ^ k := by simp
  rw [e] at h
  rw [h, mkW, hf]
  have h3 := Nat.shiftLeft_add_eq_or_of_lt hl 1
  rw [Nat.shiftLeft_eq, Nat.one_mul] at h3
  rw [Nat.or_comm, ← h3]
  show _ = ((mkW f k + 1 * 2 ^ k : Nat) : Int)
  rw [Nat.one_mul, Nat.add_comm]
theorem mkW_no (f : Nat → Bool) (k : Nat) (hf : f k = false) : mkW f (k + 1) = mkW f k := by
  rw [mkW, hf]; simp
theorem diffV_zero {g h : Nat → Nat} (e : ∀ i, i < 64 → g i = h i) : diffV g h = 0 := by
  refine (W64_eq (by omega) fun i hi => ?_).symm
  rw [Nat.zero_testBit]
  unfold diffB
  simp [e i hi]
set_option maxRecDepth 100000 in
set_option maxHeartbeats 2000000 in
theorem ldiff_any (g h : Nat → Nat) (w : World) (okg : OkL g) (okh : OkL h) :
    Calls Try.prog 19 #[.agg (cellsL g), .agg (cellsL h)] w fun e w' => e = .returned (.int .u64 (diffV g h : Int)) ∧ Below w.heap.size w w' := by
  have l3 := size_cellsL
  have k0 := keep_alloc (heap_alloc_new w (.cells (cellsL g) 26)) (.cells (cellsL h) 26)
  have o0 : ((w.alloc (.cells (cellsL g) 26)).alloc (.cells (cellsL h) 26)).heap[w.heap.size + 1]? = some (.cells (cellsL h) 26) := by simpa using heap_alloc_new (w.alloc (.cells (cellsL g) 26)) (.cells (cellsL h) 26)
  have F0 := ((Fr.refl w).alloc (.cells (cellsL g) 26)).alloc (.cells (cellsL h) 26)
  have ld1 := ld_rowL (P := Try.prog) k0
  have ld2 := ld_rowL (P := Try.prog) o0
  obtain ⟨r, hr, hri⟩ := eqLL g h okg okh ((w.alloc (.cells (cellsL g) 26)).alloc (.cells (cellsL h) 26))
  cases r with
  | true =>
    have HZ := Lib.hid (diffV_zero (hri.1 rfl))
    clear hri
    go_enter Try.func19, Try.ntmps19
    go_wp2
    go_ret
    exact ⟨by rw [HZ.out] <;> rfl, F0.1⟩
  | false =>
    clear hri
    go_enter Try.func19, Try.ntmps19
    go_wp2
    obtain ⟨w1, hw1⟩ : ∃ w1, ((w.alloc (.cells (cellsL g) 26)).alloc (.cells (cellsL h) 26)) = w1 := ⟨_, rfl⟩
    rw [hw1] at k0 o0 F0 ⊢
    clear ld1 ld2 hr hw1
    go_loopw [5, 10] (fun v i wr => ∃ k : Nat, k ≤ 64 ∧ i = .int .i64 k ∧ v = .int .u64 (mkW (diffB g h) k : Int) ∧ Fr w.heap.size w wr ∧ wr.heap[w.heap.size]? = some (.cells (cellsL g) 26) ∧ wr.heap[w.heap.size + 1]? = some (.cells (cellsL h) 26)) (fun _ i _ => 64 - (intOf i).toNat)
    case atStart => exact ⟨0, by omega, rfl, rfl, F0, k0, o0⟩
    case round =>
      clear F0 k0 o0
      obtain ⟨k, hk, rfl, rfl, hfr, hr, ho⟩ := hrel
      by_cases hlt : k < 64
      · have hk8 : (k : Int) < 64 := by omega
        have hk0 : (0 : Int) ≤ k := by omega
        have hk64 : (k : Int) ≤ 64 := by omega
        have hmin : min k 64 = k := by omega
        have hwk : IntKind.u64.wrap (k : Int) = (k : Int) := by rw [IntKind.wrap_u64]; omega
        have cl := knownL hr hlt
        have co := knownL ho hlt
        have hpw : IntKind.u64.wrap ((2 : Int) ^ k) = (2 : Int) ^ k := by
          have h2 : (2 : Nat) ^ k < 18446744073709551616 := by
            have := Nat.pow_lt_pow_right (show 1 < 2 by omega) hlt
            simpa using this
          have e : ((2 ^ k : Nat) : Int) = (2 : Int) ^ k := by simp
          obtain ⟨m, hm⟩ : ∃ m, 2 ^ k = m := ⟨_, rfl⟩
          rw [hm] at h2 e
          rw [IntKind.wrap_u64, ← e]; omega
        cases hd : diffB g h k with
        | true =>
          have hor := or_bit (diffB g h) k hlt hd
          have he : ((g k : Int) != (h k : Int)) = true := by have := diffB_yes hd; simp; omega
          obtain ⟨z, hz⟩ : ∃ z, mkW (diffB g h) k = z := ⟨_, rfl⟩
          obtain ⟨z2, hz2⟩ : ∃ z, mkW (diffB g h) (k + 1) = z := ⟨_, rfl⟩
          rw [hz, hz2] at hor
          rw [hz]
          have HZ2 := Lib.hid hz2
          have E := Lib.hid (And.intro hfr (And.intro hr ho))
          clear hd hz hz2 hfr hr ho
          go_wp2_with fail
          go_quiet (fail)
          go_wp2
          go_roundw
          case rel => exact ⟨k + 1, by omega, by go_num, by rw [HZ2.out], E.out.1.drewN _, E.out.2⟩
          case measure => simp [intOf]; omega
        | false =>
          have hno := mkW_no (diffB g h) k hd
          have he : ((g k : Int) != (h k : Int)) = false := by have := diffB_no hd; rw [this]; simp
          have HNO := Lib.hid hno
          have E := Lib.hid (And.intro hfr (And.intro hr ho))
          clear hd hno hfr hr ho
          go_wp2_with fail
          go_quiet (fail)
          go_wp2
          go_roundw
          case rel => exact ⟨k + 1, by omega, by go_num, by rw [HNO.out], E.out.1.drewN _, E.out.2⟩
          case measure => simp [intOf]; omega
      · obtain rfl : k = 64 := by omega
        have FE := Lib.hid hfr.1
        clear hfr hr ho
        go_wp2
        go_ret
        exact ⟨rfl, FE.out⟩
end Go.Proofs.Ytbboaekfhdeolaa
