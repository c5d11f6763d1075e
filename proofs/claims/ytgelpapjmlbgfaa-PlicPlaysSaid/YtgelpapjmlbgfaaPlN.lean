/- The document's Read of the plic. -/
import Derived.Test.YtgelpapjmlbgfaaPlM
import Derived.Test.YtgelpapjmlbgfaaPlF
import Derived.Deep.RegionWith
import Derived.StillTailTactics
namespace Go.Proofs.Ytgelpapjmlbgfaa
open Go.RowKit
set_option linter.unusedSimpArgs false
set_option linter.unusedVariables false
attribute [local simp high] zeroPv sizePv zeroDv sizeDv

theorem szB_ne : szB ≠ 0 := by decide
theorem ld_on' {P : Program} {w : World} {b : Nat} {s : PS} {t : TypeId} (h : w.heap[b]? = some (.cells (cellsD s) t)) {i : Nat} (hi : i < 16) : (loadCellsFrom ⟨b, 129 + i * szB, none⟩ 0 szB #[]).run P w = .ok (cellsB (s.on i)) w := ld_on h hi
theorem hS_step {w w' w0 : World} {B b c : Nat} {o p : Obj} (hb : Below w.heap.size w w') (h : Fr B w0 w ∧ w.heap[b]? = some o ∧ w.heap[c]? = some p) : Fr B w0 w' ∧ w'.heap[b]? = some o ∧ w'.heap[c]? = some p := ⟨h.1.step hb, keepB hb h.2.1, keepB hb h.2.2⟩
set_option maxRecDepth 100000 in
set_option maxHeartbeats 4000000 in
theorem rread_0 (s : PS) (off : Nat) (size : Int) (i : Nat) (w : World) (hoff : off < 18446744073709551616) (ok : OkP s)  (hs : spotP s.n off size = (0, i)) :
    Calls Try.prog 45 #[.agg (cellsD s), .int .u64 (off : Int), .int .i64 size] w fun e w' => e = .returned (.tuple #[.agg (cellsD s), .int .u64 0, .bool false]) ∧ Below w.heap.size w w' := by
  have HS := Lib.hid hs
  clear hs
  have n0 := ok.n0
  have n8 := ok.n8
  have a3 := size_cellsD
  have F0 := ((Fr.refl w).alloc (.cells (cellsD s) 72)).alloc (.cells (cellsD zeroP) 72)
  have h0 := keep_alloc (heap_alloc_new w (.cells (cellsD s) 72)) (.cells (cellsD zeroP) 72)
  have h1 : ((w.alloc (.cells (cellsD s) 72)).alloc (.cells (cellsD zeroP) 72)).heap[w.heap.size + 1]? = some (.cells (cellsD zeroP) 72) := by simpa using heap_alloc_new (w.alloc (.cells (cellsD s) 72)) (.cells (cellsD zeroP) 72)
  have hle : w.heap.size ≤ w.heap.size + 1 := by omega
  have hne : w.heap.size ≠ w.heap.size + 1 := by omega
  obtain ⟨c0, cl, cf⟩ := knownD h0
  go_enter Try.func45, Try.ntmps45
  go_wp2_with fail
  refine (at_v HS.out _ hoff n0 n8).mono ?_
  rintro e w1 ⟨rfl, hw⟩
  rw [hw]
  clear hw w1 c0 cl cf
  obtain ⟨wS, hwS⟩ : ∃ wS, ((w.alloc (.cells (cellsD s) 72)).alloc (.cells (cellsD zeroP) 72)) = wS := ⟨_, rfl⟩
  rw [hwS] at h0 h1 F0 ⊢
  clear hwS
  rw [findW0]
  obtain ⟨c0, cl, cf⟩ := knownD h0
  have ld := ldD (P := Try.prog) h0
  have st := stD Try.prog h1 s
  go_wp2
  refine bodyPost_ret (v := .tuple #[.agg (cellsD s), .int .u64 0, .bool false]) (by simp [results, Try.results45, asAddr, Act.put, lvD (row_at h1 (cellsD s))]) rfl ⟨rfl, (F0.row hle _).1⟩
set_option maxRecDepth 100000 in
set_option maxHeartbeats 4000000 in
theorem rread_1 (s : PS) (off : Nat) (size : Int) (i : Nat) (w : World) (hoff : off < 18446744073709551616) (ok : OkP s) (hi : i < 32) (hs : spotP s.n off size = (1, i)) :
    Calls Try.prog 45 #[.agg (cellsD s), .int .u64 (off : Int), .int .i64 size] w fun e w' => e = .returned (.tuple #[.agg (cellsD s), .int .u64 (s.pr i : Int), .bool true]) ∧ Below w.heap.size w w' := by
  have hx8 := ok.pr i
  obtain ⟨x, hx⟩ : ∃ x, s.pr i = x := ⟨_, rfl⟩
  rw [hx] at hx8 ⊢
  have HX := Lib.hid hx
  clear hx
  have HS := Lib.hid hs
  clear hs
  have n0 := ok.n0
  have n8 := ok.n8
  have a3 := size_cellsD
  have F0 := ((Fr.refl w).alloc (.cells (cellsD s) 72)).alloc (.cells (cellsD zeroP) 72)
  have h0 := keep_alloc (heap_alloc_new w (.cells (cellsD s) 72)) (.cells (cellsD zeroP) 72)
  have h1 : ((w.alloc (.cells (cellsD s) 72)).alloc (.cells (cellsD zeroP) 72)).heap[w.heap.size + 1]? = some (.cells (cellsD zeroP) 72) := by simpa using heap_alloc_new (w.alloc (.cells (cellsD s) 72)) (.cells (cellsD zeroP) 72)
  have hle : w.heap.size ≤ w.heap.size + 1 := by omega
  have hne : w.heap.size ≠ w.heap.size + 1 := by omega
  obtain ⟨c0, cl, cf⟩ := knownD h0
  go_enter Try.func45, Try.ntmps45
  go_wp2_with fail
  refine (at_v HS.out _ hoff n0 n8).mono ?_
  rintro e w1 ⟨rfl, hw⟩
  rw [hw]
  clear hw w1 c0 cl cf
  obtain ⟨wS, hwS⟩ : ∃ wS, ((w.alloc (.cells (cellsD s) 72)).alloc (.cells (cellsD zeroP) 72)) = wS := ⟨_, rfl⟩
  rw [hwS] at h0 h1 F0 ⊢
  clear hwS
  rw [findW1]
  obtain ⟨c0, cl, cf⟩ := knownD h0
  have ld := ldD (P := Try.prog) h0
  have st := stD Try.prog h1 s
  have ci := knownDpr h0 hi
  have ci2 : (wS.drew.setRow (w.heap.size + 1) (cellsD s)).cell? _ = _ := knownDpr (keep_row (show wS.drew.heap[w.heap.size]? = some (.cells (cellsD s) 72) from h0) (Ne.symm hne) (cellsD s)) hi
  rw [HX.out] at ci ci2
  have hi0 : (0 : Int) ≤ i := by omega
  have hi1 : (i : Int) < 32 := by omega
  have hwx : IntKind.u64.wrap (x : Int) = (x : Int) := by rw [IntKind.wrap_u64]; omega
  have hS : Fr w.heap.size w wS.drew ∧ wS.drew.heap[w.heap.size]? = some (.cells (cellsD s) 72) ∧ wS.drew.heap[w.heap.size + 1]? = some (.cells (cellsD zeroP) 72) := ⟨F0.drew, h0, h1⟩
  have lsA : ∀ w' : World, w'.heap[w.heap.size]? = some (.cells (cellsD s) 72) → (loadCellsFrom ⟨w.heap.size, 0, none⟩ 0 szD #[]).run Try.prog w' = .ok (cellsD s) w' := fun w' h => ldD h
  have stA : ∀ w' : World, w'.heap[w.heap.size + 1]? = some (.cells (cellsD zeroP) 72) → (storeCells ⟨w.heap.size + 1, 0, none⟩ (cellsD s).toList).run Try.prog w' = .ok () (w'.setRow (w.heap.size + 1) (cellsD s)) := fun w' h => stD _ h s
  clear ld st
  go_wp2_with fail
  go_region
  all_goals
    have EE := Lib.hid (lvD (row_at hS.2.2 (cellsD s)))
    have FF := Lib.hid (hS.1.row hle (cellsD s))
    clear lsA stA
    go_wp2
    refine bodyPost_ret (v := .tuple #[.agg (cellsD s), .int .u64 (x : Int), .bool true]) (by simp [results, Try.results45, asAddr, Act.put, EE.out]) rfl ⟨rfl, FF.out.1⟩
set_option maxRecDepth 100000 in
set_option maxHeartbeats 4000000 in
theorem rread_4 (s : PS) (off : Nat) (size : Int) (i : Nat) (w : World) (hoff : off < 18446744073709551616) (ok : OkP s) (hi : i < 16) (hs : spotP s.n off size = (4, i)) :
    Calls Try.prog 45 #[.agg (cellsD s), .int .u64 (off : Int), .int .i64 size] w fun e w' => e = .returned (.tuple #[.agg (cellsD s), .int .u64 (s.lv i : Int), .bool true]) ∧ Below w.heap.size w w' := by
  have hx8 := ok.lv i
  obtain ⟨x, hx⟩ : ∃ x, s.lv i = x := ⟨_, rfl⟩
  rw [hx] at hx8 ⊢
  have HX := Lib.hid hx
  clear hx
  have HS := Lib.hid hs
  clear hs
  have n0 := ok.n0
  have n8 := ok.n8
  have a3 := size_cellsD
  have F0 := ((Fr.refl w).alloc (.cells (cellsD s) 72)).alloc (.cells (cellsD zeroP) 72)
  have h0 := keep_alloc (heap_alloc_new w (.cells (cellsD s) 72)) (.cells (cellsD zeroP) 72)
  have h1 : ((w.alloc (.cells (cellsD s) 72)).alloc (.cells (cellsD zeroP) 72)).heap[w.heap.size + 1]? = some (.cells (cellsD zeroP) 72) := by simpa using heap_alloc_new (w.alloc (.cells (cellsD s) 72)) (.cells (cellsD zeroP) 72)
  have hle : w.heap.size ≤ w.heap.size + 1 := by omega
  have hne : w.heap.size ≠ w.heap.size + 1 := by omega
  obtain ⟨c0, cl, cf⟩ := knownD h0
  go_enter Try.func45, Try.ntmps45
  go_wp2_with fail
  refine (at_v HS.out _ hoff n0 n8).mono ?_
  rintro e w1 ⟨rfl, hw⟩
  rw [hw]
  clear hw w1 c0 cl cf
  obtain ⟨wS, hwS⟩ : ∃ wS, ((w.alloc (.cells (cellsD s) 72)).alloc (.cells (cellsD zeroP) 72)) = wS := ⟨_, rfl⟩
  rw [hwS] at h0 h1 F0 ⊢
  clear hwS
  rw [findW4]
  obtain ⟨c0, cl, cf⟩ := knownD h0
  have ld := ldD (P := Try.prog) h0
  have st := stD Try.prog h1 s
  have ci := knownDlv h0 hi
  have ci2 : (wS.drew.setRow (w.heap.size + 1) (cellsD s)).cell? _ = _ := knownDlv (keep_row (show wS.drew.heap[w.heap.size]? = some (.cells (cellsD s) 72) from h0) (Ne.symm hne) (cellsD s)) hi
  rw [HX.out] at ci ci2
  have hi0 : (0 : Int) ≤ i := by omega
  have hi1 : (i : Int) < 16 := by omega
  have hwx : IntKind.u64.wrap (x : Int) = (x : Int) := by rw [IntKind.wrap_u64]; omega
  have hS : Fr w.heap.size w wS.drew ∧ wS.drew.heap[w.heap.size]? = some (.cells (cellsD s) 72) ∧ wS.drew.heap[w.heap.size + 1]? = some (.cells (cellsD zeroP) 72) := ⟨F0.drew, h0, h1⟩
  have lsA : ∀ w' : World, w'.heap[w.heap.size]? = some (.cells (cellsD s) 72) → (loadCellsFrom ⟨w.heap.size, 0, none⟩ 0 szD #[]).run Try.prog w' = .ok (cellsD s) w' := fun w' h => ldD h
  have stA : ∀ w' : World, w'.heap[w.heap.size + 1]? = some (.cells (cellsD zeroP) 72) → (storeCells ⟨w.heap.size + 1, 0, none⟩ (cellsD s).toList).run Try.prog w' = .ok () (w'.setRow (w.heap.size + 1) (cellsD s)) := fun w' h => stD _ h s
  clear ld st
  go_wp2_with fail
  go_region
  all_goals
    have EE := Lib.hid (lvD (row_at hS.2.2 (cellsD s)))
    have FF := Lib.hid (hS.1.row hle (cellsD s))
    clear lsA stA
    go_wp2
    refine bodyPost_ret (v := .tuple #[.agg (cellsD s), .int .u64 (x : Int), .bool true]) (by simp [results, Try.results45, asAddr, Act.put, EE.out]) rfl ⟨rfl, FF.out.1⟩
section
attribute [local simp high] sizeBv
set_option maxRecDepth 100000 in
set_option maxHeartbeats 4000000 in
theorem rread_2 (s : PS) (off : Nat) (size : Int) (i : Nat) (w : World) (hoff : off < 18446744073709551616) (ok : OkP s)  (hs : spotP s.n off size = (2, i)) :
    Calls Try.prog 45 #[.agg (cellsD s), .int .u64 (off : Int), .int .i64 size] w fun e w' => e = .returned (.tuple #[.agg (cellsD s), .int .u64 (W32 s.wa : Int), .bool true]) ∧ Below w.heap.size w w' := by
  obtain ⟨x, hx⟩ : ∃ x, W32 s.wa = x := ⟨_, rfl⟩
  have HX := Lib.hid hx
  rw [hx]
  clear hx
  have HS := Lib.hid hs
  clear hs
  have n0 := ok.n0
  have n8 := ok.n8
  have a3 := size_cellsD
  have F0 := ((Fr.refl w).alloc (.cells (cellsD s) 72)).alloc (.cells (cellsD zeroP) 72)
  have h0 := keep_alloc (heap_alloc_new w (.cells (cellsD s) 72)) (.cells (cellsD zeroP) 72)
  have h1 : ((w.alloc (.cells (cellsD s) 72)).alloc (.cells (cellsD zeroP) 72)).heap[w.heap.size + 1]? = some (.cells (cellsD zeroP) 72) := by simpa using heap_alloc_new (w.alloc (.cells (cellsD s) 72)) (.cells (cellsD zeroP) 72)
  have hle : w.heap.size ≤ w.heap.size + 1 := by omega
  have hne : w.heap.size ≠ w.heap.size + 1 := by omega
  obtain ⟨c0, cl, cf⟩ := knownD h0
  go_enter Try.func45, Try.ntmps45
  go_wp2_with fail
  refine (at_v HS.out _ hoff n0 n8).mono ?_
  rintro e w1 ⟨rfl, hw⟩
  rw [hw]
  clear hw w1 c0 cl cf
  obtain ⟨wS, hwS⟩ : ∃ wS, ((w.alloc (.cells (cellsD s) 72)).alloc (.cells (cellsD zeroP) 72)) = wS := ⟨_, rfl⟩
  rw [hwS] at h0 h1 F0 ⊢
  clear hwS
  rw [findW2]
  obtain ⟨c0, cl, cf⟩ := knownD h0
  have ld := ldD (P := Try.prog) h0
  have st := stD Try.prog h1 s
  have hszB := szB_ne
  have a9 := size_cellsB
  have hS : Fr w.heap.size w wS.drew ∧ wS.drew.heap[w.heap.size]? = some (.cells (cellsD s) 72) ∧ wS.drew.heap[w.heap.size + 1]? = some (.cells (cellsD zeroP) 72) := ⟨F0.drew, h0, h1⟩
  have lsA : ∀ w' : World, w'.heap[w.heap.size]? = some (.cells (cellsD s) 72) → (loadCellsFrom ⟨w.heap.size, 0, none⟩ 0 szD #[]).run Try.prog w' = .ok (cellsD s) w' := fun w' h => ldD h
  have lwA : ∀ w' : World, w'.heap[w.heap.size]? = some (.cells (cellsD s) 72) → (loadCellsFrom ⟨w.heap.size, 65, none⟩ 0 szB #[]).run Try.prog w' = .ok (cellsB s.wa) w' := fun w' h => ld_wa h
  have stA : ∀ w' : World, w'.heap[w.heap.size + 1]? = some (.cells (cellsD zeroP) 72) → (storeCells ⟨w.heap.size + 1, 0, none⟩ (cellsD s).toList).run Try.prog w' = .ok () (w'.setRow (w.heap.size + 1) (cellsD s)) := fun w' h => stD _ h s
  clear ld st
  go_wp2_with fail
  go_region_with ((go_at_call 34; refine (word_v HX.out _).mono ?_; rintro e w' ⟨rfl, hb⟩; have hS2 := hS_step hb hS; have hS20 := hS2.2.1; have hS21 := hS2.2.2))
  all_goals
    have EE := Lib.hid (lvD (row_at hS2.2.2 (cellsD s)))
    have FF := Lib.hid (hS2.1.row hle (cellsD s))
    clear lsA stA lwA
    go_wp2
    refine bodyPost_ret (v := .tuple #[.agg (cellsD s), .int .u64 (x : Int), .bool true]) (by simp [results, Try.results45, asAddr, Act.put, EE.out]) rfl ⟨rfl, FF.out.1⟩
end
section
attribute [local simp high] sizeBv
set_option maxRecDepth 100000 in
set_option maxHeartbeats 4000000 in
theorem rread_3 (s : PS) (off : Nat) (size : Int) (i : Nat) (w : World) (hoff : off < 18446744073709551616) (ok : OkP s) (hi : i < 16) (hs : spotP s.n off size = (3, i)) :
    Calls Try.prog 45 #[.agg (cellsD s), .int .u64 (off : Int), .int .i64 size] w fun e w' => e = .returned (.tuple #[.agg (cellsD s), .int .u64 (W32 (s.on i) : Int), .bool true]) ∧ Below w.heap.size w w' := by
  obtain ⟨x, hx⟩ : ∃ x, W32 (s.on i) = x := ⟨_, rfl⟩
  have HX := Lib.hid hx
  rw [hx]
  clear hx
  have HS := Lib.hid hs
  clear hs
  have n0 := ok.n0
  have n8 := ok.n8
  have a3 := size_cellsD
  have F0 := ((Fr.refl w).alloc (.cells (cellsD s) 72)).alloc (.cells (cellsD zeroP) 72)
  have h0 := keep_alloc (heap_alloc_new w (.cells (cellsD s) 72)) (.cells (cellsD zeroP) 72)
  have h1 : ((w.alloc (.cells (cellsD s) 72)).alloc (.cells (cellsD zeroP) 72)).heap[w.heap.size + 1]? = some (.cells (cellsD zeroP) 72) := by simpa using heap_alloc_new (w.alloc (.cells (cellsD s) 72)) (.cells (cellsD zeroP) 72)
  have hle : w.heap.size ≤ w.heap.size + 1 := by omega
  have hne : w.heap.size ≠ w.heap.size + 1 := by omega
  obtain ⟨c0, cl, cf⟩ := knownD h0
  go_enter Try.func45, Try.ntmps45
  go_wp2_with fail
  refine (at_v HS.out _ hoff n0 n8).mono ?_
  rintro e w1 ⟨rfl, hw⟩
  rw [hw]
  clear hw w1 c0 cl cf
  obtain ⟨wS, hwS⟩ : ∃ wS, ((w.alloc (.cells (cellsD s) 72)).alloc (.cells (cellsD zeroP) 72)) = wS := ⟨_, rfl⟩
  rw [hwS] at h0 h1 F0 ⊢
  clear hwS
  rw [findW3]
  obtain ⟨c0, cl, cf⟩ := knownD h0
  have ld := ldD (P := Try.prog) h0
  have st := stD Try.prog h1 s
  have hszB := szB_ne
  have a9 := size_cellsB
  have hi0 : (0 : Int) ≤ i := by omega
  have hi1 : (i : Int) < 16 := by omega
  have hS : Fr w.heap.size w wS.drew ∧ wS.drew.heap[w.heap.size]? = some (.cells (cellsD s) 72) ∧ wS.drew.heap[w.heap.size + 1]? = some (.cells (cellsD zeroP) 72) := ⟨F0.drew, h0, h1⟩
  have lsA : ∀ w' : World, w'.heap[w.heap.size]? = some (.cells (cellsD s) 72) → (loadCellsFrom ⟨w.heap.size, 0, none⟩ 0 szD #[]).run Try.prog w' = .ok (cellsD s) w' := fun w' h => ldD h
  have lwA : ∀ w' : World, w'.heap[w.heap.size]? = some (.cells (cellsD s) 72) → (loadCellsFrom ⟨w.heap.size, 129 + i * szB, none⟩ 0 szB #[]).run Try.prog w' = .ok (cellsB (s.on i)) w' := fun w' h => ld_on' h hi
  have stA : ∀ w' : World, w'.heap[w.heap.size + 1]? = some (.cells (cellsD zeroP) 72) → (storeCells ⟨w.heap.size + 1, 0, none⟩ (cellsD s).toList).run Try.prog w' = .ok () (w'.setRow (w.heap.size + 1) (cellsD s)) := fun w' h => stD _ h s
  clear ld st
  go_wp2_with fail
  go_region_with ((go_at_call 34; refine (word_v HX.out _).mono ?_; rintro e w' ⟨rfl, hb⟩; have hS2 := hS_step hb hS; have hS20 := hS2.2.1; have hS21 := hS2.2.2))
  all_goals
    have EE := Lib.hid (lvD (row_at hS2.2.2 (cellsD s)))
    have FF := Lib.hid (hS2.1.row hle (cellsD s))
    clear lsA stA lwA
    go_wp2
    refine bodyPost_ret (v := .tuple #[.agg (cellsD s), .int .u64 (x : Int), .bool true]) (by simp [results, Try.results45, asAddr, Act.put, EE.out]) rfl ⟨rfl, FF.out.1⟩
end
set_option maxRecDepth 100000 in
set_option maxHeartbeats 4000000 in
theorem rread_5n (s : PS) (off : Nat) (size : Int) (i : Nat) (w : World) (hoff : off < 18446744073709551616) (ok : OkP s) (hi : i < 16) (r : Nat) (hr : bestP s i 0 = r) (hr0 : r = 0) (hs : spotP s.n off size = (5, i)) :
    Calls Try.prog 45 #[.agg (cellsD s), .int .u64 (off : Int), .int .i64 size] w fun e w' => e = .returned (.tuple #[.agg (cellsD s), .int .u64 0, .bool true]) ∧ Below w.heap.size w w' := by
  rw [hr0] at hr
  clear hr0
  have HR := Lib.hid hr
  clear hr
  have HS := Lib.hid hs
  clear hs
  have n0 := ok.n0
  have n8 := ok.n8
  have a3 := size_cellsD
  have F0 := ((Fr.refl w).alloc (.cells (cellsD s) 72)).alloc (.cells (cellsD zeroP) 72)
  have h0 := keep_alloc (heap_alloc_new w (.cells (cellsD s) 72)) (.cells (cellsD zeroP) 72)
  have h1 : ((w.alloc (.cells (cellsD s) 72)).alloc (.cells (cellsD zeroP) 72)).heap[w.heap.size + 1]? = some (.cells (cellsD zeroP) 72) := by simpa using heap_alloc_new (w.alloc (.cells (cellsD s) 72)) (.cells (cellsD zeroP) 72)
  have hle : w.heap.size ≤ w.heap.size + 1 := by omega
  have hne : w.heap.size ≠ w.heap.size + 1 := by omega
  obtain ⟨c0, cl, cf⟩ := knownD h0
  go_enter Try.func45, Try.ntmps45
  go_wp2_with fail
  refine (at_v HS.out _ hoff n0 n8).mono ?_
  rintro e w1 ⟨rfl, hw⟩
  rw [hw]
  clear hw w1 c0 cl cf
  obtain ⟨wS, hwS⟩ : ∃ wS, ((w.alloc (.cells (cellsD s) 72)).alloc (.cells (cellsD zeroP) 72)) = wS := ⟨_, rfl⟩
  rw [hwS] at h0 h1 F0 ⊢
  clear hwS
  rw [findW5]
  obtain ⟨c0, cl, cf⟩ := knownD h0
  have ld := ldD (P := Try.prog) h0
  have st := stD Try.prog h1 s
  go_wp2_with fail
  refine (rbest_v (a := 0) HR.out _ ok hi (by omega)).mono ?_
  rintro e w2 ⟨rfl, hb⟩
  have F2 := F0.step hb
  have h0' := keepB hb h0
  have h1' := keepB hb h1
  clear ld st c0 cl cf h0 h1 F0
  have ld := ldD (P := Try.prog) h0'
  have st := stD Try.prog h1' s
  go_wp2
  refine bodyPost_ret (v := .tuple #[.agg (cellsD s), .int .u64 0, .bool true]) (by simp [results, Try.results45, asAddr, Act.put, lvD (row_at h1' (cellsD s))]) rfl ⟨rfl, (F2.row hle _).1⟩
set_option maxRecDepth 100000 in
set_option maxHeartbeats 4000000 in
theorem rread_5y (s : PS) (off : Nat) (size : Int) (i : Nat) (w : World) (hoff : off < 18446744073709551616) (ok : OkP s) (hi : i < 16) (r : Nat) (hr : bestP s i 0 = r) (hr0 : 0 < r) (hr31 : r < 32) (hs : spotP s.n off size = (5, i)) :
    Calls Try.prog 45 #[.agg (cellsD s), .int .u64 (off : Int), .int .i64 size] w fun e w' => e = .returned (.tuple #[.agg (cellsD (claimP s r)), .int .u64 (r : Int), .bool true]) ∧ Below w.heap.size w w' := by
  have HR := Lib.hid hr
  clear hr
  have hr0' : (0 : Int) < r := by omega
  have hr00 : (0 : Int) ≤ r := by omega
  have hr32 : (r : Int) < 32 := by omega
  have HS := Lib.hid hs
  clear hs
  have n0 := ok.n0
  have n8 := ok.n8
  have a3 := size_cellsD
  have F0 := ((Fr.refl w).alloc (.cells (cellsD s) 72)).alloc (.cells (cellsD zeroP) 72)
  have h0 := keep_alloc (heap_alloc_new w (.cells (cellsD s) 72)) (.cells (cellsD zeroP) 72)
  have h1 : ((w.alloc (.cells (cellsD s) 72)).alloc (.cells (cellsD zeroP) 72)).heap[w.heap.size + 1]? = some (.cells (cellsD zeroP) 72) := by simpa using heap_alloc_new (w.alloc (.cells (cellsD s) 72)) (.cells (cellsD zeroP) 72)
  have hle : w.heap.size ≤ w.heap.size + 1 := by omega
  have hne : w.heap.size ≠ w.heap.size + 1 := by omega
  obtain ⟨c0, cl, cf⟩ := knownD h0
  go_enter Try.func45, Try.ntmps45
  go_wp2_with fail
  refine (at_v HS.out _ hoff n0 n8).mono ?_
  rintro e w1 ⟨rfl, hw⟩
  rw [hw]
  clear hw w1 c0 cl cf
  obtain ⟨wS, hwS⟩ : ∃ wS, ((w.alloc (.cells (cellsD s) 72)).alloc (.cells (cellsD zeroP) 72)) = wS := ⟨_, rfl⟩
  rw [hwS] at h0 h1 F0 ⊢
  clear hwS
  rw [findW5]
  obtain ⟨c0, cl, cf⟩ := knownD h0
  have ld := ldD (P := Try.prog) h0
  have st := stD Try.prog h1 s
  go_wp2_with fail
  refine (rbest_v (a := 0) HR.out _ ok hi (by omega)).mono ?_
  rintro e w2 ⟨rfl, hb⟩
  have F2 := F0.step hb
  have h0' := keepB hb h0
  have h1' := keepB hb h1
  clear ld st c0 cl cf h0 h1 F0
  have cw := knownDwa h0' hr31
  have cs := knownDse h0' hr31
  obtain ⟨c0, cl, cf⟩ := knownD h0'
  have F3 := (F2.setCell (p := ⟨w.heap.size, 65 + r, none⟩) (Nat.le_refl _) (.bool false)).setCell (p := ⟨w.heap.size, 97 + r, none⟩) (Nat.le_refl _) (.bool true)
  have h3 := set_at h0' (65 + r) (.bool false)
  rw [D_setWa s hr31] at h3
  have h4 := set_at h3 (97 + r) (.bool true)
  rw [D_setSe _ hr31] at h4
  have h5 := keep_setCell (keep_setCell h1' (p := ⟨w.heap.size, 65 + r, none⟩) hne (.bool false)) (p := ⟨w.heap.size, 97 + r, none⟩) hne (.bool true)
  have ld := ldD (P := Try.prog) h4
  have st := stD Try.prog h5 (claimP s r)
  have EE := Lib.hid (lvD (row_at h5 (cellsD (claimP s r))))
  have FF := Lib.hid (F3.row hle (cellsD (claimP s r)))
  change (loadCellsFrom _ _ _ _).run _ _ = .ok (cellsD (claimP s r)) _ at ld
  clear F2 h1' h3 h4 h5 F3 h0'
  go_wp2
  refine bodyPost_ret (v := .tuple #[.agg (cellsD (claimP s r)), .int .u64 (r : Int), .bool true]) (by simp [results, Try.results45, asAddr, Act.put, EE.out]) rfl ⟨rfl, FF.out.1⟩
theorem rread_any (s : PS) (off : Nat) (size : Int) (w : World) (hoff : off < 18446744073709551616) (ok : OkP s) :
    Calls Try.prog 45 #[.agg (cellsD s), .int .u64 (off : Int), .int .i64 size] w fun e w' => e = .returned (.tuple #[.agg (cellsD (readP s (spotP s.n off size)).1), .int .u64 (((readP s (spotP s.n off size)).2.1 : Nat) : Int), .bool (readP s (spotP s.n off size)).2.2]) ∧ Below w.heap.size w w' := by
  have hk := spotP_ok s.n off size
  have n8 := ok.n8
  obtain ⟨⟨r, i⟩, hsp⟩ : ∃ p, spotP s.n off size = p := ⟨_, rfl⟩
  rw [hsp] at hk ⊢
  unfold SpotOk at hk
  simp only at hk
  rcases hk with rfl | ⟨rfl, _, hi⟩ | rfl | ⟨rfl, hi⟩ | ⟨rfl, hi⟩ | ⟨rfl, hi⟩
  · exact rread_0 s off size i w hoff ok hsp
  · exact rread_1 s off size i w hoff ok hi hsp
  · exact rread_2 s off size i w hoff ok hsp
  · exact rread_3 s off size i w hoff ok (by omega) hsp
  · exact rread_4 s off size i w hoff ok (by omega) hsp
  · by_cases h0 : 0 < bestP s i 0
    · rw [show readP s (5, i) = (claimP s (bestP s i 0), bestP s i 0, true) from by unfold readP; simp [h0]]
      have := bestP_le s i 0
      exact rread_5y s off size i w hoff ok (by omega) (bestP s i 0) rfl h0 (by omega) hsp
    · have e0 : bestP s i 0 = 0 := by omega
      rw [show readP s (5, i) = (s, 0, true) from by unfold readP; simp [e0]]
      exact rread_5n s off size i w hoff ok (by omega) (bestP s i 0) rfl e0 hsp
theorem rread_v {s s' : PS} {off : Nat} {size : Int} {x : Nat} {q : Bool} (hr : readP s (spotP s.n off size) = (s', x, q)) (w : World) (hoff : off < 18446744073709551616) (ok : OkP s) :
    Calls Try.prog 45 #[.agg (cellsD s), .int .u64 (off : Int), .int .i64 size] w fun e w' => e = .returned (.tuple #[.agg (cellsD s'), .int .u64 (x : Int), .bool q]) ∧ Below w.heap.size w w' := by
  have := rread_any s off size w hoff ok
  rw [hr] at this
  exact this
end Go.Proofs.Ytgelpapjmlbgfaa
