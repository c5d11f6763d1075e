/- The document's CSR file: Turn. -/
import Derived.Test.YthkkfdhgpaonjaaCfM
namespace Go.Proofs.Ythkkfdhgpaonjaa
open Go.RowKit
set_option linter.unusedSimpArgs false
set_option linter.unusedVariables false

attribute [local simp high] sizeRv zeroRv
attribute [local go_sem ↓] Go.wp_at_zero Go.wp_at_succ
theorem knownRq {w : World} {b : Nat} {s : FS} {t : TypeId} {c q : Bool} (h : w.heap[b]? = some (.cells (cellsR s) t)) (hc : s.cy = c) (hi : s.il = q) :
    w.cell? ⟨b, 35, none⟩ = some (.bool c) ∧ w.cell? ⟨b, 36, none⟩ = some (.bool q) ∧ b < w.heap.size ∧ (∀ o, w.frozen? ⟨b, o, none⟩ = false) := by
  subst hc hi
  exact (knownR h).2
/-- The end of 'Turn': both flags fall, and the file is handed back. -/
theorem fin_turnR {w : World} {b c : Nat} {s z : FS} {t u : TypeId} (hb : w.heap[b]? = some (.cells (cellsR s) t)) (hc : w.heap[c]? = some (.cells (cellsR z) u)) (hne : b ≠ c) :
    ((w.setCell ⟨b, 35, none⟩ (.bool false)).setCell ⟨b, 36, none⟩ (.bool false)).heap[b]? = some (.cells (cellsR (setIl (setCy s false) false)) t) ∧
    ((w.setCell ⟨b, 35, none⟩ (.bool false)).setCell ⟨b, 36, none⟩ (.bool false)).heap[c]? = some (.cells (cellsR z) u) := by
  have h1 := set_at hb 35 (.bool false)
  rw [cellsR_setCy] at h1
  have h2 := set_at h1 36 (.bool false)
  rw [cellsR_setIl] at h2
  exact ⟨h2, keep_setCell (keep_setCell hc hne _) hne _⟩
set_option maxRecDepth 100000 in
set_option maxHeartbeats 4000000 in
theorem rturn_a (s : FS) (r q : Bool) (w : World) (ok : OkF s) (hcy : s.cy = true) (hq : s.il = q) (hr : (r && !q) = false) :
    Calls Try.prog 47 #[.agg (cellsR s), .bool r] w fun e w' => e = .returned (.agg (cellsR (turnOf s r))) ∧ Below w.heap.size w w' := by
  obtain ⟨s', hs'⟩ : ∃ s', setIl (setCy s false) false = s' := ⟨_, rfl⟩
  have HO : Hid (turnOf s r = s') := by
    show _ = _
    have e1 : turnCy s = s := by unfold turnCy; rw [hcy]; rfl
    have e2 : turnIl s r = s := by unfold turnIl; rw [hq, hr]; rfl
    unfold turnOf; rw [e1, e2, hs']
  have e35 : (cellsR s)[35]? = some (.bool true) := by rw [← hcy]; rfl
  have e36 : (cellsR s)[36]? = some (.bool q) := by rw [← hq]; rfl
  have e36' : (cellsR (setCy s false))[36]? = some (.bool q) := by rw [← hq]; rfl
  have t35 : (cellsR s).setIfInBounds 35 (.bool false) = cellsR (setCy s false) := rfl
  have t36 : (cellsR (setCy s false)).setIfInBounds 36 (.bool false) = cellsR s' := by rw [← hs'] <;> rfl
  have l1 := zeroRv
  have l2 := sizeRv
  have l3 := size_cellsR
  have l4 := stnR_1
  have l6 : ∀ (w : World) (o : Obj) (s : FS), (loadCellsFrom ⟨w.heap.size, 0, none⟩ 0 szR #[]).run Try.prog ((w.alloc (.cells (cellsR s) 34)).alloc o) = .ok (cellsR s) ((w.alloc (.cells (cellsR s) 34)).alloc o) := fun w o s => ldR (keep_alloc (heap_alloc_new _ _) _)
  have E2 := Lib.hid (lvR (w := (w.alloc (.cells (cellsR s') 34)).alloc (.cells (cellsR s') 34)) (b := w.heap.size + 1) (s := s') (t := 34) (by simpa using heap_alloc_new (w.alloc (.cells (cellsR s') 34)) (.cells (cellsR s') 34)))
  have FE := Lib.hid (((Fr.refl w).alloc (.cells (cellsR s') 34)).alloc (.cells (cellsR s') 34))
  clear hs' hcy hq
  rcases r <;> rcases q <;> simp at hr
  all_goals try clear hr
  all_goals
    go_enter Try.func47, Try.ntmps47
    go_wp2
    refine bodyPost_ret (v := .agg (cellsR s')) (by simp [results, Try.results47, asAddr, Act.put, E2.out]) rfl ⟨by rw [HO.out], FE.out.1⟩
set_option maxRecDepth 100000 in
set_option maxHeartbeats 4000000 in
theorem rturn_b (s : FS) (r q : Bool) (w : World) (ok : OkF s) (hcy : s.cy = true) (hq : s.il = q) (hr : (r && !q) = true) :
    Calls Try.prog 47 #[.agg (cellsR s), .bool r] w fun e w' => e = .returned (.agg (cellsR (turnOf s r))) ∧ Below w.heap.size w w' := by
  obtain ⟨s1, hs1⟩ : ∃ s1, s = s1 := ⟨_, rfl⟩
  obtain ⟨s2, hs2⟩ : ∃ s2, setG s1 21 ((s.g 21 + 1) % 18446744073709551616) = s2 := ⟨_, rfl⟩
  have HO : Hid (turnOf s r = setIl (setCy s2 false) false) := by
    show _ = _
    have e1 : turnCy s = s := by unfold turnCy; rw [hcy]; rfl
    have e2 : ∀ t, t.il = q → turnIl t r = setG t 21 ((t.g 21 + 1) % 18446744073709551616) := fun t ht => by unfold turnIl; rw [ht, hr]; rfl
    have hq1 : s1.il = q := by rw [← hs1]; exact hq
    unfold turnOf; rw [e1, hs1, e2 s1 hq1, ← hs2]; rw [← hs1] <;> rfl
  have c1 : s1.cy = true := by rw [← hs1]; exact hcy
  have i1 : s1.il = q := by rw [← hs1]; exact hq
  have g21 : s1.g 21 = s.g 21 := by rw [← hs1]
  have c2 : s2.cy = true := by rw [← hs2]; exact c1
  have i2 : s2.il = q := by rw [← hs2]; exact i1
  have HS1 := Lib.hid hs1
  have HS2 := Lib.hid hs2
  have I20 := Lib.hid (inc_val (s.g 20))
  have I21 := Lib.hid (inc_val (s.g 21))
  have HC := Lib.hid hcy
  have HQ := Lib.hid hq
  have HC1 := Lib.hid c1
  have HI1 := Lib.hid i1
  have HC2 := Lib.hid c2
  have HI2 := Lib.hid i2
  have G21 := Lib.hid g21
  have k0 := keep_alloc (heap_alloc_new w (.cells (cellsR s) 34)) (.cells (cellsR zeroF) 34)
  have z0 : ((w.alloc (.cells (cellsR s) 34)).alloc (.cells (cellsR zeroF) 34)).heap[w.heap.size + 1]? = some (.cells (cellsR zeroF) 34) := by simpa using heap_alloc_new (w.alloc (.cells (cellsR s) 34)) (.cells (cellsR zeroF) 34)
  have F0 := ((Fr.refl w).alloc (.cells (cellsR s) 34)).alloc (.cells (cellsR zeroF) 34)
  obtain ⟨p1, p2, pl, pf⟩ := knownRq k0 hcy hq
  have hne : w.heap.size ≠ w.heap.size + 1 := by omega
  have l1 := zeroRv
  have l2 := sizeRv
  have l3 := size_cellsR
  have ls := ldR (P := Try.prog) k0
  clear hs1 hs2 hcy hq c1 i1 c2 i2 g21
  rcases r <;> rcases q <;> simp at hr
  all_goals try clear hr
  all_goals
    go_enter Try.func47, Try.ntmps47
    go_wp2_with fail
    obtain rfl := HS1.out
    clear p1 p2 pl pf ls
    obtain ⟨W5, hW5⟩ : ∃ W5, ((w.alloc (.cells (cellsR s) 34)).alloc (.cells (cellsR zeroF) 34)) = W5 := ⟨_, rfl⟩
    rw [hW5] at F0 k0 z0 ⊢
    clear hW5
    have hS5 : (Fr w.heap.size w W5.drew ∧ W5.drew.heap[w.heap.size]? = some (.cells (cellsR s) 34)) ∧ W5.drew.heap[w.heap.size + 1]? = some (.cells (cellsR zeroF) 34) := ⟨⟨F0.drew, k0⟩, z0⟩
    have ls5 := ldR (P := Try.prog) hS5.1.2
    have lsA : ∀ w' : World, w'.heap[w.heap.size]? = some (.cells (cellsR s) 34) → (loadCellsFrom ⟨w.heap.size, 0, none⟩ 0 szR #[]).run Try.prog w' = .ok (cellsR s) w' := fun w' h => ldR h
    have stA : ∀ w' : World, w'.heap[w.heap.size]? = some (.cells (cellsR s) 34) → (storeCells ⟨w.heap.size, 0, none⟩ (cellsR s2).toList).run Try.prog w' = .ok () (w'.setRow w.heap.size (cellsR s2)) := fun w' h => stR _ h s2
    clear F0 k0 z0
    go_region_with (first
      | (go_at_call 90; refine (word_n nm_minstret G21.out _).mono ?_; rintro e w' ⟨rfl, hb⟩; have hS := heldR2 hb ‹_›)
      | (go_at_call 83; rw [I21.out]; refine (with_n nm_minstret HS2.out _).mono ?_; rintro e w' ⟨rfl, hb⟩; have hS := heldR2 hb ‹_›))
    all_goals
      have k8 := row_at hS.1.2 (cellsR s2)
      have z8 := keep_row hS.2 hne (cellsR s2)
      have F8 := hS.1.1.row (Nat.le_refl _) (cellsR s2)
      clear lsA stA ls5
      obtain ⟨W8, hW8⟩ : ∃ W8, w'.setRow w.heap.size (cellsR s2) = W8 := ⟨_, rfl⟩
      rw [hW8] at k8 z8 F8 ⊢
      clear hW8
      obtain ⟨r1, r2, rl, rf⟩ := knownR k8
      obtain ⟨kE, zE⟩ := fin_turnR k8 z8 hne
      have FE := Lib.hid (((F8.setCell (p := ⟨w.heap.size, 35, none⟩) (Nat.le_refl _) (.bool false)).setCell (p := ⟨w.heap.size, 36, none⟩) (Nat.le_refl _) (.bool false)).row (Nat.le_succ _) (cellsR (setIl (setCy s2 false) false)))
      have lE := ldR (P := Try.prog) kE
      have sE := stR Try.prog zE (setIl (setCy s2 false) false)
      have EE := Lib.hid (lvR (row_at zE (cellsR (setIl (setCy s2 false) false))))
      clear k8 z8 kE zE
      go_wp2
      refine bodyPost_ret (v := .agg (cellsR (setIl (setCy s2 false) false))) (by simp [results, Try.results47, asAddr, Act.put, EE.out]) rfl ⟨by rw [HO.out], FE.out.1⟩
set_option maxRecDepth 100000 in
set_option maxHeartbeats 4000000 in
theorem rturn_c (s : FS) (r q : Bool) (w : World) (ok : OkF s) (hcy : s.cy = false) (hq : s.il = q) (hr : (r && !q) = false) :
    Calls Try.prog 47 #[.agg (cellsR s), .bool r] w fun e w' => e = .returned (.agg (cellsR (turnOf s r))) ∧ Below w.heap.size w w' := by
  obtain ⟨s1, hs1⟩ : ∃ s1, setG s 20 ((s.g 20 + 1) % 18446744073709551616) = s1 := ⟨_, rfl⟩
  obtain ⟨s2, hs2⟩ : ∃ s2, s1 = s2 := ⟨_, rfl⟩
  have HO : Hid (turnOf s r = setIl (setCy s2 false) false) := by
    show _ = _
    have e1 : turnCy s = setG s 20 ((s.g 20 + 1) % 18446744073709551616) := by unfold turnCy; rw [hcy]; rfl
    have e2 : ∀ t, t.il = q → turnIl t r = t := fun t ht => by unfold turnIl; rw [ht, hr]; rfl
    have hq1 : s1.il = q := by rw [← hs1]; exact hq
    unfold turnOf; rw [e1, hs1, e2 s1 hq1, ← hs2]; 
  have c1 : s1.cy = false := by rw [← hs1]; exact hcy
  have i1 : s1.il = q := by rw [← hs1]; exact hq
  have g21 : s1.g 21 = s.g 21 := by rw [← hs1]; rfl
  have c2 : s2.cy = false := by rw [← hs2]; exact c1
  have i2 : s2.il = q := by rw [← hs2]; exact i1
  have HS1 := Lib.hid hs1
  have HS2 := Lib.hid hs2
  have I20 := Lib.hid (inc_val (s.g 20))
  have I21 := Lib.hid (inc_val (s.g 21))
  have HC := Lib.hid hcy
  have HQ := Lib.hid hq
  have HC1 := Lib.hid c1
  have HI1 := Lib.hid i1
  have HC2 := Lib.hid c2
  have HI2 := Lib.hid i2
  have G21 := Lib.hid g21
  have k0 := keep_alloc (heap_alloc_new w (.cells (cellsR s) 34)) (.cells (cellsR zeroF) 34)
  have z0 : ((w.alloc (.cells (cellsR s) 34)).alloc (.cells (cellsR zeroF) 34)).heap[w.heap.size + 1]? = some (.cells (cellsR zeroF) 34) := by simpa using heap_alloc_new (w.alloc (.cells (cellsR s) 34)) (.cells (cellsR zeroF) 34)
  have F0 := ((Fr.refl w).alloc (.cells (cellsR s) 34)).alloc (.cells (cellsR zeroF) 34)
  obtain ⟨p1, p2, pl, pf⟩ := knownRq k0 hcy hq
  have hne : w.heap.size ≠ w.heap.size + 1 := by omega
  have l1 := zeroRv
  have l2 := sizeRv
  have l3 := size_cellsR
  have ls := ldR (P := Try.prog) k0
  clear hs1 hs2 hcy hq c1 i1 c2 i2 g21
  rcases r <;> rcases q <;> simp at hr
  all_goals try clear hr
  all_goals
    go_enter Try.func47, Try.ntmps47
    go_wp2_with fail
    clear p1 p2 pl pf ls
    obtain ⟨W5, hW5⟩ : ∃ W5, ((w.alloc (.cells (cellsR s) 34)).alloc (.cells (cellsR zeroF) 34)) = W5 := ⟨_, rfl⟩
    rw [hW5] at F0 k0 z0 ⊢
    clear hW5
    have hS5 : (Fr w.heap.size w W5.drew ∧ W5.drew.heap[w.heap.size]? = some (.cells (cellsR s) 34)) ∧ W5.drew.heap[w.heap.size + 1]? = some (.cells (cellsR zeroF) 34) := ⟨⟨F0.drew, k0⟩, z0⟩
    have ls5 := ldR (P := Try.prog) hS5.1.2
    have lsA : ∀ w' : World, w'.heap[w.heap.size]? = some (.cells (cellsR s) 34) → (loadCellsFrom ⟨w.heap.size, 0, none⟩ 0 szR #[]).run Try.prog w' = .ok (cellsR s) w' := fun w' h => ldR h
    have stA : ∀ w' : World, w'.heap[w.heap.size]? = some (.cells (cellsR s) 34) → (storeCells ⟨w.heap.size, 0, none⟩ (cellsR s1).toList).run Try.prog w' = .ok () (w'.setRow w.heap.size (cellsR s1)) := fun w' h => stR _ h s1
    clear F0 k0 z0
    go_region_with (first
      | (go_at_call 90; refine (word_n nm_mcycle rfl _).mono ?_; rintro e w' ⟨rfl, hb⟩; have hS := heldR2 hb ‹_›)
      | (go_at_call 83; rw [I20.out]; refine (with_n nm_mcycle HS1.out _).mono ?_; rintro e w' ⟨rfl, hb⟩; have hS := heldR2 hb ‹_›))
    all_goals
      have k6 := row_at hS.1.2 (cellsR s1)
      have z6 := keep_row hS.2 hne (cellsR s1)
      have F6 := hS.1.1.row (Nat.le_refl _) (cellsR s1)
      clear lsA stA ls5
      obtain ⟨W6, hW6⟩ : ∃ W6, w'.setRow w.heap.size (cellsR s1) = W6 := ⟨_, rfl⟩
      rw [hW6] at k6 z6 F6 ⊢
      clear hW6
      obtain ⟨p1, p2, pl, pf⟩ := knownRq k6 HC1.out HI1.out
      go_wp2_with fail
      obtain rfl := HS2.out
      obtain ⟨r1, r2, rl, rf⟩ := knownR k6
      obtain ⟨kE, zE⟩ := fin_turnR k6 z6 hne
      have FE := Lib.hid (((F6.setCell (p := ⟨w.heap.size, 35, none⟩) (Nat.le_refl _) (.bool false)).setCell (p := ⟨w.heap.size, 36, none⟩) (Nat.le_refl _) (.bool false)).row (Nat.le_succ _) (cellsR (setIl (setCy s1 false) false)))
      have lE := ldR (P := Try.prog) kE
      have sE := stR Try.prog zE (setIl (setCy s1 false) false)
      have EE := Lib.hid (lvR (row_at zE (cellsR (setIl (setCy s1 false) false))))
      clear k6 z6 kE zE
      go_wp2
      refine bodyPost_ret (v := .agg (cellsR (setIl (setCy s1 false) false))) (by simp [results, Try.results47, asAddr, Act.put, EE.out]) rfl ⟨by rw [HO.out], FE.out.1⟩
set_option maxRecDepth 100000 in
set_option maxHeartbeats 4000000 in
theorem rturn_d (s : FS) (r q : Bool) (w : World) (ok : OkF s) (hcy : s.cy = false) (hq : s.il = q) (hr : (r && !q) = true) :
    Calls Try.prog 47 #[.agg (cellsR s), .bool r] w fun e w' => e = .returned (.agg (cellsR (turnOf s r))) ∧ Below w.heap.size w w' := by
  obtain ⟨s1, hs1⟩ : ∃ s1, setG s 20 ((s.g 20 + 1) % 18446744073709551616) = s1 := ⟨_, rfl⟩
  obtain ⟨s2, hs2⟩ : ∃ s2, setG s1 21 ((s.g 21 + 1) % 18446744073709551616) = s2 := ⟨_, rfl⟩
  have HO : Hid (turnOf s r = setIl (setCy s2 false) false) := by
    show _ = _
    have e1 : turnCy s = setG s 20 ((s.g 20 + 1) % 18446744073709551616) := by unfold turnCy; rw [hcy]; rfl
    have e2 : ∀ t, t.il = q → turnIl t r = setG t 21 ((t.g 21 + 1) % 18446744073709551616) := fun t ht => by unfold turnIl; rw [ht, hr]; rfl
    have hq1 : s1.il = q := by rw [← hs1]; exact hq
    unfold turnOf; rw [e1, hs1, e2 s1 hq1, ← hs2]; rw [← hs1] <;> rfl
  have c1 : s1.cy = false := by rw [← hs1]; exact hcy
  have i1 : s1.il = q := by rw [← hs1]; exact hq
  have g21 : s1.g 21 = s.g 21 := by rw [← hs1]; rfl
  have c2 : s2.cy = false := by rw [← hs2]; exact c1
  have i2 : s2.il = q := by rw [← hs2]; exact i1
  have HS1 := Lib.hid hs1
  have HS2 := Lib.hid hs2
  have I20 := Lib.hid (inc_val (s.g 20))
  have I21 := Lib.hid (inc_val (s.g 21))
  have HC := Lib.hid hcy
  have HQ := Lib.hid hq
  have HC1 := Lib.hid c1
  have HI1 := Lib.hid i1
  have HC2 := Lib.hid c2
  have HI2 := Lib.hid i2
  have G21 := Lib.hid g21
  have k0 := keep_alloc (heap_alloc_new w (.cells (cellsR s) 34)) (.cells (cellsR zeroF) 34)
  have z0 : ((w.alloc (.cells (cellsR s) 34)).alloc (.cells (cellsR zeroF) 34)).heap[w.heap.size + 1]? = some (.cells (cellsR zeroF) 34) := by simpa using heap_alloc_new (w.alloc (.cells (cellsR s) 34)) (.cells (cellsR zeroF) 34)
  have F0 := ((Fr.refl w).alloc (.cells (cellsR s) 34)).alloc (.cells (cellsR zeroF) 34)
  obtain ⟨p1, p2, pl, pf⟩ := knownRq k0 hcy hq
  have hne : w.heap.size ≠ w.heap.size + 1 := by omega
  have l1 := zeroRv
  have l2 := sizeRv
  have l3 := size_cellsR
  have ls := ldR (P := Try.prog) k0
  clear hs1 hs2 hcy hq c1 i1 c2 i2 g21
  rcases r <;> rcases q <;> simp at hr
  all_goals try clear hr
  all_goals
    go_enter Try.func47, Try.ntmps47
    go_wp2_with fail
    clear p1 p2 pl pf ls
    obtain ⟨W5, hW5⟩ : ∃ W5, ((w.alloc (.cells (cellsR s) 34)).alloc (.cells (cellsR zeroF) 34)) = W5 := ⟨_, rfl⟩
    rw [hW5] at F0 k0 z0 ⊢
    clear hW5
    have hS5 : (Fr w.heap.size w W5.drew ∧ W5.drew.heap[w.heap.size]? = some (.cells (cellsR s) 34)) ∧ W5.drew.heap[w.heap.size + 1]? = some (.cells (cellsR zeroF) 34) := ⟨⟨F0.drew, k0⟩, z0⟩
    have ls5 := ldR (P := Try.prog) hS5.1.2
    have lsA : ∀ w' : World, w'.heap[w.heap.size]? = some (.cells (cellsR s) 34) → (loadCellsFrom ⟨w.heap.size, 0, none⟩ 0 szR #[]).run Try.prog w' = .ok (cellsR s) w' := fun w' h => ldR h
    have stA : ∀ w' : World, w'.heap[w.heap.size]? = some (.cells (cellsR s) 34) → (storeCells ⟨w.heap.size, 0, none⟩ (cellsR s1).toList).run Try.prog w' = .ok () (w'.setRow w.heap.size (cellsR s1)) := fun w' h => stR _ h s1
    clear F0 k0 z0
    go_region_with (first
      | (go_at_call 90; refine (word_n nm_mcycle rfl _).mono ?_; rintro e w' ⟨rfl, hb⟩; have hS := heldR2 hb ‹_›)
      | (go_at_call 83; rw [I20.out]; refine (with_n nm_mcycle HS1.out _).mono ?_; rintro e w' ⟨rfl, hb⟩; have hS := heldR2 hb ‹_›))
    all_goals
      have k6 := row_at hS.1.2 (cellsR s1)
      have z6 := keep_row hS.2 hne (cellsR s1)
      have F6 := hS.1.1.row (Nat.le_refl _) (cellsR s1)
      clear lsA stA ls5
      obtain ⟨W6, hW6⟩ : ∃ W6, w'.setRow w.heap.size (cellsR s1) = W6 := ⟨_, rfl⟩
      rw [hW6] at k6 z6 F6 ⊢
      clear hW6
      obtain ⟨p1, p2, pl, pf⟩ := knownRq k6 HC1.out HI1.out
      go_wp2_with fail
      clear p1 p2 pl pf
      obtain ⟨W5, hW5⟩ : ∃ W5, W6 = W5 := ⟨_, rfl⟩
      rw [hW5] at F6 k6 z6 ⊢
      clear hW5
      have hS5 : (Fr w.heap.size w W5.drew ∧ W5.drew.heap[w.heap.size]? = some (.cells (cellsR s1) 34)) ∧ W5.drew.heap[w.heap.size + 1]? = some (.cells (cellsR zeroF) 34) := ⟨⟨F6.drew, k6⟩, z6⟩
      have ls5 := ldR (P := Try.prog) hS5.1.2
      have lsA : ∀ w' : World, w'.heap[w.heap.size]? = some (.cells (cellsR s1) 34) → (loadCellsFrom ⟨w.heap.size, 0, none⟩ 0 szR #[]).run Try.prog w' = .ok (cellsR s1) w' := fun w' h => ldR h
      have stA : ∀ w' : World, w'.heap[w.heap.size]? = some (.cells (cellsR s1) 34) → (storeCells ⟨w.heap.size, 0, none⟩ (cellsR s2).toList).run Try.prog w' = .ok () (w'.setRow w.heap.size (cellsR s2)) := fun w' h => stR _ h s2
      clear F6 k6 z6
      go_region_with (first
        | (go_at_call 90; refine (word_n nm_minstret G21.out _).mono ?_; rintro e w' ⟨rfl, hb⟩; have hS := heldR2 hb ‹_›)
        | (go_at_call 83; rw [I21.out]; refine (with_n nm_minstret HS2.out _).mono ?_; rintro e w' ⟨rfl, hb⟩; have hS := heldR2 hb ‹_›))
      all_goals
        have k8 := row_at hS.1.2 (cellsR s2)
        have z8 := keep_row hS.2 hne (cellsR s2)
        have F8 := hS.1.1.row (Nat.le_refl _) (cellsR s2)
        clear lsA stA ls5
        obtain ⟨W8, hW8⟩ : ∃ W8, w'.setRow w.heap.size (cellsR s2) = W8 := ⟨_, rfl⟩
        rw [hW8] at k8 z8 F8 ⊢
        clear hW8
        obtain ⟨r1, r2, rl, rf⟩ := knownR k8
        obtain ⟨kE, zE⟩ := fin_turnR k8 z8 hne
        have FE := Lib.hid (((F8.setCell (p := ⟨w.heap.size, 35, none⟩) (Nat.le_refl _) (.bool false)).setCell (p := ⟨w.heap.size, 36, none⟩) (Nat.le_refl _) (.bool false)).row (Nat.le_succ _) (cellsR (setIl (setCy s2 false) false)))
        have lE := ldR (P := Try.prog) kE
        have sE := stR Try.prog zE (setIl (setCy s2 false) false)
        have EE := Lib.hid (lvR (row_at zE (cellsR (setIl (setCy s2 false) false))))
        clear k8 z8 kE zE
        go_wp2
        refine bodyPost_ret (v := .agg (cellsR (setIl (setCy s2 false) false))) (by simp [results, Try.results47, asAddr, Act.put, EE.out]) rfl ⟨by rw [HO.out], FE.out.1⟩
theorem rturn_any (s : FS) (r : Bool) (w : World) (ok : OkF s) :
    Calls Try.prog 47 #[.agg (cellsR s), .bool r] w fun e w' => e = .returned (.agg (cellsR (turnOf s r))) ∧ Below w.heap.size w w' := by
  cases hcy : s.cy <;> cases hr : (r && !s.il)
  · exact rturn_c s r _ w ok hcy rfl hr
  · exact rturn_d s r _ w ok hcy rfl hr
  · exact rturn_a s r _ w ok hcy rfl hr
  · exact rturn_b s r _ w ok hcy rfl hr
theorem rturn_v {s s' : FS} {r : Bool} (hs : turnOf s r = s') (w : World) (ok : OkF s) :
    Calls Try.prog 47 #[.agg (cellsR s), .bool r] w fun e w' => e = .returned (.agg (cellsR s')) ∧ Below w.heap.size w w' := by
  rw [← hs]; exact rturn_any s r w ok
end Go.Proofs.Ythkkfdhgpaonjaa
