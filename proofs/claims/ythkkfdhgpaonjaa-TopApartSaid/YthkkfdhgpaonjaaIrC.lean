/- Layer 24: Waiting, Next of the document's. -/
import Derived.Test.YthkkfdhgpaonjaaIrB
namespace Go.Proofs.Ythkkfdhgpaonjaa
open Go.RowKit
set_option linter.unusedSimpArgs false
set_option linter.unusedVariables false

attribute [local simp high] sizeRv zeroRv
theorem share00_v {a b y : Nat} (h : W64 (shareF a b 0 0) = y) (w : World) (ha : a < 18446744073709551616) (hb : b < 18446744073709551616) :
    Calls Try.prog 96 #[.int .u64 (a : Int), .int .u64 (b : Int), .int .u64 0, .int .u64 0] w fun e w' => e = .returned (.int .u64 (y : Int)) ∧ Below w.heap.size w w' := by
  rw [← h]; exact share_any a b 0 0 w ha hb (by omega) (by omega)
theorem share0_v {a b c y : Nat} (h : W64 (shareF a b c 0) = y) (w : World) (ha : a < 18446744073709551616) (hb : b < 18446744073709551616) (hc : c < 18446744073709551616) :
    Calls Try.prog 96 #[.int .u64 (a : Int), .int .u64 (b : Int), .int .u64 (c : Int), .int .u64 0] w fun e w' => e = .returned (.int .u64 (y : Int)) ∧ Below w.heap.size w w' := by
  rw [← h]; exact share_any a b c 0 w ha hb hc (by omega)
theorem share1_v {a b c y : Nat} (h : W64 (shareF a b c 1) = y) (w : World) (ha : a < 18446744073709551616) (hb : b < 18446744073709551616) (hc : c < 18446744073709551616) :
    Calls Try.prog 96 #[.int .u64 (a : Int), .int .u64 (b : Int), .int .u64 (c : Int), .int .u64 1] w fun e w' => e = .returned (.int .u64 (y : Int)) ∧ Below w.heap.size w w' := by
  rw [← h]; exact share_any a b c 1 w ha hb hc (by omega)
set_option maxRecDepth 100000 in
set_option maxHeartbeats 4000000 in
theorem rwaiting_v {s : FS} {L y : Nat} (hy : waitOf s L = y) (w : World) (ok : OkF s) (hL : L < 18446744073709551616) :
    Calls Try.prog 54 #[.agg (cellsR s), .int .u64 (L : Int)] w fun e w' => e = .returned (.int .u64 (y : Int)) ∧ Below w.heap.size w w' := by
  obtain ⟨p, hp⟩ : ∃ x, getOf s 836 L = x := ⟨_, rfl⟩
  obtain ⟨q, hq⟩ : ∃ x, s.g 10 = x := ⟨_, rfl⟩
  have p64 : p < 18446744073709551616 := by rw [← hp]; exact getOf_lt ok _ _ hL
  have q64 : q < 18446744073709551616 := by rw [← hq]; exact ok.g 10
  have HS : Hid (W64 (shareF p q 0 0) = y) := by show _ = _; rw [share00 _ _ p64, ← hy]; unfold waitOf; rw [hp, hq]
  have P := Lib.hid hp
  have Q := Lib.hid hq
  clear hp hq hy
  have l1 := zeroRv
  have l2 := sizeRv
  have l3 := size_cellsR
  have k0 := heap_alloc_new w (.cells (cellsR s) 34)
  have F0 := (Fr.refl w).alloc (.cells (cellsR s) 34)
  go_enter Try.func54, Try.ntmps54
  go_wp2_with fail
  obtain ⟨WA, hWA⟩ : ∃ WA, w.alloc (.cells (cellsR s) 34) = WA := ⟨_, rfl⟩
  rw [hWA] at k0 F0 ⊢
  clear hWA
  have lsA : ∀ w' : World, w'.heap[w.heap.size]? = some (.cells (cellsR s) 34) → (loadCellsFrom ⟨w.heap.size, 0, none⟩ 0 szR #[]).run Try.prog w' = .ok (cellsR s) w' := fun w' h => ldR h
  go_region_held3 (fun w' => Fr w.heap.size w w' ∧ w'.heap[w.heap.size]? = some (.cells (cellsR s) 34))
    (first | exact ⟨Fr.step (And.left ‹_›) ‹_›, keepB ‹_› (And.right ‹_›)⟩ | exact ⟨F0, k0⟩ | exact ⟨F0.drew, k0⟩ | go_keep)
    (first
      | (go_at_call 86; refine (rget_v P.out _ ok hL).mono ?_; rintro e w' ⟨rfl, hb⟩)
      | (go_at_call 90; (with_reducible refine (word_n nm_mie Q.out _).mono ?_); rintro e w' ⟨rfl, hb⟩)
      | (go_at_call 96; refine (share00_v HS.out _ p64 q64).mono ?_; rintro e w' ⟨rfl, hb⟩))
  rename_i w9 hS9
  go_wp2
  go_ret
  exact ⟨rfl, hS9.1.1⟩
set_option maxRecDepth 100000 in
set_option maxHeartbeats 4000000 in
theorem rnext_any (s : FS) (p : Int) (L : Nat) (w : World) (ok : OkF s) (hL : L < 18446744073709551616) :
    Calls Try.prog 53 #[.agg (cellsR s), .int .i64 p, .int .u64 (L : Int)] w fun e w' => e = .returned (causeV (nextOf s p L)) ∧ Below w.heap.size w w' := by
  obtain ⟨a, ha⟩ : ∃ x, getOf s 836 L = x := ⟨_, rfl⟩
  obtain ⟨q, hq⟩ : ∃ x, s.g 10 = x := ⟨_, rfl⟩
  obtain ⟨d, hd⟩ : ∃ x, s.g 9 = x := ⟨_, rfl⟩
  obtain ⟨st, hst⟩ : ∃ x, s.g 7 = x := ⟨_, rfl⟩
  have p64 : a < 18446744073709551616 := by rw [← ha]; exact getOf_lt ok _ _ hL
  have q64 : q < 18446744073709551616 := by rw [← hq]; exact ok.g 10
  have hd64 : d < 18446744073709551616 := by rw [← hd]; exact ok.g 9
  have hst64 : st < 18446744073709551616 := by rw [← hst]; exact ok.g 7
  obtain ⟨b3, hb3⟩ : ∃ y, letsOf st p 3 = y := ⟨_, rfl⟩
  obtain ⟨b1, hb1'⟩ : ∃ y, letsOf st p 1 = y := ⟨_, rfl⟩
  obtain ⟨m, hm⟩ : ∃ y, W64 (shareF a q d 0) = y := ⟨_, rfl⟩
  obtain ⟨u, hu⟩ : ∃ y, W64 (shareF a q d 1) = y := ⟨_, rfl⟩
  obtain ⟨fm, hfm⟩ : ∃ y, firstOf m = y := ⟨_, rfl⟩
  obtain ⟨fu, hfu⟩ : ∃ y, firstOf u = y := ⟨_, rfl⟩
  have hm64 : m < 18446744073709551616 := by rw [← hm]; exact W64_lt _
  have hu64 : u < 18446744073709551616 := by rw [← hu]; exact W64_lt _
  have hm' : machOf s L = m := by
    unfold machOf waitOf
    rw [ha, hq, hd, ← hm]
    rcases share0 a q d p64 with h | h
    · exact h.symm
    · exact (h hd64).elim
  have hu' : supOf s L = u := by unfold supOf waitOf; rw [ha, hq, hd, ← hu]; exact (share1 a q d p64).symm
  have HN : Hid (nextOf s p L = if b3 = true ∧ fm.isSome = true then fm else if b1 = true then fu else none) := by
    show _ = _
    unfold nextOf supN
    rw [hm', hu', hst, hb3, hb1', hfm, hfu]
  have A := Lib.hid ha
  have Q := Lib.hid hq
  have D := Lib.hid hd
  have ST := Lib.hid hst
  have B3 := Lib.hid hb3
  have B1 := Lib.hid hb1'
  have HM := Lib.hid hm
  have HU := Lib.hid hu
  have FM := Lib.hid hfm
  have FU := Lib.hid hfu
  clear ha hq hd hst hb3 hb1' hm hu hfm hfu hm' hu'
  have l1 := zeroRv
  have l2 := sizeRv
  have l3 := size_cellsR
  have k0 := keep_alloc (heap_alloc_new w (.cells (cellsR s) 34)) (.cells #[.bool false, .int .i64 0] 91)
  have z0 : ((w.alloc (.cells (cellsR s) 34)).alloc (.cells #[.bool false, .int .i64 0] 91)).heap[w.heap.size + 1]? = some (.cells #[.bool false, .int .i64 0] 91) := by simpa using heap_alloc_new (w.alloc (.cells (cellsR s) 34)) (.cells #[.bool false, .int .i64 0] 91)
  have F0 := ((Fr.refl w).alloc (.cells (cellsR s) 34)).alloc (.cells #[.bool false, .int .i64 0] 91)
  go_enter Try.func53, Try.ntmps53
  go_wp2_with fail
  obtain ⟨WA, hWA⟩ : ∃ WA, (w.alloc (.cells (cellsR s) 34)).alloc (.cells #[.bool false, .int .i64 0] 91) = WA := ⟨_, rfl⟩
  rw [hWA] at k0 z0 F0 ⊢
  clear hWA
  have lsA : ∀ w' : World, w'.heap[w.heap.size]? = some (.cells (cellsR s) 34) → (loadCellsFrom ⟨w.heap.size, 0, none⟩ 0 szR #[]).run Try.prog w' = .ok (cellsR s) w' := fun w' h => ldR h
  go_region_held3 (fun w' => (Fr w.heap.size w w' ∧ w'.heap[w.heap.size]? = some (.cells (cellsR s) 34)) ∧ w'.heap[w.heap.size + 1]? = some (.cells #[.bool false, .int .i64 0] 91))
    (first | exact heldR2 ‹_› ‹_› | exact ⟨⟨F0, k0⟩, z0⟩ | exact ⟨⟨F0.drew, k0⟩, z0⟩ | go_keep)
    (first
      | (go_at_call 86; refine (rget_v A.out _ ok hL).mono ?_; rintro e w' ⟨rfl, hb⟩)
      | (go_at_call 90; (with_reducible refine (word_n nm_mie Q.out _).mono ?_); rintro e w' ⟨rfl, hb⟩)
      | (go_at_call 90; (with_reducible refine (word_n nm_mideleg D.out _).mono ?_); rintro e w' ⟨rfl, hb⟩))
  rename_i w9 hS9
  obtain ⟨⟨F9, k9⟩, z9⟩ := hS9
  clear F0 k0 z0 lsA
  have ls9 := ldR (P := Try.prog) k9
  go_wp2_with fail
  refine (word_n nm_mstatus ST.out _).mono ?_
  rintro e w10 ⟨rfl, hb10⟩
  have z10 := keepB hb10 z9
  have F10 := F9.step hb10
  clear ls9 F9 k9 z9
  go_wp2_with fail
  refine (irlets_v B3.out _ hst64).mono ?_
  rintro e w4 ⟨rfl, rfl⟩
  cases b3
  · go_wp2_with fail
    refine (irlets_v B1.out _ hst64).mono ?_
    rintro e w6 ⟨rfl, rfl⟩
    cases b1
    · have HNN : nextOf s p L = none := by rw [HN.out]; simp
      obtain ⟨y0, y1⟩ := two_cells z10
      have yf := not_frozen z10
      have ys := lt_of_at z10
      go_wp2
      refine bodyPost_ret (v := causeV (none)) (by simp [results, causeV, Try.results53, go_sem, y0, y1, ys]) rfl ⟨by rw [HNN], ?_⟩
      refine Fr.below ?_; repeat (first | exact F10 | refine Fr.alloc ?_ _ | refine Fr.drew ?_ | refine Fr.setCell ?_ (by simp) _)
    · go_wp2_with fail
      refine (share1_v HU.out _ p64 q64 hd64).mono ?_
      rintro e w7 ⟨rfl, hb7⟩
      have z7 := keepB hb7 (z10)
      have F7 := Fr.step (F10) hb7
      go_wp2_with fail
      refine (rfirst_v FU.out _ hu64).mono ?_
      rintro e w8 ⟨rfl, hb8⟩
      have z8 := keepB hb8 z7
      have F8 := F7.step hb8
      obtain ⟨y0, y1⟩ := two_cells z8
      have yf := not_frozen z8
      have ys := lt_of_at z8
      cases fu with
      | none =>
        have HNN : nextOf s p L = none := by rw [HN.out]; simp
        simp only [causeV]
        go_wp2
        refine bodyPost_ret (v := causeV (none)) (by simp [results, causeV, Try.results53, go_sem, y0, y1, ys]) rfl ⟨by rw [HNN], ?_⟩
        refine Fr.below ?_; repeat (first | exact F8 | refine Fr.alloc ?_ _ | refine Fr.drew ?_ | refine Fr.setCell ?_ (by simp) _)
      | some c =>
        have HNN : nextOf s p L = some c := by rw [HN.out]; simp
        simp only [causeV]
        go_wp2
        refine bodyPost_ret (v := causeV (some c)) (by simp [results, causeV, Try.results53, go_sem, y0, y1, ys]) rfl ⟨by rw [HNN], ?_⟩
        refine Fr.below ?_; repeat (first | exact F8 | refine Fr.alloc ?_ _ | refine Fr.drew ?_ | refine Fr.setCell ?_ (by simp) _)
  · go_wp2_with fail
    refine (share0_v HM.out _ p64 q64 hd64).mono ?_
    rintro e w11 ⟨rfl, hb11⟩
    have z11 := keepB hb11 z10
    have F11 := F10.step hb11
    go_wp2_with fail
    refine (rfirst_v FM.out _ hm64).mono ?_
    rintro e w5 ⟨rfl, hb5⟩
    have z5 := keepB hb5 z11
    have F5 := F11.step hb5
    cases fm with
    | some c =>
      have HNN : nextOf s p L = some c := by rw [HN.out]; simp
      obtain ⟨y0, y1⟩ := two_cells z5
      have yf := not_frozen z5
      have ys := lt_of_at z5
      simp only [causeV]
      go_wp2
      refine bodyPost_ret (v := causeV (some c)) (by simp [results, causeV, Try.results53, go_sem, y0, y1, ys]) rfl ⟨by rw [HNN], ?_⟩
      refine Fr.below ?_; repeat (first | exact F5 | refine Fr.alloc ?_ _ | refine Fr.drew ?_ | refine Fr.setCell ?_ (by simp) _)
    | none =>
      simp only [causeV]
      go_wp2_with fail
      refine (irlets_v B1.out _ hst64).mono ?_
      rintro e w6 ⟨rfl, rfl⟩
      cases b1
      · have HNN : nextOf s p L = none := by rw [HN.out]; simp
        obtain ⟨y0, y1⟩ := two_cells z5
        have yf := not_frozen z5
        have ys := lt_of_at z5
        go_wp2
        refine bodyPost_ret (v := causeV (none)) (by simp [results, causeV, Try.results53, go_sem, y0, y1, ys]) rfl ⟨by rw [HNN], ?_⟩
        refine Fr.below ?_; repeat (first | exact F5 | refine Fr.alloc ?_ _ | refine Fr.drew ?_ | refine Fr.setCell ?_ (by simp) _)
      · go_wp2_with fail
        refine (share1_v HU.out _ p64 q64 hd64).mono ?_
        rintro e w7 ⟨rfl, hb7⟩
        have z7 := keepB hb7 (keep_alloc z5 _)
        have F7 := Fr.step (Fr.alloc F5 _) hb7
        go_wp2_with fail
        refine (rfirst_v FU.out _ hu64).mono ?_
        rintro e w8 ⟨rfl, hb8⟩
        have z8 := keepB hb8 z7
        have F8 := F7.step hb8
        obtain ⟨y0, y1⟩ := two_cells z8
        have yf := not_frozen z8
        have ys := lt_of_at z8
        cases fu with
        | none =>
          have HNN : nextOf s p L = none := by rw [HN.out]; simp
          simp only [causeV]
          go_wp2
          refine bodyPost_ret (v := causeV (none)) (by simp [results, causeV, Try.results53, go_sem, y0, y1, ys]) rfl ⟨by rw [HNN], ?_⟩
          refine Fr.below ?_; repeat (first | exact F8 | refine Fr.alloc ?_ _ | refine Fr.drew ?_ | refine Fr.setCell ?_ (by simp) _)
        | some c =>
          have HNN : nextOf s p L = some c := by rw [HN.out]; simp
          simp only [causeV]
          go_wp2
          refine bodyPost_ret (v := causeV (some c)) (by simp [results, causeV, Try.results53, go_sem, y0, y1, ys]) rfl ⟨by rw [HNN], ?_⟩
          refine Fr.below ?_; repeat (first | exact F8 | refine Fr.alloc ?_ _ | refine Fr.drew ?_ | refine Fr.setCell ?_ (by simp) _)
end Go.Proofs.Ythkkfdhgpaonjaa
