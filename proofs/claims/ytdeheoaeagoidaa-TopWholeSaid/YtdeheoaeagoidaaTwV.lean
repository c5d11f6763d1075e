/- shard's Needs; locks' Plan. -/
import Derived.Test.YtdeheoaeagoidaaTwU
namespace Go.Proofs.Ytdeheoaeagoidaa
open Go.RowKit
set_option linter.unusedSimpArgs false
set_option linter.unusedVariables false
attribute [local simp high] sizeAsk

theorem hneed {w w' : World} {B b : Nat} {o : Obj} {w0 : World} {a : Addr} {v : Value} (hb : Below w.heap.size w w') (h : Fr B w0 w ∧ w.heap[b]? = some o ∧ w.cell? a = some v) : Fr B w0 w' ∧ w'.heap[b]? = some o ∧ w'.cell? a = some v := ⟨h.1.step hb, keepB hb h.2.1, hcell hb h.2.2⟩
set_option maxRecDepth 100000 in
set_option maxHeartbeats 8000000 in
theorem needs_any (s r m q a : Nat) (k d : Int) (g : Nat → Nat → Nat) (w : World) (hS : ShAt w s r m q 2 g) (hk : k = 2 ∨ k = 3) (ha : 2147483705 ≤ a) (ha2 : a < 2147483712) :
    Calls Try.prog 8 #[.pointer (some ⟨s, 0, none⟩), .agg (askC k a d)] w fun e w' => ∃ B g cap, e = .returned (.slice (some ⟨g, 0, none⟩) 2 cap) ∧ w'.ownsRow B 3 1 (.slice (some ⟨g, 0, none⟩) 2 cap) 2 ints01 ∧ Below w.heap.size w w' := by
  have F0 := (Fr.refl w).alloc (.cells (askC k a d) 46)
  have kz := heap_alloc_new w (.cells (askC k a d) 46)
  have S0 := hS.keep F0.1
  have hs := size_askC k a d
  have ld := ldRow (P := Try.prog) kz (size_askC k a d)
  have HM := Lib.hid (fun w hS => may_all s r m q 2 a k d g w hS (by omega) hk (by omega) (by omega))
  have HT := Lib.hid (fun w => stripes_any a (64 - a % 64) (8 - (64 - a % 64)) w ha ha2 (by omega) (by omega) (by omega) (by omega))
  clear ha ha2
  go_enter Try.func8, Try.ntmps8
  go_wp2_with fail
  refine (HM.out _ S0).mono ?_
  rintro e w1 ⟨rfl, hb1⟩
  have kz1 := keepB hb1 kz
  have F1 := F0.step hb1
  have S1 := S0.keep hb1
  have s2 : w1.cell? ⟨s, 1 + 1, none⟩ = some (.int .i64 2) := S1.cells.2.2.1
  have s2' : w1.cell? ⟨s, 2, none⟩ = some (.int .i64 2) := S1.cells.2.2.1
  have sl := lt_of_at S1.1
  have lsA : ∀ w' : World, w'.heap[w.heap.size]? = some (.cells (askC k a d) 46) → (loadCellsFrom ⟨w.heap.size, 0, none⟩ 0 sz19 #[]).run Try.prog w' = .ok (askC k a d) w' := fun w' h => ldRow h (size_askC k a d)
  clear ld kz F0 S0 hb1 S1
  go_wp2_with fail
  go_region_held3 (fun w' => Fr w.heap.size w w' ∧ w'.heap[w.heap.size]? = some (.cells (askC k a d) 46) ∧ w'.cell? ⟨s, 2, none⟩ = some (.int .i64 2))
    (first | exact ⟨F1.drew, kz1, s2'⟩ | exact hneed ‹_› ‹_› | go_keep)
    (first
      | (go_at_call 20; refine (access_any k a d _).mono ?_; rintro e wA ⟨rfl, hbA⟩)
      | (go_at_call 19; refine (HT.out _).mono ?_; rintro e wS ⟨gS, capS, rfl, hoS, hbS⟩))
  rename_i hS2
  have FE := Lib.hid hS2.1
  have RE := Lib.hid hoS
  clear hS2 hoS hbS hbA lsA
  go_wp2_with fail
  go_ret
  exact ⟨_, gS, capS, rfl, RE.out, FE.out.1⟩
set_option maxRecDepth 100000 in
set_option maxHeartbeats 8000000 in
theorem plan_any (B g cap : Nat) (w : World) (h : w.ownsRow B 3 1 (.slice (some ⟨g, 0, none⟩) 2 cap) 2 ints01) :
    Calls Try.prog 7 #[.slice (some ⟨g, 0, none⟩) 2 cap] w fun e w' => ∃ B' g' cap', e = .returned (.agg #[.slice (some ⟨g', 0, none⟩) 2 cap', .int .i64 0, .bool false, .int .i64 0]) ∧ w'.ownsRow B' 3 1 (.slice (some ⟨g', 0, none⟩) 2 cap') 2 ints01 ∧ Below w.heap.size w w' := by
  have HB := Lib.hid (own_keep h ((Fr.refl w).alloc (.cells #[.slice none 0 0, .int .i64 0, .bool false, .int .i64 0] 36)).1)
  have F0 := (Fr.refl w).alloc (.cells #[.slice none 0 0, .int .i64 0, .bool false, .int .i64 0] 36)
  have kz := heap_alloc_new w (.cells #[.slice none 0 0, .int .i64 0, .bool false, .int .i64 0] 36)
  clear h
  go_enter Try.func7, Try.ntmps7
  go_wp2_with fail
  refine (clone01 _ g cap _ HB.out).mono ?_
  rintro e w1 ⟨g1, cap1, rfl, ho1, hb1⟩
  have F1 := F0.step hb1
  have kz1 := keepB hb1 kz
  clear HB F0 kz hb1
  go_wp2_with fail
  refine (sort01 _ g1 cap1 _ ho1).mono ?_
  rintro e w2 ⟨rfl, hb2⟩
  have F2 := F1.step hb2
  have kz2 := keepB hb2 kz1
  have ho2 := own_keep ho1 hb2
  clear F1 kz1 ho1 hb2
  go_wp2_with fail
  refine (compact01 _ g1 cap1 _ ho2).mono ?_
  rintro e w3 ⟨rfl, hb3⟩
  have F3 := Lib.hid (F2.step hb3)
  have kz3 := keepB hb3 kz2
  have HO := Lib.hid (own_keep ho2 hb3)
  clear F2 kz2 ho2 hb3
  have c0 : w3.cell? ⟨w.heap.size, 0, none⟩ = some (.slice none 0 0) := by rw [cell_at kz3]; rfl
  have c1 : w3.cell? ⟨w.heap.size, 1, none⟩ = some (.int .i64 0) := by rw [cell_at kz3]; rfl
  have c2 : w3.cell? ⟨w.heap.size, 2, none⟩ = some (.bool false) := by rw [cell_at kz3]; rfl
  have c3 : w3.cell? ⟨w.heap.size, 3, none⟩ = some (.int .i64 0) := by rw [cell_at kz3]; rfl
  have cf : ∀ o, w3.frozen? ⟨w.heap.size, o, none⟩ = false := fun o => by simp [World.frozen?, kz3]
  go_wp2_with fail
  have kz4 : ((((w3.setCell ⟨w.heap.size, 0, none⟩ (.slice (some ⟨g1, 0, none⟩) 2 cap1)).setCell ⟨w.heap.size, 1, none⟩ (.int .i64 0)).setCell ⟨w.heap.size, 2, none⟩ (.bool false)).setCell ⟨w.heap.size, 3, none⟩ (.int .i64 0)).heap[w.heap.size]? = some (.cells #[.slice (some ⟨g1, 0, none⟩) 2 cap1, .int .i64 0, .bool false, .int .i64 0] 36) := set_at (set_at (set_at (set_at kz3 0 _) 1 _) 2 _) 3 _
  have WR := (((((Wrote.refl w.heap.size w3).setCell 0 (.slice (some ⟨g1, 0, none⟩) 2 cap1)).setCell 1 (.int .i64 0)).setCell 2 (.bool false)).setCell 3 (.int .i64 0))
  have hg1 : g1 ≠ w.heap.size := by have := (own_lt HO.out).1; simp at this; omega
  have HO4 := own_wrote HO.out WR hg1
  have F4 := WR.1 w.heap.size w (Nat.le_refl _) F3.out
  obtain ⟨wF, hwF⟩ : ∃ wF, (((w3.setCell ⟨w.heap.size, 0, none⟩ (.slice (some ⟨g1, 0, none⟩) 2 cap1)).setCell ⟨w.heap.size, 1, none⟩ (.int .i64 0)).setCell ⟨w.heap.size, 2, none⟩ (.bool false)).setCell ⟨w.heap.size, 3, none⟩ (.int .i64 0) = wF := ⟨_, rfl⟩
  rw [hwF] at kz4 HO4 F4 ⊢
  clear hwF WR c0 c1 c2 c3 cf kz3
  have c0 : wF.cell? ⟨w.heap.size, 0, none⟩ = some (.slice (some ⟨g1, 0, none⟩) 2 cap1) := by rw [cell_at kz4]; rfl
  have c1 : wF.cell? ⟨w.heap.size, 1, none⟩ = some (.int .i64 0) := by rw [cell_at kz4]; rfl
  have c2 : wF.cell? ⟨w.heap.size, 2, none⟩ = some (.bool false) := by rw [cell_at kz4]; rfl
  have c3 : wF.cell? ⟨w.heap.size, 3, none⟩ = some (.int .i64 0) := by rw [cell_at kz4]; rfl
  exact bodyPost_ret (v := .agg #[.slice (some ⟨g1, 0, none⟩) 2 cap1, .int .i64 0, .bool false, .int .i64 0]) (by simp [results, Try.results7, go_sem, c0, c1, c2, c3]) rfl ⟨_, g1, cap1, rfl, HO4, F4.1⟩
end Go.Proofs.Ytdeheoaeagoidaa
