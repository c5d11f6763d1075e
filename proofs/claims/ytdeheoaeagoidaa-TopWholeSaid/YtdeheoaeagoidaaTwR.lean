/- shard's Do. -/
import Derived.Test.YtdeheoaeagoidaaTwQ
namespace Go.Proofs.Ytdeheoaeagoidaa
open Go.RowKit
set_option linter.unusedSimpArgs false
set_option linter.unusedVariables false

theorem ShAt.mono {w : World} {s r m k k' L : Nat} {g : Nat → Nat → Nat} (h : ShAt w s r m k L g) (hk : k ≤ k') : ShAt w s r m k' L g := ⟨h.1, h.2.mono hk⟩
theorem may_all (s r m q L a : Nat) (k d : Int) (g : Nat → Nat → Nat) (w : World) (hS : ShAt w s r m q L g) (hL : L ≤ 4096) (hk : k = 2 ∨ k = 3) (ha : 2147483648 ≤ a) (ha2 : a + 8 ≤ 2147483648 + 64 * L) :
    Calls Try.prog 18 #[.pointer (some ⟨s, 0, none⟩), .agg (askC k a d)] w fun e w' => e = .returned (.bool true) ∧ Below w.heap.size w w' := by
  by_cases hq : a % 64 ≤ 56
  · exact may_one s r m q L a k d g w hS hL hk ha ha2 hq
  · exact may_two s r m q L a (64 - a % 64) (8 - (64 - a % 64)) k d g w hS hL hk ha ha2 (by omega) (by omega) (by omega) (by omega)
theorem get_all (s r m q L a : Nat) (k d : Int) (g : Nat → Nat → Nat) (w : World) (okg : ∀ i, OkL (g i)) (hS : ShAt w s r m q L g) (hL : L ≤ 4096) (ha : 2147483648 ≤ a) (ha2 : a + 8 ≤ 2147483648 + 64 * L) {D : Nat} (hD : numL (fl g) (a - 2147483648) 8 = D) :
    Calls Try.prog 23 #[.pointer (some ⟨s, 0, none⟩), .agg (askC k a d)] w fun e w' => e = .returned (.int .u64 (D : Int)) ∧ Below w.heap.size w w' := by
  rw [← hD]
  by_cases hq : a % 64 ≤ 56
  · exact get_one s r m q L a k d g w okg hS hL ha ha2 hq
  · exact get_two s r m q L a (64 - a % 64) (8 - (64 - a % 64)) k d g w okg hS hL ha ha2 (by omega) (by omega) (by omega) (by omega)
theorem put_all (s r m q L a v : Nat) (k d but : Int) (g : Nat → Nat → Nat) (w : World) (okg : ∀ i, OkL (g i)) (hv : v < 18446744073709551616) (hS : ShAt w s r m q L g) (hL : L ≤ 4096) (hk : q < 900000) (ha : 2147483648 ≤ a) (ha2 : a + 8 ≤ 2147483648 + 64 * L) :
    Calls Try.prog 24 #[.pointer (some ⟨s, 0, none⟩), .int .i64 but, .agg (askC k a d), .int .u64 (v : Int)] w fun e w' => e = .returned (.tuple #[]) ∧ Wrote m w w' ∧ ∃ g', ShAt w' s r m (q + 4) L g' ∧ (∀ i, OkL (g' i)) ∧ numL (fl g') (a - 2147483648) 8 = v := by
  by_cases hq : a % 64 ≤ 56
  · exact (put_one s r m q L a v k d but g w okg hv hS hL hk ha ha2 hq).mono fun e w' ⟨h1, h2, g', h3, h4⟩ => ⟨h1, h2, g', h3.mono (by omega), h4⟩
  · exact put_two s r m q L a (64 - a % 64) (8 - (64 - a % 64)) v k d but g w okg hv hS hL hk ha ha2 (by omega) (by omega) (by omega) (by omega)
theorem Wrote.row {b : Nat} {w w1 : World} (h : Wrote b w w1) (c : Array Value) : Wrote b w (w1.setRow b c) :=
  ⟨fun B w0 hB hf => (h.1 B w0 hB hf).row hB c, fun b' o' hne ho => keep_row (h.2 b' o' hne ho) (fun e => hne e.symm) c⟩
theorem Wrote.newCell {p b o : Nat} {w w1 : World} (h : Wrote p w w1) (hb : w.heap.size ≤ b) (v : Value) : Wrote p w (w1.setCell ⟨b, o, none⟩ v) :=
  ⟨fun B w0 hB hf => (h.1 B w0 hB hf).setCell (p := ⟨b, o, none⟩) (Nat.le_trans hf.2 hb) v, fun b' o' hne ho => keep_setCell (h.2 b' o' hne ho) (p := ⟨b, o, none⟩) (fun e => by have := lt_of_at ho; simp at e; omega) v⟩
theorem Wrote.newRow {p b : Nat} {w w1 : World} (h : Wrote p w w1) (hb : w.heap.size ≤ b) (c : Array Value) : Wrote p w (w1.setRow b c) :=
  ⟨fun B w0 hB hf => (h.1 B w0 hB hf).row (Nat.le_trans hf.2 hb) c, fun b' o' hne ho => keep_row (h.2 b' o' hne ho) (fun e => by have := lt_of_at ho; omega) c⟩
/-- An answer: its number. -/
def ansC (d : Int) : Array Value := #[.int .u64 d, .bool false, .bool false, .bool false, .bool false, .int .u64 0, .int .i64 0, .bool false, .bool false, .bool false, .int .u64 0, .int .i64 0, .bool false, .bool false, .bool false, .int .u64 0, .int .i64 0, .bool false, .bool false, .bool false, .int .u64 0, .int .i64 0, .bool false, .bool false, .bool false, .int .u64 0, .int .i64 0, .bool false, .bool false, .bool false, .int .u64 0, .int .i64 0, .bool false, .bool false, .bool false, .int .u64 0, .int .i64 0, .bool false, .bool false, .bool false, .int .u64 0, .int .i64 0]
def sz42 : Nat := 42
theorem size_ansC (d : Int) : (ansC d).size = sz42 := rfl
theorem one_ansC (d : Int) : (ansC d).all (·.oneCell') = true := by simp [ansC, Value.oneCell']
theorem sizeAns (w : World) : (sizeOf 52).run Try.prog w = .ok sz42 w := by rw [Try.sizeOf52]; rfl
theorem zeroAns (w : World) : (zeroValue 52).run Try.prog w = .ok (.agg (ansC 0)) w := by rw [Try.zeroValue52]; rfl
theorem infoAns : (Try.prog.info? 52).map (·.size) = some 42 := by kernel_rfl
theorem stnAns (w : World) (d d' : Int) : (storeCells ⟨w.heap.size, 0, none⟩ (ansC d').toList).run Try.prog (w.alloc (.cells (ansC d) 52)) = .ok () (w.alloc (.cells (ansC d') 52)) :=
  run_storeCells_new w _ _ _ infoAns rfl (one_ansC d')
theorem stAns {w : World} {b : Nat} {d : Int} {t : TypeId} (P : Program) (h : w.heap[b]? = some (.cells (ansC d) t)) (d' : Int) : (storeCells ⟨b, 0, none⟩ (ansC d').toList).run P w = .ok () (w.setRow b (ansC d')) := by
  have := run_storeCells_from (P := P) b t (ansC d').toList 0 (ansC d) w h (by simp [show (ansC d').size = 42 from rfl, show (ansC d).size = 42 from rfl]) (fun v hv => (Array.all_eq_true_iff_forall_mem.1 (one_ansC d')) v (by simpa using hv))
  simpa [show (ansC d').size = 42 from rfl, show (ansC d).size = 42 from rfl] using this
theorem lvAns {w : World} {b : Nat} {d : Int} {t : TypeId} (h : w.heap[b]? = some (.cells (ansC d) t)) : (loadVar 52 ⟨b, 0, none⟩).run Try.prog w = .ok (.agg (ansC d)) w :=
  run_loadVar_row w b _ _ _ _ _ h Try.underlying52 rfl (by rw [infoAns]; rfl)
theorem setAns {w : World} {b : Nat} {d : Int} {t : TypeId} (h : w.heap[b]? = some (.cells (ansC d) t)) (d' : Int) : (w.setCell ⟨b, 0, none⟩ (.int .u64 d')).heap[b]? = some (.cells (ansC d') t) := set_at h 0 _
theorem bdAns (d : Int) (w : World) : (Instr.build 52 #[(0, .int .u64 d)]).run Try.prog w = .ok (.agg (ansC d)) w := by
  simp [Instr.build, zeroAns, go_sem]
  rfl
attribute [local simp high] sizeAsk sizeAns zeroAns
set_option maxRecDepth 100000 in
set_option maxHeartbeats 8000000 in
theorem do_load (s r m q L a h D : Nat) (d : Int) (g : Nat → Nat → Nat) (w : World) (okg : ∀ i, OkL (g i)) (hS : ShAt w s r m q L g) (hL : L ≤ 4096) (ha : 2147483648 ≤ a) (ha2 : a + 8 ≤ 2147483648 + 64 * L) (hh : h < L) (hD : numL (fl g) (a - 2147483648) 8 = D) :
    Calls Try.prog 11 #[.pointer (some ⟨s, 0, none⟩), .int .i64 (h : Int), .agg (askC 2 a d)] w fun e w' => e = .returned (.tuple #[.agg (ansC D), .bool true]) ∧ Below w.heap.size w w' := by
  have F0 := ((Fr.refl w).alloc (.cells (askC 2 a d) 46)).alloc (.cells (ansC 0) 52)
  have kz := keep_alloc (heap_alloc_new w (.cells (askC 2 a d) 46)) (.cells (ansC 0) 52)
  have ky : ((w.alloc (.cells (askC 2 a d) 46)).alloc (.cells (ansC 0) 52)).heap[w.heap.size + 1]? = some (.cells (ansC 0) 52) := by have h := heap_alloc_new (w.alloc (.cells (askC 2 a d) 46)) (.cells (ansC 0) 52); have e : (w.alloc (.cells (askC 2 a d) 46)).heap.size = w.heap.size + 1 := by simp
                                                                                                                                     rw [e] at h; exact h
  have S0 := hS.keep F0.1
  have hs := size_askC 2 a d
  have hs2 := size_ansC
  have ld := ldRow (P := Try.prog) kz (size_askC 2 a d)
  have HM := Lib.hid (fun w hS => may_all s r m q L a 2 d g w hS hL (.inl rfl) ha ha2)
  have HG := Lib.hid (fun w hS => get_all s r m q L a 2 d g w okg hS hL ha ha2 hD)
  have h0 : decide ((h : Int) < 0) = false := by simp
  have h1 : decide ((L : Int) ≤ h) = false := by simp; omega
  have h1' : decide (L ≤ h) = false := by simp; omega
  clear ha ha2 hD okg hh
  go_enter Try.func11, Try.ntmps11
  go_wp2_with fail
  refine (HM.out _ S0).mono ?_
  rintro e w1 ⟨rfl, hb1⟩
  have kz1 := keepB hb1 kz
  have ky1 := keepB hb1 ky
  have F1 := F0.step hb1
  have S1 := S0.keep hb1
  have ld1 := ldRow (P := Try.prog) kz1 (size_askC 2 a d)
  obtain ⟨s0, s1, s1', s2, sl⟩ := S1.cells
  clear ld kz ky F0 S0 hb1
  go_wp2_with fail
  refine (HG.out _ S1).mono ?_
  rintro e w2 ⟨rfl, hb2⟩
  have kz2 := keepB hb2 kz1
  have ky2 := keepB hb2 ky1
  have F2 := F1.step hb2
  have S2 := S1.keep hb2
  have al := (Fr.refl w2).alloc (.cells (ansC D) 52)
  have kz3 := keepB al.1 kz2
  have ky3 := keepB al.1 ky2
  have kb3 := heap_alloc_new w2 (.cells (ansC D) 52)
  have bd := bdAns
  have stn := stnAns w2
  have stn' : (storeCells ⟨w2.heap.size, 0, none⟩ ((ansC 0).toList.set 0 (.int .u64 (D : Int)))).run Try.prog (w2.alloc (.cells (ansC 0) 52)) = .ok () (w2.alloc (.cells (ansC D) 52)) := stnAns w2 0 D
  have p42 : 0 < sz42 := by decide
  obtain ⟨c0, c1, c2, c3, c4, c6, c2', c3'⟩ := knownAsk kz3
  have ldb := ldRow (P := Try.prog) kb3 (size_ansC D)
  have sty := stAns Try.prog ky3 D
  have EE := Lib.hid (lvAns (row_at ky3 (ansC D)))
  have F3 := Lib.hid ((F2.alloc (.cells (ansC D) 52)).row (b := w.heap.size + 1) (by omega) (ansC D))
  have hs3 := size_ansC D
  clear ld1 kz1 ky1 F1 S1 hb2 s0 s1 s1' s2 sl kz2 ky2 F2 al kz3 ky3 kb3 hs2
  go_wp2_with fail
  refine bodyPost_ret (v := .tuple #[.agg (ansC D), .bool true]) (by simp [results, Try.results11, asAddr, Act.put, EE.out]) rfl ⟨rfl, F3.out.1⟩
set_option maxRecDepth 100000 in
set_option maxHeartbeats 8000000 in
theorem do_store (s r m q L a h v : Nat) (g : Nat → Nat → Nat) (w : World) (okg : ∀ i, OkL (g i)) (hv : v < 18446744073709551616) (hS : ShAt w s r m q L g) (hL : L ≤ 4096) (hk : q < 900000) (ha : 2147483648 ≤ a) (ha2 : a + 8 ≤ 2147483648 + 64 * L) (hh : h < L) :
    Calls Try.prog 11 #[.pointer (some ⟨s, 0, none⟩), .int .i64 (h : Int), .agg (askC 3 a v)] w fun e w' => e = .returned (.tuple #[.agg (ansC 0), .bool true]) ∧ Wrote m w w' ∧ ∃ g', ShAt w' s r m (q + 4) L g' ∧ (∀ i, OkL (g' i)) ∧ numL (fl g') (a - 2147483648) 8 = v := by
  obtain ⟨D, hD⟩ : ∃ D, numL (fl g) (a - 2147483648) 8 = D := ⟨_, rfl⟩
  have F0 := ((Fr.refl w).alloc (.cells (askC 3 a v) 46)).alloc (.cells (ansC 0) 52)
  have kz := keep_alloc (heap_alloc_new w (.cells (askC 3 a v) 46)) (.cells (ansC 0) 52)
  have ky : ((w.alloc (.cells (askC 3 a v) 46)).alloc (.cells (ansC 0) 52)).heap[w.heap.size + 1]? = some (.cells (ansC 0) 52) := by
    have h := heap_alloc_new (w.alloc (.cells (askC 3 a v) 46)) (.cells (ansC 0) 52)
    have e : (w.alloc (.cells (askC 3 a v) 46)).heap.size = w.heap.size + 1 := by simp
    rw [e] at h; exact h
  have S0 := hS.keep F0.1
  have hs := size_askC 3 a v
  have hs2 := size_ansC
  have ld := ldRow (P := Try.prog) kz (size_askC 3 a v)
  have HM := Lib.hid (fun w hS => may_all s r m q L a 3 v g w hS hL (.inr rfl) ha ha2)
  have HG := Lib.hid (fun w hS => get_all s r m q L a 3 v g w okg hS hL ha ha2 hD)
  have HP := Lib.hid (fun w hS => put_all s r m q L a v 3 v h g w okg hv hS hL hk ha ha2)
  have h0 : decide ((h : Int) < 0) = false := by simp
  have h1 : decide ((L : Int) ≤ h) = false := by simp; omega
  have h1' : decide (L ≤ h) = false := by simp; omega
  have hml : Hid (m < w.heap.size) := Lib.hid hS.lts.2.2
  clear ha ha2 hD okg hh hv
  go_enter Try.func11, Try.ntmps11
  go_wp2_with fail
  refine (HM.out _ S0).mono ?_
  rintro e w1 ⟨rfl, hb1⟩
  have kz1 := keepB hb1 kz
  have ky1 := keepB hb1 ky
  have F1 := F0.step hb1
  have S1 := S0.keep hb1
  have ld1 := ldRow (P := Try.prog) kz1 (size_askC 3 a v)
  obtain ⟨s0, s1, s1', s2, sl⟩ := S1.cells
  clear ld kz ky F0 S0 hb1
  go_wp2_with fail
  refine (HG.out _ S1).mono ?_
  rintro e w2 ⟨rfl, hb2⟩
  have kz2 := keepB hb2 kz1
  have ky2 := keepB hb2 ky1
  have F2 := F1.step hb2
  have S2 := S1.keep hb2
  have al := (Fr.refl w2).alloc (.cells (ansC D) 52)
  have S3 := S2.keep al.1
  have kz3 := keepB al.1 kz2
  have ky3 := keepB al.1 ky2
  have kb3 := heap_alloc_new w2 (.cells (ansC D) 52)
  have bd := bdAns
  have stn := stnAns w2
  have stn' : (storeCells ⟨w2.heap.size, 0, none⟩ ((ansC 0).toList.set 0 (.int .u64 (D : Int)))).run Try.prog (w2.alloc (.cells (ansC 0) 52)) = .ok () (w2.alloc (.cells (ansC D) 52)) := stnAns w2 0 D
  have p42 : 0 < sz42 := by decide
  obtain ⟨c0, c1, c2, c3, c4, c6, c2', c3'⟩ := knownAsk kz3
  have ldb := ldRow (P := Try.prog) kz3 (size_askC 3 a v)
  have HF2 := Lib.hid F2
  have V3 : Hid (Wrote m w (w2.alloc (.cells (ansC D) 52))) := Lib.hid ((Wrote.refl m w).below (F2.alloc _).1)
  have hs3 := size_ansC D
  have hwm : Hid (w.heap.size + 1 ≠ m ∧ w2.heap.size ≠ m ∧ w.heap.size + 1 ≠ w2.heap.size) := Lib.hid (by have := hml.out; have := F1.2; have := lt_of_at ky2; have := S2.lts; omega)
  clear ld1 kz1 ky1 F1 S1 hb2 s0 s1 s1' s2 sl kz2 ky2 F2 al hs2
  go_wp2_with fail
  refine (HP.out _ S3).mono ?_
  rintro e w4 ⟨rfl, W4, g', S4, ok4, hn4⟩
  have ky4 := W4.2 _ _ hwm.out.1 ky3
  have kb4 := W4.2 _ _ hwm.out.2.1 kb3
  have kb5 := setAns kb4 0
  have ky5 := keep_setCell ky4 (p := ⟨w2.heap.size, 0, none⟩) (fun e => hwm.out.2.2 e.symm) (.int .u64 0)
  have cb4 : w4.cell? ⟨w2.heap.size, 0, none⟩ = some (.int .u64 (D : Int)) := by rw [cell_at kb4]; rfl
  have cf4 : w4.frozen? ⟨w2.heap.size, 0, none⟩ = false := by simp [World.frozen?, kb4]
  have ldb5 := ldRow (P := Try.prog) kb5 (size_ansC 0)
  have sty := stAns Try.prog ky5 0
  have EE := Lib.hid (lvAns (row_at ky5 (ansC 0)))
  have HS4 := Lib.hid S4
  have HOK := Lib.hid (And.intro ok4 hn4)
  have HW := Lib.hid (V3.out.trans W4)
  clear S3 kz3 ky3 kb3 stn stn' c0 c1 c2 c3 c4 c6 c2' c3' ldb W4 S4 ok4 hn4 ky4 kb4 kb5 ky5
  go_wp2_with fail
  have hl := hS.lts
  have SE := ((HS4.out.wrote ((Wrote.refl w2.heap.size w4).setCell 0 (.int .u64 0)) (by have := HF2.out.2; omega) (by have := HF2.out.2; omega) (by have := HF2.out.2; omega)).wrote ((Wrote.refl (w.heap.size + 1) _).row (ansC 0)) (by omega) (by omega) (by omega))
  refine bodyPost_ret (v := .tuple #[.agg (ansC 0), .bool true]) (by simp [results, Try.results11, asAddr, Act.put, EE.out]) rfl ⟨rfl, (HW.out.newCell HF2.out.2 _).newRow (by omega) _, g', SE, HOK.out.1, HOK.out.2⟩
end Go.Proofs.Ytdeheoaeagoidaa
