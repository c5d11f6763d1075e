/- Layer 23: Leave of both; live. -/
import Derived.Test.YthkkfdhgpaonjaaTrD
namespace Go.Proofs.Ythkkfdhgpaonjaa
open Go.RowKit
set_option linter.unusedSimpArgs false
set_option linter.unusedVariables false

attribute [local simp high] sizeRv zeroRv
attribute [local go_sem ↓] Go.wp_at_zero Go.wp_at_succ
theorem run_fieldG (a b c d : Value) (w : World) : (Instr.field 110 (.agg #[a, b, c, d]) 0).run Try.prog w = .ok a w := by kernel_rfl
theorem leave_v {x : Nat} {t : Int} {y : Nat} {q : Int} (h : leaveOf x t = y) (hq : leaveTo x t = q) (w : World) (hx : x < 18446744073709551616) :
    Calls Try.prog 73 #[.int .u64 (x : Int), .int .i64 t] w fun e w' => e = .returned (.tuple #[.int .u64 (y : Int), .int .i64 q]) ∧ w = w' := by
  rw [← h, ← hq]; exact leave_any x t w hx
theorem rleave_v {x : Nat} {t : Int} {y : Nat} {q : Int} (h : leaveOf x t = y) (hq : leaveTo x t = q) (w : World) (hx : x < 18446744073709551616) :
    Calls Try.prog 104 #[.int .u64 (x : Int), .int .i64 t] w fun e w' => e = .returned (.tuple #[.int .u64 (y : Int), .int .i64 q]) ∧ Below w.heap.size w w' := by
  rw [← h, ← hq]; exact rleave_any x t w hx
theorem lvS_eq {s : FS} {t : Int} (ok : OkF s) (h : t = 1 ∨ t = 3) : setOf s 768 (leaveOf (s.g 7) t) = lvS s t := by
  unfold lvS; rw [if_pos h, setOf_768, legal_leave _ _ (ok.g 7)]
theorem epc_g {s : FS} {t : Int} (h : t = 1 ∨ t = 3) (v : Nat) : getOf (setG s 7 v) (epcN t) 0 = getOf s (epcN t) 0 := by
  rcases h with rfl | rfl
  · rw [show epcN 1 = 321 from rfl, getOf_plain own321 (by omega) (by omega) (by omega) (by omega) (by omega) (by omega) (by omega) (by omega), getOf_plain own321 (by omega) (by omega) (by omega) (by omega) (by omega) (by omega) (by omega) (by omega), setG_other _ _ _ _ (by omega)]
  · rw [show epcN 3 = 833 from rfl, getOf_plain own833 (by omega) (by omega) (by omega) (by omega) (by omega) (by omega) (by omega) (by omega), getOf_plain own833 (by omega) (by omega) (by omega) (by omega) (by omega) (by omega) (by omega) (by omega), setG_other _ _ _ _ (by omega)]
theorem lvPc_eq {s : FS} {t : Int} (h : t = 1 ∨ t = 3) : lvPc s t = getOf (lvS s t) (epcN t) 0 := by
  unfold lvPc lvS; rw [if_pos h, if_pos h, epc_g h]
theorem lvTo_eq {s : FS} {t : Int} (h : t = 1 ∨ t = 3) : lvTo s t = leaveTo (s.g 7) t := by unfold lvTo; rw [if_pos h]
theorem OkF.lv {s : FS} (ok : OkF s) (t : Int) : OkF (lvS s t) := by
  unfold lvS
  split
  · exact ok.setG _ _ (leaveOf_lt _ _ (ok.g 7))
  · exact ok
theorem OkF.ent {s : FS} (ok : OkF s) (i : Bool) (c p : Int) (pc tv : Nat) : OkF (entS s i c p pc tv) := by
  unfold entS
  exact (((ok.set _ _).set _ _).set _ _).setG _ _ (enterOf_lt _ _ _ (ok.g 7))
theorem entV_lt {s : FS} (ok : OkF s) (i : Bool) (c p : Int) : entV s i c p < 18446744073709551616 := vecOf_lt _ _ _ (getOf_lt ok _ _ (by omega))
theorem lvPc_lt {s : FS} (ok : OkF s) (t : Int) : lvPc s t < 18446744073709551616 := by
  unfold lvPc
  split
  · exact getOf_lt ok _ _ (by omega)
  · omega
set_option maxRecDepth 100000 in
set_option maxHeartbeats 4000000 in
theorem tleave_1 (b : Nat) (s : FS) (w : World) (ok : OkF s) (h : w.heap[b]? = some (.cells (cellsF s) 31)) :
    Calls Try.prog 20 #[.pointer (some ⟨b, 0, none⟩), .int .i64 1] w fun e w' => e = .returned (.tuple #[.int .i64 (lvTo s 1), .int .u64 (lvPc s 1 : Int)]) ∧ w'.heap[b]? = some (.cells (cellsF (lvS s 1)) 31) ∧ Wrote b w w' := by
  have h13 : (1 : Int) = 1 ∨ (1 : Int) = 3 := by omega
  obtain ⟨x, hx⟩ : ∃ x, leaveOf (s.g 7) 1 = x := ⟨_, rfl⟩
  obtain ⟨q, hq⟩ : ∃ q, leaveTo (s.g 7) 1 = q := ⟨_, rfl⟩
  obtain ⟨s1, hs1⟩ : ∃ s', lvS s 1 = s' := ⟨_, rfl⟩
  obtain ⟨v, hv⟩ : ∃ v, getOf s1 321 0 = v := ⟨_, rfl⟩
  have S1 : Hid (setOf s 768 x = s1) := by show _ = _; rw [← hx, lvS_eq ok h13, hs1]
  have HO := Lib.hid hs1
  have HT : Hid (lvTo s 1 = q) := by show _ = _; rw [lvTo_eq h13, hq]
  have HV : Hid (lvPc s 1 = v) := by show _ = _; rw [lvPc_eq h13, hs1, show epcN 1 = 321 from rfl, hv]
  have hx64 : x < 18446744073709551616 := by rw [← hx]; exact leaveOf_lt _ _ (ok.g 7)
  have h7 := ok.g 7
  have ok1 : OkF s1 := by rw [← hs1]; exact ok.lv _
  have G7 : Hid (getOf s 768 0 = s.g 7) := rfl
  have X := Lib.hid hx
  have Q := Lib.hid hq
  have V := Lib.hid hv
  have W0 := Lib.hid (Wrote.refl b w)
  have fg := run_fieldG
  clear hx hq hs1 hv h13
  go_enter Try.func20, Try.ntmps20
  go_wp2_with fail
  refine (get_v (L := 0) G7.out _ ok (by omega) h).mono ?_
  rintro e w1 ⟨rfl, hb1⟩
  have k1 := keepB hb1 h
  have W1 := Lib.hid (W0.out.below hb1)
  go_wp2_with fail
  refine (leave_v X.out Q.out _ h7).mono ?_
  rintro e w2 ⟨rfl, rfl⟩
  go_wp2_with fail
  refine (tlay_v S1.out _ ok hx64 k1).mono ?_
  rintro e w3 ⟨⟨v3, rfl⟩, k3, WE3⟩
  have W3 := Lib.hid (W1.out.trans WE3)
  go_wp2_with fail
  refine (group_1 _).mono ?_
  rintro e w4 ⟨rfl, hb4⟩
  have k4 := keepB hb4 k3
  have W4 := Lib.hid (W3.out.below hb4)
  go_wp2_with fail
  refine (get_v (L := 0) V.out _ ok1 (by omega) k4).mono ?_
  rintro e w5 ⟨rfl, hb5⟩
  have K5 := Lib.hid (keepB hb5 k4)
  have W5 := Lib.hid (W4.out.below hb5)
  go_wp2
  go_ret2
  exact ⟨by rw [HT.out, HV.out]; rfl, by rw [HO.out]; exact K5.out, W5.out⟩
set_option maxRecDepth 100000 in
set_option maxHeartbeats 4000000 in
theorem rtleave_1 (s : FS) (w : World) (ok : OkF s) :
    Calls Try.prog 62 #[.agg (cellsR s), .int .i64 1] w fun e w' => e = .returned (.tuple #[.agg (cellsR (lvS s 1)), .int .i64 (lvTo s 1), .int .u64 (lvPc s 1 : Int)]) ∧ Below w.heap.size w w' := by
  have h13 : (1 : Int) = 1 ∨ (1 : Int) = 3 := by omega
  obtain ⟨x, hx⟩ : ∃ x, leaveOf (s.g 7) 1 = x := ⟨_, rfl⟩
  obtain ⟨q, hq⟩ : ∃ q, leaveTo (s.g 7) 1 = q := ⟨_, rfl⟩
  obtain ⟨s1, hs1⟩ : ∃ s', lvS s 1 = s' := ⟨_, rfl⟩
  obtain ⟨v, hv⟩ : ∃ v, s1.g 3 = v := ⟨_, rfl⟩
  have S1 : Hid (setG s 7 x = s1) := by show _ = _; rw [← hs1, ← hx]; unfold lvS; rw [if_pos h13]
  have HO := Lib.hid hs1
  have HT : Hid (lvTo s 1 = q) := by show _ = _; rw [lvTo_eq h13, hq]
  have HV : Hid (lvPc s 1 = v) := by show _ = _; rw [lvPc_eq h13, hs1, show epcN 1 = 321 from rfl, getOf_plain own321 (by omega) (by omega) (by omega) (by omega) (by omega) (by omega) (by omega) (by omega), hv]
  have h7 := ok.g 7
  have X := Lib.hid hx
  have Q := Lib.hid hq
  have V := Lib.hid hv
  have k0 := keep_alloc (heap_alloc_new w (.cells (cellsR s) 34)) (.cells (cellsR zeroF) 34)
  have z0 : ((w.alloc (.cells (cellsR s) 34)).alloc (.cells (cellsR zeroF) 34)).heap[w.heap.size + 1]? = some (.cells (cellsR zeroF) 34) := by simpa using heap_alloc_new (w.alloc (.cells (cellsR s) 34)) (.cells (cellsR zeroF) 34)
  have F0 := ((Fr.refl w).alloc (.cells (cellsR s) 34)).alloc (.cells (cellsR zeroF) 34)
  have l1 := zeroRv
  have l2 := sizeRv
  have l3 := size_cellsR
  have ls := ldR (P := Try.prog) k0
  have hne : w.heap.size ≠ w.heap.size + 1 := by omega
  clear hx hq hs1 hv h13
  go_enter Try.func62, Try.ntmps62
  go_wp2_with fail
  refine (word_n nm_mstatus rfl _).mono ?_
  rintro e w1 ⟨rfl, hb1⟩
  have k1 := keepB hb1 k0
  have z1 := keepB hb1 z0
  have F1 := F0.step hb1
  clear ls k0 z0 F0
  go_wp2_with fail
  refine (rleave_v X.out Q.out _ h7).mono ?_
  rintro e w2 ⟨rfl, hb2⟩
  have k2 := keepB hb2 k1
  have z2 := keepB hb2 z1
  have F2 := F1.step hb2
  have ls := ldR (P := Try.prog) k2
  go_wp2_with fail
  refine (upper_with nm_mstatus S1.out _).mono ?_
  rintro e w3 ⟨rfl, hb3⟩
  have k3 := keepB hb3 k2
  have z3 := keepB hb3 z2
  have F3 := F2.step hb3
  have ss := stR Try.prog k3 s1
  have k4 := row_at k3 (cellsR s1)
  have z4 := keep_row z3 hne (cellsR s1)
  have F4 := F3.row (Nat.le_refl _) (cellsR s1)
  have K4 := Lib.hid k4
  have Z4 := Lib.hid z4
  have F4' := Lib.hid F4
  clear ls k1 z1 F1 k2 z2 F2 k3 z3 F3 k4 z4 F4
  go_wp2_with fail
  clear ss
  have hS5 : (Fr w.heap.size w (w3.setRow w.heap.size (cellsR s1)).drew ∧ (w3.setRow w.heap.size (cellsR s1)).drew.heap[w.heap.size]? = some (.cells (cellsR s1) 34)) ∧ (w3.setRow w.heap.size (cellsR s1)).drew.heap[w.heap.size + 1]? = some (.cells (cellsR zeroF) 34) := ⟨⟨F4'.out.drew, K4.out⟩, Z4.out⟩
  obtain ⟨W5, hW5⟩ : ∃ W5, w3.setRow w.heap.size (cellsR s1) = W5 := ⟨_, rfl⟩
  rw [hW5] at hS5 ⊢
  clear K4 Z4 F4' hW5
  have ls5 := ldR (P := Try.prog) hS5.1.2
  have lsA : ∀ w' : World, w'.heap[w.heap.size]? = some (.cells (cellsR s1) 34) → (loadCellsFrom ⟨w.heap.size, 0, none⟩ 0 szR #[]).run Try.prog w' = .ok (cellsR s1) w' := fun w' h => ldR h
  have stA : ∀ w' : World, w'.heap[w.heap.size + 1]? = some (.cells (cellsR zeroF) 34) → (storeCells ⟨w.heap.size + 1, 0, none⟩ (cellsR s1).toList).run Try.prog w' = .ok () (w'.setRow (w.heap.size + 1) (cellsR s1)) := fun w' h => stR _ h s1
  go_region_with ((go_at_call 90; refine (word_n nm_sepc V.out _).mono ?_; rintro e w' ⟨rfl, hb⟩; have hS := heldR2 hb ‹_›))
  all_goals
    have EE := Lib.hid (lvR (row_at hS.2 (cellsR s1)))
    have FF := Lib.hid (hS.1.1.row (Nat.le_succ _) (cellsR s1))
    clear lsA stA ls5
    go_wp2
    refine bodyPost_ret (v := .tuple #[.agg (cellsR s1), .int .i64 q, .int .u64 (v : Int)]) (by simp [results, Try.results62, asAddr, Act.put, EE.out]) rfl ⟨by rw [HO.out, HT.out, HV.out], FF.out.1⟩
set_option maxRecDepth 100000 in
set_option maxHeartbeats 4000000 in
theorem tleave_3 (b : Nat) (s : FS) (w : World) (ok : OkF s) (h : w.heap[b]? = some (.cells (cellsF s) 31)) :
    Calls Try.prog 20 #[.pointer (some ⟨b, 0, none⟩), .int .i64 3] w fun e w' => e = .returned (.tuple #[.int .i64 (lvTo s 3), .int .u64 (lvPc s 3 : Int)]) ∧ w'.heap[b]? = some (.cells (cellsF (lvS s 3)) 31) ∧ Wrote b w w' := by
  have h13 : (3 : Int) = 1 ∨ (3 : Int) = 3 := by omega
  obtain ⟨x, hx⟩ : ∃ x, leaveOf (s.g 7) 3 = x := ⟨_, rfl⟩
  obtain ⟨q, hq⟩ : ∃ q, leaveTo (s.g 7) 3 = q := ⟨_, rfl⟩
  obtain ⟨s1, hs1⟩ : ∃ s', lvS s 3 = s' := ⟨_, rfl⟩
  obtain ⟨v, hv⟩ : ∃ v, getOf s1 833 0 = v := ⟨_, rfl⟩
  have S1 : Hid (setOf s 768 x = s1) := by show _ = _; rw [← hx, lvS_eq ok h13, hs1]
  have HO := Lib.hid hs1
  have HT : Hid (lvTo s 3 = q) := by show _ = _; rw [lvTo_eq h13, hq]
  have HV : Hid (lvPc s 3 = v) := by show _ = _; rw [lvPc_eq h13, hs1, show epcN 3 = 833 from rfl, hv]
  have hx64 : x < 18446744073709551616 := by rw [← hx]; exact leaveOf_lt _ _ (ok.g 7)
  have h7 := ok.g 7
  have ok1 : OkF s1 := by rw [← hs1]; exact ok.lv _
  have G7 : Hid (getOf s 768 0 = s.g 7) := rfl
  have X := Lib.hid hx
  have Q := Lib.hid hq
  have V := Lib.hid hv
  have W0 := Lib.hid (Wrote.refl b w)
  have fg := run_fieldG
  clear hx hq hs1 hv h13
  go_enter Try.func20, Try.ntmps20
  go_wp2_with fail
  refine (get_v (L := 0) G7.out _ ok (by omega) h).mono ?_
  rintro e w1 ⟨rfl, hb1⟩
  have k1 := keepB hb1 h
  have W1 := Lib.hid (W0.out.below hb1)
  go_wp2_with fail
  refine (leave_v X.out Q.out _ h7).mono ?_
  rintro e w2 ⟨rfl, rfl⟩
  go_wp2_with fail
  refine (tlay_v S1.out _ ok hx64 k1).mono ?_
  rintro e w3 ⟨⟨v3, rfl⟩, k3, WE3⟩
  have W3 := Lib.hid (W1.out.trans WE3)
  go_wp2_with fail
  refine (group_3 _).mono ?_
  rintro e w4 ⟨rfl, hb4⟩
  have k4 := keepB hb4 k3
  have W4 := Lib.hid (W3.out.below hb4)
  go_wp2_with fail
  refine (get_v (L := 0) V.out _ ok1 (by omega) k4).mono ?_
  rintro e w5 ⟨rfl, hb5⟩
  have K5 := Lib.hid (keepB hb5 k4)
  have W5 := Lib.hid (W4.out.below hb5)
  go_wp2
  go_ret2
  exact ⟨by rw [HT.out, HV.out]; rfl, by rw [HO.out]; exact K5.out, W5.out⟩
set_option maxRecDepth 100000 in
set_option maxHeartbeats 4000000 in
theorem rtleave_3 (s : FS) (w : World) (ok : OkF s) :
    Calls Try.prog 62 #[.agg (cellsR s), .int .i64 3] w fun e w' => e = .returned (.tuple #[.agg (cellsR (lvS s 3)), .int .i64 (lvTo s 3), .int .u64 (lvPc s 3 : Int)]) ∧ Below w.heap.size w w' := by
  have h13 : (3 : Int) = 1 ∨ (3 : Int) = 3 := by omega
  obtain ⟨x, hx⟩ : ∃ x, leaveOf (s.g 7) 3 = x := ⟨_, rfl⟩
  obtain ⟨q, hq⟩ : ∃ q, leaveTo (s.g 7) 3 = q := ⟨_, rfl⟩
  obtain ⟨s1, hs1⟩ : ∃ s', lvS s 3 = s' := ⟨_, rfl⟩
  obtain ⟨v, hv⟩ : ∃ v, s1.g 14 = v := ⟨_, rfl⟩
  have S1 : Hid (setG s 7 x = s1) := by show _ = _; rw [← hs1, ← hx]; unfold lvS; rw [if_pos h13]
  have HO := Lib.hid hs1
  have HT : Hid (lvTo s 3 = q) := by show _ = _; rw [lvTo_eq h13, hq]
  have HV : Hid (lvPc s 3 = v) := by show _ = _; rw [lvPc_eq h13, hs1, show epcN 3 = 833 from rfl, getOf_plain own833 (by omega) (by omega) (by omega) (by omega) (by omega) (by omega) (by omega) (by omega), hv]
  have h7 := ok.g 7
  have X := Lib.hid hx
  have Q := Lib.hid hq
  have V := Lib.hid hv
  have k0 := keep_alloc (heap_alloc_new w (.cells (cellsR s) 34)) (.cells (cellsR zeroF) 34)
  have z0 : ((w.alloc (.cells (cellsR s) 34)).alloc (.cells (cellsR zeroF) 34)).heap[w.heap.size + 1]? = some (.cells (cellsR zeroF) 34) := by simpa using heap_alloc_new (w.alloc (.cells (cellsR s) 34)) (.cells (cellsR zeroF) 34)
  have F0 := ((Fr.refl w).alloc (.cells (cellsR s) 34)).alloc (.cells (cellsR zeroF) 34)
  have l1 := zeroRv
  have l2 := sizeRv
  have l3 := size_cellsR
  have ls := ldR (P := Try.prog) k0
  have hne : w.heap.size ≠ w.heap.size + 1 := by omega
  clear hx hq hs1 hv h13
  go_enter Try.func62, Try.ntmps62
  go_wp2_with fail
  refine (word_n nm_mstatus rfl _).mono ?_
  rintro e w1 ⟨rfl, hb1⟩
  have k1 := keepB hb1 k0
  have z1 := keepB hb1 z0
  have F1 := F0.step hb1
  clear ls k0 z0 F0
  go_wp2_with fail
  refine (rleave_v X.out Q.out _ h7).mono ?_
  rintro e w2 ⟨rfl, hb2⟩
  have k2 := keepB hb2 k1
  have z2 := keepB hb2 z1
  have F2 := F1.step hb2
  have ls := ldR (P := Try.prog) k2
  go_wp2_with fail
  refine (upper_with nm_mstatus S1.out _).mono ?_
  rintro e w3 ⟨rfl, hb3⟩
  have k3 := keepB hb3 k2
  have z3 := keepB hb3 z2
  have F3 := F2.step hb3
  have ss := stR Try.prog k3 s1
  have k4 := row_at k3 (cellsR s1)
  have z4 := keep_row z3 hne (cellsR s1)
  have F4 := F3.row (Nat.le_refl _) (cellsR s1)
  have K4 := Lib.hid k4
  have Z4 := Lib.hid z4
  have F4' := Lib.hid F4
  clear ls k1 z1 F1 k2 z2 F2 k3 z3 F3 k4 z4 F4
  go_wp2_with fail
  clear ss
  have hS5 : (Fr w.heap.size w (w3.setRow w.heap.size (cellsR s1)).drew ∧ (w3.setRow w.heap.size (cellsR s1)).drew.heap[w.heap.size]? = some (.cells (cellsR s1) 34)) ∧ (w3.setRow w.heap.size (cellsR s1)).drew.heap[w.heap.size + 1]? = some (.cells (cellsR zeroF) 34) := ⟨⟨F4'.out.drew, K4.out⟩, Z4.out⟩
  obtain ⟨W5, hW5⟩ : ∃ W5, w3.setRow w.heap.size (cellsR s1) = W5 := ⟨_, rfl⟩
  rw [hW5] at hS5 ⊢
  clear K4 Z4 F4' hW5
  have ls5 := ldR (P := Try.prog) hS5.1.2
  have lsA : ∀ w' : World, w'.heap[w.heap.size]? = some (.cells (cellsR s1) 34) → (loadCellsFrom ⟨w.heap.size, 0, none⟩ 0 szR #[]).run Try.prog w' = .ok (cellsR s1) w' := fun w' h => ldR h
  have stA : ∀ w' : World, w'.heap[w.heap.size + 1]? = some (.cells (cellsR zeroF) 34) → (storeCells ⟨w.heap.size + 1, 0, none⟩ (cellsR s1).toList).run Try.prog w' = .ok () (w'.setRow (w.heap.size + 1) (cellsR s1)) := fun w' h => stR _ h s1
  go_region_with ((go_at_call 90; refine (word_n nm_mepc V.out _).mono ?_; rintro e w' ⟨rfl, hb⟩; have hS := heldR2 hb ‹_›))
  all_goals
    have EE := Lib.hid (lvR (row_at hS.2 (cellsR s1)))
    have FF := Lib.hid (hS.1.1.row (Nat.le_succ _) (cellsR s1))
    clear lsA stA ls5
    go_wp2
    refine bodyPost_ret (v := .tuple #[.agg (cellsR s1), .int .i64 q, .int .u64 (v : Int)]) (by simp [results, Try.results62, asAddr, Act.put, EE.out]) rfl ⟨by rw [HO.out, HT.out, HV.out], FF.out.1⟩
theorem tleave_no (b : Nat) (s : FS) (t : Int) (w : World) (h1 : t ≠ 1) (h3 : t ≠ 3) (h : w.heap[b]? = some (.cells (cellsF s) 31)) :
    Calls Try.prog 20 #[.pointer (some ⟨b, 0, none⟩), .int .i64 t] w fun e w' => e = .returned (.tuple #[.int .i64 (lvTo s t), .int .u64 (lvPc s t : Int)]) ∧ w'.heap[b]? = some (.cells (cellsF (lvS s t)) 31) ∧ Wrote b w w' := by
  have hn : ¬ (t = 1 ∨ t = 3) := by omega
  have HT : Hid (lvTo s t = 0) := by show _ = _; unfold lvTo; rw [if_neg hn]
  have HV : Hid (lvPc s t = 0) := by show _ = _; unfold lvPc; rw [if_neg hn]
  have HO : Hid (lvS s t = s) := by show _ = _; unfold lvS; rw [if_neg hn]
  have b1 : (t != 1) = true := by simpa using h1
  have b3 : (t != 3) = true := by simpa using h3
  clear hn h1 h3
  go_enter Try.func20, Try.ntmps20
  go_wp2
  go_ret2
  exact ⟨by rw [HT.out, HV.out]; rfl, by rw [HO.out]; exact h, Wrote.refl b w⟩
theorem rtleave_no (s : FS) (t : Int) (w : World) (h1 : t ≠ 1) (h3 : t ≠ 3) :
    Calls Try.prog 62 #[.agg (cellsR s), .int .i64 t] w fun e w' => e = .returned (.tuple #[.agg (cellsR (lvS s t)), .int .i64 (lvTo s t), .int .u64 (lvPc s t : Int)]) ∧ Below w.heap.size w w' := by
  have hn : ¬ (t = 1 ∨ t = 3) := by omega
  have HT : Hid (lvTo s t = 0) := by show _ = _; unfold lvTo; rw [if_neg hn]
  have HV : Hid (lvPc s t = 0) := by show _ = _; unfold lvPc; rw [if_neg hn]
  have HO : Hid (lvS s t = s) := by show _ = _; unfold lvS; rw [if_neg hn]
  have b1 : (t != 1) = true := by simpa using h1
  have b3 : (t != 3) = true := by simpa using h3
  clear hn h1 h3
  have k0 := keep_alloc (heap_alloc_new w (.cells (cellsR s) 34)) (.cells (cellsR zeroF) 34)
  have z0 : ((w.alloc (.cells (cellsR s) 34)).alloc (.cells (cellsR zeroF) 34)).heap[w.heap.size + 1]? = some (.cells (cellsR zeroF) 34) := by simpa using heap_alloc_new (w.alloc (.cells (cellsR s) 34)) (.cells (cellsR zeroF) 34)
  have l1 := zeroRv
  have l2 := sizeRv
  have l3 := size_cellsR
  have l4 := stnR_1
  have l6 : ∀ (w : World) (o : Obj) (s : FS), (loadCellsFrom ⟨w.heap.size, 0, none⟩ 0 szR #[]).run Try.prog ((w.alloc (.cells (cellsR s) 34)).alloc o) = .ok (cellsR s) ((w.alloc (.cells (cellsR s) 34)).alloc o) := fun w o s => ldR (keep_alloc (heap_alloc_new _ _) _)
  have E2 := Lib.hid (lvR (w := (w.alloc (.cells (cellsR s) 34)).alloc (.cells (cellsR s) 34)) (b := w.heap.size + 1) (s := s) (t := 34) (by simpa using heap_alloc_new (w.alloc (.cells (cellsR s) 34)) (.cells (cellsR s) 34)))
  have FE := Lib.hid (((Fr.refl w).alloc (.cells (cellsR s) 34)).alloc (.cells (cellsR s) 34))
  go_enter Try.func62, Try.ntmps62
  go_wp2
  refine bodyPost_ret (v := .tuple #[.agg (cellsR s), .int .i64 0, .int .u64 0]) (by simp [results, Try.results62, asAddr, Act.put, E2.out]) rfl ⟨by rw [HO.out, HT.out, HV.out] <;> rfl, FE.out.1⟩
theorem tleave_any (b : Nat) (s : FS) (t : Int) (w : World) (ok : OkF s) (h : w.heap[b]? = some (.cells (cellsF s) 31)) :
    Calls Try.prog 20 #[.pointer (some ⟨b, 0, none⟩), .int .i64 t] w fun e w' => e = .returned (.tuple #[.int .i64 (lvTo s t), .int .u64 (lvPc s t : Int)]) ∧ w'.heap[b]? = some (.cells (cellsF (lvS s t)) 31) ∧ Wrote b w w' := by
  by_cases h1 : t = 1
  · subst h1; exact tleave_1 b s w ok h
  by_cases h3 : t = 3
  · subst h3; exact tleave_3 b s w ok h
  exact tleave_no b s t w h1 h3 h
theorem rtleave_any (s : FS) (t : Int) (w : World) (ok : OkF s) :
    Calls Try.prog 62 #[.agg (cellsR s), .int .i64 t] w fun e w' => e = .returned (.tuple #[.agg (cellsR (lvS s t)), .int .i64 (lvTo s t), .int .u64 (lvPc s t : Int)]) ∧ Below w.heap.size w w' := by
  by_cases h1 : t = 1
  · subst h1; exact rtleave_1 s w ok
  by_cases h3 : t = 3
  · subst h3; exact rtleave_3 s w ok
  exact rtleave_no s t w h1 h3
theorem live23_any (w : World) : Calls Try.prog 58 #[] w fun e w' => e = .returned (.bool true) ∧ Below w.heap.size w w' := by
  have V1 : Hid (vecOf 257 true 7 = 284) := by show _ = _; decide
  have V2 : Hid (vecOf 257 false 7 = 256) := by show _ = _; decide
  have F0 := Fr.refl w
  go_enter Try.func58, Try.ntmps58
  go_wp2_with fail
  refine (vec_v (t := 257) V1.out _ (by omega)).mono ?_
  rintro e w1 ⟨rfl, hb1⟩
  have F1 := F0.alloc (.cells #[.bool true, .int .i64 7] 24)
  go_wp2_with fail
  refine (vec_v (t := 257) V2.out _ (by omega)).mono ?_
  rintro e w2 ⟨rfl, hb2⟩
  go_wp2
  go_ret
  exact ⟨rfl, by first | exact ((F1.step hb1).step hb2).1 | exact ((F0.step hb1).step hb2).1⟩
end Go.Proofs.Ythkkfdhgpaonjaa
