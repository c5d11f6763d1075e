/- Layer 22's law: Do. -/
import Derived.Test.YthkkfdhgpaonjaaCfO
namespace Go.Proofs.Ythkkfdhgpaonjaa
open Go.RowKit
set_option linter.unusedSimpArgs false
set_option linter.unusedVariables false

attribute [local simp high] sizeRv zeroRv sizeFv zeroFv
attribute [local go_sem ↓] Go.wp_at_zero Go.wp_at_succ
theorem do_v {b : Nat} {s s' : FS} {op rd rs1 rs2 imm n : Int} {aq rl : Bool} {v L y : Nat} (hs : doS s op n rs1 v = s') (hy : doR s op n L = y) (w : World) (ok : OkF s) (hv : v < 18446744073709551616) (hL : L < 18446744073709551616) (h : w.heap[b]? = some (.cells (cellsF s) 31)) :
    Calls Try.prog 56 #[.pointer (some ⟨b, 0, none⟩), .agg #[.int .i64 op, .int .i64 rd, .int .i64 rs1, .int .i64 rs2, .int .i64 imm, .int .i64 n, .bool aq, .bool rl], .int .u64 (v : Int), .int .u64 (L : Int)] w fun e w' => e = .returned (.int .u64 (y : Int)) ∧ w'.heap[b]? = some (.cells (cellsF s') 31) ∧ Wrote b w w' := by
  rw [← hs, ← hy]; exact do_any b s op rd rs1 rs2 imm n aq rl v L w ok hv hL h
theorem wrote_row {b c : Nat} {w w1 : World} (h : Wrote b w w1) (hc : ∀ B w0, B ≤ b → Fr B w0 w → B ≤ c) (hn : ∀ o, w.heap[c]? ≠ some o) (cs : Array Value) : Wrote b w (w1.setRow c cs) :=
  ⟨fun B w0 hB hf => (h.1 B w0 hB hf).row (hc B w0 hB hf) cs, fun b' o hne ho => keep_row (h.2 b' o hne ho) (fun e => by subst e; exact hn o ho) cs⟩
theorem wrote_new {b c : Nat} {w w1 : World} (h : Wrote b w w1) (hc : w.heap.size ≤ c) (hb : b < w.heap.size) (cs : Array Value) : Wrote b w (w1.setRow c cs) :=
  wrote_row h (fun B w0 hB hf => by have := hf.2; omega) (fun o ho => by have := lt_of_at ho; omega) cs
theorem knownD {w : World} {b : Nat} {d : DD} {t : TypeId} (h : w.heap[b]? = some (.cells (cellsD d) t)) :
    w.cell? ⟨b, 0, none⟩ = some (.int .i64 d.kd) ∧ w.cell? ⟨b, 1, none⟩ = some (.int .i64 d.op) ∧ w.cell? ⟨b, 2, none⟩ = some (.int .i64 d.rd) ∧ w.cell? ⟨b, 3, none⟩ = some (.int .i64 d.rs1) ∧ w.cell? ⟨b, 4, none⟩ = some (.int .i64 d.rs2)
    ∧ w.cell? ⟨b, 5, none⟩ = some (.int .i64 d.imm) ∧ w.cell? ⟨b, 6, none⟩ = some (.int .i64 d.n) ∧ w.cell? ⟨b, 7, none⟩ = some (.bool d.aq) ∧ w.cell? ⟨b, 8, none⟩ = some (.bool d.rl) ∧ w.cell? ⟨b, 9, none⟩ = some (.int .u64 (d.v : Int))
    ∧ w.cell? ⟨b, 10, none⟩ = some (.int .u64 (d.L : Int)) ∧ w.cell? ⟨b, 11, none⟩ = some (.bool d.r) := by
  refine ⟨?_, ?_, ?_, ?_, ?_, ?_, ?_, ?_, ?_, ?_, ?_, ?_⟩ <;> (rw [cell_at h]; rfl)
set_option maxRecDepth 100000 in
set_option maxHeartbeats 4000000 in
theorem ldo_set (b : Nat) (s : FS) (d : DD) (w : World) (ok : OkF s) (od : OkD d) (h : w.heap[b]? = some (.cells (cellsF s) 31)) (h0 : d.kd = 0) :
    Calls Try.prog 42 #[.pointer (some ⟨b, 0, none⟩), .agg (cellsR s), .agg (cellsD d)] w fun e w' => e = .returned (.tuple #[.agg (cellsR (stepOf s d)), .int .u64 (resOf s d : Int), .int .u64 (resOf s d : Int)]) ∧ w'.heap[b]? = some (.cells (cellsF (stepOf s d)) 31) ∧ Wrote b w w' := by
  obtain ⟨s', hs'⟩ : ∃ s', setOf s d.n d.v = s' := ⟨_, rfl⟩
  have HO : Hid (stepOf s d = s') := by show _ = _; unfold stepOf; rw [if_pos h0, hs']
  have HR : Hid (resOf s d = 0) := by show _ = _; unfold resOf; rw [if_neg (by omega)]
  have HS := Lib.hid hs'
  have hblt := lt_of_at h
  have kb := keep_alloc (keep_alloc (keep_alloc h (.cells (cellsR s) 34)) (.cells (cellsD d) 78)) (.cells (cellsR zeroF) 34)
  have kx := keep_alloc (keep_alloc (heap_alloc_new w (.cells (cellsR s) 34)) (.cells (cellsD d) 78)) (.cells (cellsR zeroF) 34)
  have kd : (((w.alloc (.cells (cellsR s) 34)).alloc (.cells (cellsD d) 78)).alloc (.cells (cellsR zeroF) 34)).heap[w.heap.size + 1]? = some (.cells (cellsD d) 78) := keep_alloc (by simpa using heap_alloc_new (w.alloc (.cells (cellsR s) 34)) (.cells (cellsD d) 78)) _
  have kz : (((w.alloc (.cells (cellsR s) 34)).alloc (.cells (cellsD d) 78)).alloc (.cells (cellsR zeroF) 34)).heap[w.heap.size + 1 + 1]? = some (.cells (cellsR zeroF) 34) := by simpa using heap_alloc_new ((w.alloc (.cells (cellsR s) 34)).alloc (.cells (cellsD d) 78)) (.cells (cellsR zeroF) 34)
  have W0 := Lib.hid ((((Wrote.refl b w).alloc (.cells (cellsR s) 34)).alloc (.cells (cellsD d) 78)).alloc (.cells (cellsR zeroF) 34))
  obtain ⟨d0, d1, d2, d3, d4, d5, d6, d7, d8, d9, d10, d11⟩ := knownD kd
  have hv := od.v
  have hL := od.L
  have l1 := zeroRv
  have l2 := sizeRv
  have l3 := size_cellsR
  have n1 : w.heap.size + 1 ≠ b := by omega
  have n0 : w.heap.size ≠ b := by omega
  have n2 : w.heap.size + 1 + 1 ≠ b := by omega
  have szD : (cellsD d).size = 12 := rfl
  rw [h0] at d0
  clear h0 hs'
  go_enter Try.func42, Try.ntmps42
  go_wp2_with fail
  refine (set_v HS.out _ ok hv kb).mono ?_
  rintro e w1 ⟨⟨v1, rfl⟩, kb1, W1⟩
  have kx1 := W1.2 _ _ n0 kx
  have kd1 := W1.2 _ _ n1 kd
  have kz1 := W1.2 _ _ n2 kz
  obtain ⟨d0, d1, d2, d3, d4, d5, d6, d7, d8, d9, d10, d11⟩ := knownD kd1
  have WW := Lib.hid (W0.out.trans W1)
  have ls := ldR (P := Try.prog) kx1
  go_wp2_with fail
  refine (rset_v HS.out _ ok hv).mono ?_
  rintro e w2 ⟨rfl, hb2⟩
  have KB := Lib.hid (keepB hb2 kb1)
  have kz2 := keepB hb2 kz1
  have WE := Lib.hid (WW.out.below hb2)
  have WR := Lib.hid (wrote_new WE.out (by omega : w.heap.size ≤ w.heap.size + 1 + 1) hblt (cellsR s'))
  have ss := stR Try.prog kz2 s'
  have EE := Lib.hid (lvR (row_at kz2 (cellsR s')))
  go_wp2
  refine bodyPost_ret (v := .tuple #[.agg (cellsR s'), .int .u64 0, .int .u64 0]) (by simp [results, Try.results42, asAddr, Act.put, EE.out]) rfl ⟨by rw [HO.out, HR.out]; rfl, by rw [HO.out]; exact keep_row KB.out n2 _, WR.out⟩
set_option maxRecDepth 100000 in
set_option maxHeartbeats 4000000 in
theorem ldo_turn (b : Nat) (s : FS) (d : DD) (w : World) (ok : OkF s) (od : OkD d) (h : w.heap[b]? = some (.cells (cellsF s) 31)) (h0 : d.kd ≠ 0) (h1 : d.kd ≠ 1) :
    Calls Try.prog 42 #[.pointer (some ⟨b, 0, none⟩), .agg (cellsR s), .agg (cellsD d)] w fun e w' => e = .returned (.tuple #[.agg (cellsR (stepOf s d)), .int .u64 (resOf s d : Int), .int .u64 (resOf s d : Int)]) ∧ w'.heap[b]? = some (.cells (cellsF (stepOf s d)) 31) ∧ Wrote b w w' := by
  obtain ⟨s', hs'⟩ : ∃ s', turnOf s d.r = s' := ⟨_, rfl⟩
  have HO : Hid (stepOf s d = s') := by show _ = _; unfold stepOf; rw [if_neg h0, if_neg h1, hs']
  have HR : Hid (resOf s d = 0) := by show _ = _; unfold resOf; rw [if_neg h1]
  have HS := Lib.hid hs'
  have e0 : (d.kd == 0) = false := by simpa using h0
  have e1 : (d.kd == 1) = false := by simpa using h1
  have hblt := lt_of_at h
  have kb := keep_alloc (keep_alloc (keep_alloc h (.cells (cellsR s) 34)) (.cells (cellsD d) 78)) (.cells (cellsR zeroF) 34)
  have kx := keep_alloc (keep_alloc (heap_alloc_new w (.cells (cellsR s) 34)) (.cells (cellsD d) 78)) (.cells (cellsR zeroF) 34)
  have kd : (((w.alloc (.cells (cellsR s) 34)).alloc (.cells (cellsD d) 78)).alloc (.cells (cellsR zeroF) 34)).heap[w.heap.size + 1]? = some (.cells (cellsD d) 78) := keep_alloc (by simpa using heap_alloc_new (w.alloc (.cells (cellsR s) 34)) (.cells (cellsD d) 78)) _
  have kz : (((w.alloc (.cells (cellsR s) 34)).alloc (.cells (cellsD d) 78)).alloc (.cells (cellsR zeroF) 34)).heap[w.heap.size + 1 + 1]? = some (.cells (cellsR zeroF) 34) := by simpa using heap_alloc_new ((w.alloc (.cells (cellsR s) 34)).alloc (.cells (cellsD d) 78)) (.cells (cellsR zeroF) 34)
  have W0 := Lib.hid ((((Wrote.refl b w).alloc (.cells (cellsR s) 34)).alloc (.cells (cellsD d) 78)).alloc (.cells (cellsR zeroF) 34))
  obtain ⟨d0, d1, d2, d3, d4, d5, d6, d7, d8, d9, d10, d11⟩ := knownD kd
  have hv := od.v
  have hL := od.L
  have l1 := zeroRv
  have l2 := sizeRv
  have l3 := size_cellsR
  have n1 : w.heap.size + 1 ≠ b := by omega
  have n0 : w.heap.size ≠ b := by omega
  have n2 : w.heap.size + 1 + 1 ≠ b := by omega
  have szD : (cellsD d).size = 12 := rfl
  clear h0 h1 hs'
  go_enter Try.func42, Try.ntmps42
  go_wp2_with fail
  refine (turn_v HS.out _ ok kb).mono ?_
  rintro e w1 ⟨⟨v1, rfl⟩, kb1, W1⟩
  have kx1 := W1.2 _ _ n0 kx
  have kd1 := W1.2 _ _ n1 kd
  have kz1 := W1.2 _ _ n2 kz
  obtain ⟨d0, d1, d2, d3, d4, d5, d6, d7, d8, d9, d10, d11⟩ := knownD kd1
  have WW := Lib.hid (W0.out.trans W1)
  have ls := ldR (P := Try.prog) kx1
  go_wp2_with fail
  refine (rturn_v HS.out _ ok).mono ?_
  rintro e w2 ⟨rfl, hb2⟩
  have KB := Lib.hid (keepB hb2 kb1)
  have kz2 := keepB hb2 kz1
  have WE := Lib.hid (WW.out.below hb2)
  have WR := Lib.hid (wrote_new WE.out (by omega : w.heap.size ≤ w.heap.size + 1 + 1) hblt (cellsR s'))
  have ss := stR Try.prog kz2 s'
  have EE := Lib.hid (lvR (row_at kz2 (cellsR s')))
  go_wp2
  refine bodyPost_ret (v := .tuple #[.agg (cellsR s'), .int .u64 0, .int .u64 0]) (by simp [results, Try.results42, asAddr, Act.put, EE.out]) rfl ⟨by rw [HO.out, HR.out]; rfl, by rw [HO.out]; exact keep_row KB.out n2 _, WR.out⟩
set_option maxRecDepth 100000 in
set_option maxHeartbeats 4000000 in
theorem ldo_do (b : Nat) (s : FS) (d : DD) (w : World) (ok : OkF s) (od : OkD d) (h : w.heap[b]? = some (.cells (cellsF s) 31)) (h0 : d.kd = 1) :
    Calls Try.prog 42 #[.pointer (some ⟨b, 0, none⟩), .agg (cellsR s), .agg (cellsD d)] w fun e w' => e = .returned (.tuple #[.agg (cellsR (stepOf s d)), .int .u64 (resOf s d : Int), .int .u64 (resOf s d : Int)]) ∧ w'.heap[b]? = some (.cells (cellsF (stepOf s d)) 31) ∧ Wrote b w w' := by
  obtain ⟨s', hs'⟩ : ∃ s', doS s d.op d.n d.rs1 d.v = s' := ⟨_, rfl⟩
  obtain ⟨y, hy⟩ : ∃ y, doR s d.op d.n d.L = y := ⟨_, rfl⟩
  have HO : Hid (stepOf s d = s') := by show _ = _; unfold stepOf; rw [if_neg (by omega), if_pos h0, hs']
  have HR : Hid (resOf s d = y) := by show _ = _; unfold resOf; rw [if_pos h0, hy]
  have HS := Lib.hid hs'
  have HY := Lib.hid hy
  have hblt := lt_of_at h
  have kb := keep_alloc (keep_alloc (keep_alloc h (.cells (cellsR s) 34)) (.cells (cellsD d) 78)) (.cells (cellsR zeroF) 34)
  have kx := keep_alloc (keep_alloc (heap_alloc_new w (.cells (cellsR s) 34)) (.cells (cellsD d) 78)) (.cells (cellsR zeroF) 34)
  have kd : (((w.alloc (.cells (cellsR s) 34)).alloc (.cells (cellsD d) 78)).alloc (.cells (cellsR zeroF) 34)).heap[w.heap.size + 1]? = some (.cells (cellsD d) 78) := keep_alloc (by simpa using heap_alloc_new (w.alloc (.cells (cellsR s) 34)) (.cells (cellsD d) 78)) _
  have kz : (((w.alloc (.cells (cellsR s) 34)).alloc (.cells (cellsD d) 78)).alloc (.cells (cellsR zeroF) 34)).heap[w.heap.size + 1 + 1]? = some (.cells (cellsR zeroF) 34) := by simpa using heap_alloc_new ((w.alloc (.cells (cellsR s) 34)).alloc (.cells (cellsD d) 78)) (.cells (cellsR zeroF) 34)
  have W0 := Lib.hid ((((Wrote.refl b w).alloc (.cells (cellsR s) 34)).alloc (.cells (cellsD d) 78)).alloc (.cells (cellsR zeroF) 34))
  obtain ⟨d0, d1, d2, d3, d4, d5, d6, d7, d8, d9, d10, d11⟩ := knownD kd
  have hv := od.v
  have hL := od.L
  have l1 := zeroRv
  have l2 := sizeRv
  have l3 := size_cellsR
  have n1 : w.heap.size + 1 ≠ b := by omega
  have n0 : w.heap.size ≠ b := by omega
  have n2 : w.heap.size + 1 + 1 ≠ b := by omega
  have szD : (cellsD d).size = 12 := rfl
  rw [h0] at d0
  clear h0 hs' hy
  have ls := ldR (P := Try.prog) kx
  have stN := stnR
  go_enter Try.func42, Try.ntmps42
  go_wp2_with fail
  refine (rdo_v HS.out HY.out _ ok hv hL).mono ?_
  rintro e w1 ⟨rfl, hb1⟩
  have kb1 := keepB hb1 kb
  have kd1 := keepB hb1 kd
  have kz1 := keepB hb1 kz
  have W1 := Lib.hid (W0.out.below hb1)
  clear ls d0 d1 d2 d3 d4 d5 d6 d7 d8 d9 d10 d11 kb kd kz kx
  have hw1 : w.heap.size + 1 + 1 < w1.heap.size := lt_of_at kz1
  have kb2 := keep_alloc kb1 (.cells (cellsR s') 34)
  have kd2 := keep_alloc kd1 (.cells (cellsR s') 34)
  have kz2 := keep_alloc kz1 (.cells (cellsR s') 34)
  have ky2 := heap_alloc_new w1 (.cells (cellsR s') 34)
  have W2 := Lib.hid (W1.out.alloc (.cells (cellsR s') 34))
  clear kb1 kd1 kz1
  go_wp2_with fail
  obtain ⟨W5, hW5⟩ : ∃ W5, w1.alloc (.cells (cellsR s') 34) = W5 := ⟨_, rfl⟩
  have ny : w1.heap.size ≠ b := by omega
  have hny : w.heap.size ≤ w1.heap.size := by omega
  rw [hW5] at kb2 kd2 kz2 ky2 W2 ⊢
  clear hW5 stN
  have kb5 : W5.drew.heap[b]? = some (.cells (cellsF s) 31) := kb2
  have kd5 : W5.drew.heap[w.heap.size + 1]? = some (.cells (cellsD d) 78) := kd2
  have kz5 : W5.drew.heap[w.heap.size + 1 + 1]? = some (.cells (cellsR zeroF) 34) := kz2
  have ky5 : W5.drew.heap[w1.heap.size]? = some (.cells (cellsR s') 34) := ky2
  have W5' := Lib.hid W2.out.drew
  obtain ⟨d0, d1, d2, d3, d4, d5, d6, d7, d8, d9, d10, d11⟩ := knownD kd5
  have ls5 := ldR (P := Try.prog) ky5
  have KB5 := Lib.hid kb5
  have KZ5 := Lib.hid kz5
  have KY5 := Lib.hid ky5
  clear kb2 kd2 kz2 ky2 kb5 kd5 kz5 ky5
  go_region_with ((go_at_call 56; refine (do_v HS.out HY.out _ ok hv hL KB5.out).mono ?_; rintro e w' ⟨rfl, kbE, WE⟩; have kzE := WE.2 _ _ n2 KZ5.out; have lsE := ldR (P := Try.prog) (WE.2 _ _ ny KY5.out); have ssE := stR Try.prog kzE s'))
  all_goals
    have KB := Lib.hid kbE
    have WR := Lib.hid (wrote_new (W5'.out.trans WE) (by omega : w.heap.size ≤ w.heap.size + 1 + 1) hblt (cellsR s'))
    have EE := Lib.hid (lvR (row_at kzE (cellsR s')))
    clear kbE WE kzE lsE ssE ls5
    go_wp2
    refine bodyPost_ret (v := .tuple #[.agg (cellsR s'), .int .u64 (y : Int), .int .u64 (y : Int)]) (by simp [results, Try.results42, asAddr, Act.put, EE.out]) rfl ⟨by rw [HO.out, HR.out], by rw [HO.out]; exact keep_row KB.out n2 _, WR.out⟩
theorem ldo_any (b : Nat) (s : FS) (d : DD) (w : World) (ok : OkF s) (od : OkD d) (h : w.heap[b]? = some (.cells (cellsF s) 31)) :
    Calls Try.prog 42 #[.pointer (some ⟨b, 0, none⟩), .agg (cellsR s), .agg (cellsD d)] w fun e w' => e = .returned (.tuple #[.agg (cellsR (stepOf s d)), .int .u64 (resOf s d : Int), .int .u64 (resOf s d : Int)]) ∧ w'.heap[b]? = some (.cells (cellsF (stepOf s d)) 31) ∧ Wrote b w w' := by
  by_cases h0 : d.kd = 0
  · exact ldo_set b s d w ok od h h0
  by_cases h1 : d.kd = 1
  · exact ldo_do b s d w ok od h h1
  · exact ldo_turn b s d w ok od h h0 h1
theorem ldo_v {b : Nat} {s s' : FS} {d : DD} {y : Nat} (hs : stepOf s d = s') (hy : resOf s d = y) (w : World) (ok : OkF s) (od : OkD d) (h : w.heap[b]? = some (.cells (cellsF s) 31)) :
    Calls Try.prog 42 #[.pointer (some ⟨b, 0, none⟩), .agg (cellsR s), .agg (cellsD d)] w fun e w' => e = .returned (.tuple #[.agg (cellsR s'), .int .u64 (y : Int), .int .u64 (y : Int)]) ∧ w'.heap[b]? = some (.cells (cellsF s') 31) ∧ Wrote b w w' := by
  rw [← hs, ← hy]; exact ldo_any b s d w ok od h
end Go.Proofs.Ythkkfdhgpaonjaa
