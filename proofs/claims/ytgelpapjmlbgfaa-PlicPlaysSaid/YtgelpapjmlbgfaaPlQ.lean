/- do of law 16: a deed done to both. -/
import Derived.Test.YtgelpapjmlbgfaaPlH
import Derived.Test.YtgelpapjmlbgfaaPlO
import Derived.Test.YtgelpapjmlbgfaaPlJ
import Derived.Deep.RegionHeld3
import Derived.Deep.DrawnRows
namespace Go.Proofs.Ytgelpapjmlbgfaa
open Go.RowKit
set_option linter.unusedSimpArgs false
set_option linter.unusedVariables false
attribute [local simp high] zeroPv sizePv zeroDv sizeDv
attribute [local go_sem ↓] Go.wp_at_zero Go.wp_at_succ

theorem wrote_row {b c : Nat} {w w1 : World} (h : Wrote b w w1) (hc : ∀ B w0, B ≤ b → Fr B w0 w → B ≤ c) (hn : ∀ o, w.heap[c]? ≠ some o) (cs : Array Value) : Wrote b w (w1.setRow c cs) :=
  ⟨fun B w0 hB hf => (h.1 B w0 hB hf).row (hc B w0 hB hf) cs, fun b' o hne ho => keep_row (h.2 b' o hne ho) (fun e => by subst e; exact hn o ho) cs⟩
theorem wrote_new {b c : Nat} {w w1 : World} (h : Wrote b w w1) (hc : w.heap.size ≤ c) (hb : b < w.heap.size) (cs : Array Value) : Wrote b w (w1.setRow c cs) :=
  wrote_row h (fun B w0 hB hf => by have := hf.2; omega) (fun o ho => by have := lt_of_at ho; omega) cs
theorem four_cells {w : World} {b : Nat} {v0 v1 v2 v3 : Value} {t : TypeId} (h : w.heap[b]? = some (.cells #[v0, v1, v2, v3] t)) : w.cell? ⟨b, 0, none⟩ = some v0 ∧ w.cell? ⟨b, 1, none⟩ = some v1 ∧ w.cell? ⟨b, 2, none⟩ = some v2 ∧ w.cell? ⟨b, 3, none⟩ = some v3 := by
  refine ⟨?_, ?_, ?_, ?_⟩ <;> (rw [cell_at h]; rfl)
theorem sq_of {w : World} {y d : Nat} {o : Obj} {v0 v1 v2 v3 : Value} {t : TypeId} (h1 : w.heap[y]? = some o) (h2 : w.heap[d]? = some (.cells #[v0, v1, v2, v3] t)) :
    (w.heap[y]? = some o ∧ w.heap[d]? = some (.cells #[v0, v1, v2, v3] t)) ∧ w.cell? ⟨d, 1, none⟩ = some v1 ∧ w.cell? ⟨d, 2, none⟩ = some v2 ∧ w.cell? ⟨d, 3, none⟩ = some v3 := ⟨⟨h1, h2⟩, (four_cells h2).2⟩
theorem sq_call {w w' : World} {b y d : Nat} {o : Obj} {v0 v1 v2 v3 : Value} {t : TypeId} (hW : Wrote b w w') (hy : y ≠ b) (hd : d ≠ b) (h : (w.heap[y]? = some o ∧ w.heap[d]? = some (.cells #[v0, v1, v2, v3] t)) ∧ w.cell? ⟨d, 1, none⟩ = some v1 ∧ w.cell? ⟨d, 2, none⟩ = some v2 ∧ w.cell? ⟨d, 3, none⟩ = some v3) :
    (w'.heap[y]? = some o ∧ w'.heap[d]? = some (.cells #[v0, v1, v2, v3] t)) ∧ w'.cell? ⟨d, 1, none⟩ = some v1 ∧ w'.cell? ⟨d, 2, none⟩ = some v2 ∧ w'.cell? ⟨d, 3, none⟩ = some v3 := sq_of (hW.2 _ _ hy h.1.1) (hW.2 _ _ hd h.1.2)
theorem sq_row {w : World} {c y d : Nat} {o : Obj} {v0 v1 v2 v3 : Value} {t : TypeId} (hy : c ≠ y) (hd : c ≠ d) (cs : Array Value) (h : (w.heap[y]? = some o ∧ w.heap[d]? = some (.cells #[v0, v1, v2, v3] t)) ∧ w.cell? ⟨d, 1, none⟩ = some v1 ∧ w.cell? ⟨d, 2, none⟩ = some v2 ∧ w.cell? ⟨d, 3, none⟩ = some v3) :
    ((w.setRow c cs).heap[y]? = some o ∧ (w.setRow c cs).heap[d]? = some (.cells #[v0, v1, v2, v3] t)) ∧ (w.setRow c cs).cell? ⟨d, 1, none⟩ = some v1 ∧ (w.setRow c cs).cell? ⟨d, 2, none⟩ = some v2 ∧ (w.setRow c cs).cell? ⟨d, 3, none⟩ = some v3 := sq_of (keep_row h.1.1 hy cs) (keep_row h.1.2 hd cs)
def stepP (s : PS) (kd : Int) (off : Nat) (sz : Int) (v : Nat) : PS :=
  if kd = 0 then (readP s (spotP s.n off sz)).1 else if kd = 1 then (writeP s v (spotP s.n off sz)).1 else (wireP s sz ((v : Int) % 2 == 1)).1
theorem OkP.step {s : PS} (ok : OkP s) (kd : Int) (off : Nat) (sz : Int) (v : Nat) : OkP (stepP s kd off sz v) := by
  unfold stepP
  split
  · exact ok.read _
  · split
    · exact ok.write _ _
    · exact ok.wire _ _
theorem step_n (s : PS) (kd : Int) (off : Nat) (sz : Int) (v : Nat) : (stepP s kd off sz v).n = s.n := by
  unfold stepP
  split
  · exact read_n _ _
  · split
    · exact write_n _ _ _
    · exact wire_n _ _ _
set_option maxRecDepth 100000 in
set_option maxHeartbeats 4000000 in
theorem ldo_read (b : Nat) (s : PS) (kd : Int) (off : Nat) (sz : Int) (v : Nat) (w : World) (ok : OkP s) (hoff : off < 18446744073709551616) (hv : v < 18446744073709551616) (h : w.heap[b]? = some (.cells (cellsP s) 60)) (h0 : kd = 0) :
    Calls Try.prog 33 #[.pointer (some ⟨b, 0, none⟩), .agg (cellsD s), .agg #[.int .i64 kd, .int .u64 (off : Int), .int .i64 sz, .int .u64 (v : Int)]] w fun e w' => e = .returned (.tuple #[.agg (cellsD (stepP s kd off sz v)), .bool true]) ∧ w'.heap[b]? = some (.cells (cellsP (stepP s kd off sz v)) 60) ∧ Wrote b w w' := by
  obtain ⟨s', x, q, hrd⟩ : ∃ s' x q, readP s (spotP s.n off sz) = (s', x, q) := ⟨_, _, _, rfl⟩
  have HO : Hid (stepP s kd off sz v = s') := by show _ = _; unfold stepP; rw [if_pos h0, hrd]
  have HS := Lib.hid hrd
  clear hrd
  subst h0
  have hblt := lt_of_at h
  have kb := keep_alloc (keep_alloc (keep_alloc h (.cells (cellsD s) 72)) (.cells #[.int .i64 0, .int .u64 (off : Int), .int .i64 sz, .int .u64 (v : Int)] 63)) (.cells (cellsD zeroP) 72)
  have kx := keep_alloc (keep_alloc (heap_alloc_new w (.cells (cellsD s) 72)) (.cells #[.int .i64 0, .int .u64 (off : Int), .int .i64 sz, .int .u64 (v : Int)] 63)) (.cells (cellsD zeroP) 72)
  have kd0 : (((w.alloc (.cells (cellsD s) 72)).alloc (.cells #[.int .i64 0, .int .u64 (off : Int), .int .i64 sz, .int .u64 (v : Int)] 63)).alloc (.cells (cellsD zeroP) 72)).heap[w.heap.size + 1]? = some (.cells #[.int .i64 0, .int .u64 (off : Int), .int .i64 sz, .int .u64 (v : Int)] 63) := keep_alloc (by simpa using heap_alloc_new (w.alloc (.cells (cellsD s) 72)) (.cells #[.int .i64 0, .int .u64 (off : Int), .int .i64 sz, .int .u64 (v : Int)] 63)) _
  have kz : (((w.alloc (.cells (cellsD s) 72)).alloc (.cells #[.int .i64 0, .int .u64 (off : Int), .int .i64 sz, .int .u64 (v : Int)] 63)).alloc (.cells (cellsD zeroP) 72)).heap[w.heap.size + 1 + 1]? = some (.cells (cellsD zeroP) 72) := by simpa using heap_alloc_new ((w.alloc (.cells (cellsD s) 72)).alloc (.cells #[.int .i64 0, .int .u64 (off : Int), .int .i64 sz, .int .u64 (v : Int)] 63)) (.cells (cellsD zeroP) 72)
  have W0 := Lib.hid ((((Wrote.refl b w).alloc (.cells (cellsD s) 72)).alloc (.cells #[.int .i64 0, .int .u64 (off : Int), .int .i64 sz, .int .u64 (v : Int)] 63)).alloc (.cells (cellsD zeroP) 72))
  obtain ⟨d0, d1, d2, d3⟩ := four_cells kd0
  have l3 := size_cellsD
  have n1 : w.heap.size + 1 ≠ b := by omega
  have n0 : w.heap.size ≠ b := by omega
  have n2 : w.heap.size + 1 + 1 ≠ b := by omega
  go_enter Try.func33, Try.ntmps33
  go_wp2_with fail
  refine (pread_v HS.out _ hoff ok kb).mono ?_
  rintro e w1 ⟨rfl, kb1, W1⟩
  have kx1 := W1.2 _ _ n0 kx
  have kd1 := W1.2 _ _ n1 kd0
  have kz1 := W1.2 _ _ n2 kz
  clear d0 d1 d2 d3 kb kx kd0 kz
  obtain ⟨d0, d1, d2, d3⟩ := four_cells kd1
  have WW := Lib.hid (W0.out.trans W1)
  have ls := ldD (P := Try.prog) kx1
  go_wp2_with fail
  refine (rread_v HS.out _ hoff ok).mono ?_
  rintro e w2 ⟨rfl, hb2⟩
  have kb2 := keep_alloc (keepB hb2 kb1) (.cells (cellsD s') 72)
  have kz2 := keep_alloc (keepB hb2 kz1) (.cells (cellsD s') 72)
  have ky2 := heap_alloc_new w2 (.cells (cellsD s') 72)
  have hlz := lt_of_at (keepB hb2 kz1)
  have WE := Lib.hid ((WW.out.below hb2).alloc (.cells (cellsD s') 72))
  have WR := Lib.hid (wrote_new WE.out (by omega : w.heap.size ≤ w.heap.size + 1 + 1) hblt (cellsD s'))
  have KB := Lib.hid (keep_row kb2 n2 (cellsD s'))
  have EE := Lib.hid (lvD (row_at kz2 (cellsD s')))
  have ly := ldD (P := Try.prog) ky2
  have ss := stD Try.prog kz2 s'
  have sn := stnD
  clear ls d0 d1 d2 d3 kb1 kx1 kd1 kz1
  cases q
  all_goals
    go_wp2
    refine bodyPost_ret (v := .tuple #[.agg (cellsD s'), .bool true]) (by simp [results, Try.results33, asAddr, Act.put, EE.out]) rfl ⟨by rw [HO.out], by rw [HO.out]; exact KB.out, WR.out⟩
set_option maxRecDepth 100000 in
set_option maxHeartbeats 4000000 in
theorem ldo_write (b : Nat) (s : PS) (kd : Int) (off : Nat) (sz : Int) (v : Nat) (w : World) (ok : OkP s) (hoff : off < 18446744073709551616) (hv : v < 18446744073709551616) (h : w.heap[b]? = some (.cells (cellsP s) 60)) (h0 : kd = 1) :
    Calls Try.prog 33 #[.pointer (some ⟨b, 0, none⟩), .agg (cellsD s), .agg #[.int .i64 kd, .int .u64 (off : Int), .int .i64 sz, .int .u64 (v : Int)]] w fun e w' => e = .returned (.tuple #[.agg (cellsD (stepP s kd off sz v)), .bool true]) ∧ w'.heap[b]? = some (.cells (cellsP (stepP s kd off sz v)) 60) ∧ Wrote b w w' := by
  obtain ⟨s', q, hrd⟩ : ∃ s' q, writeP s v (spotP s.n off sz) = (s', q) := ⟨_, _, rfl⟩
  have HO : Hid (stepP s kd off sz v = s') := by show _ = _; unfold stepP; rw [if_neg (by omega), if_pos h0, hrd]
  have HS := Lib.hid hrd
  clear hrd
  subst h0
  have hblt := lt_of_at h
  have kb := keep_alloc (keep_alloc (keep_alloc h (.cells (cellsD s) 72)) (.cells #[.int .i64 1, .int .u64 (off : Int), .int .i64 sz, .int .u64 (v : Int)] 63)) (.cells (cellsD zeroP) 72)
  have kx := keep_alloc (keep_alloc (heap_alloc_new w (.cells (cellsD s) 72)) (.cells #[.int .i64 1, .int .u64 (off : Int), .int .i64 sz, .int .u64 (v : Int)] 63)) (.cells (cellsD zeroP) 72)
  have kd0 : (((w.alloc (.cells (cellsD s) 72)).alloc (.cells #[.int .i64 1, .int .u64 (off : Int), .int .i64 sz, .int .u64 (v : Int)] 63)).alloc (.cells (cellsD zeroP) 72)).heap[w.heap.size + 1]? = some (.cells #[.int .i64 1, .int .u64 (off : Int), .int .i64 sz, .int .u64 (v : Int)] 63) := keep_alloc (by simpa using heap_alloc_new (w.alloc (.cells (cellsD s) 72)) (.cells #[.int .i64 1, .int .u64 (off : Int), .int .i64 sz, .int .u64 (v : Int)] 63)) _
  have kz : (((w.alloc (.cells (cellsD s) 72)).alloc (.cells #[.int .i64 1, .int .u64 (off : Int), .int .i64 sz, .int .u64 (v : Int)] 63)).alloc (.cells (cellsD zeroP) 72)).heap[w.heap.size + 1 + 1]? = some (.cells (cellsD zeroP) 72) := by simpa using heap_alloc_new ((w.alloc (.cells (cellsD s) 72)).alloc (.cells #[.int .i64 1, .int .u64 (off : Int), .int .i64 sz, .int .u64 (v : Int)] 63)) (.cells (cellsD zeroP) 72)
  have W0 := Lib.hid ((((Wrote.refl b w).alloc (.cells (cellsD s) 72)).alloc (.cells #[.int .i64 1, .int .u64 (off : Int), .int .i64 sz, .int .u64 (v : Int)] 63)).alloc (.cells (cellsD zeroP) 72))
  obtain ⟨d0, d1, d2, d3⟩ := four_cells kd0
  have l3 := size_cellsD
  have n1 : w.heap.size + 1 ≠ b := by omega
  have n0 : w.heap.size ≠ b := by omega
  have n2 : w.heap.size + 1 + 1 ≠ b := by omega
  go_enter Try.func33, Try.ntmps33
  have ls := ldD (P := Try.prog) kx
  go_wp2_with fail
  refine (rwrite_v HS.out _ hoff hv ok).mono ?_
  rintro e w1 ⟨rfl, hb1⟩
  have kb1 := keepB hb1 kb
  have kd1 := keepB hb1 kd0
  have kz1 := keepB hb1 kz
  have W1 := Lib.hid (W0.out.below hb1)
  clear ls d0 d1 d2 d3 kb kd0 kz kx
  have hw1 : w.heap.size + 1 + 1 < w1.heap.size := lt_of_at kz1
  have kb2 := keep_alloc kb1 (.cells (cellsD s') 72)
  have kd2 := keep_alloc kd1 (.cells (cellsD s') 72)
  have kz2 := keep_alloc kz1 (.cells (cellsD s') 72)
  have ky2 := heap_alloc_new w1 (.cells (cellsD s') 72)
  have W2 := Lib.hid (W1.out.alloc (.cells (cellsD s') 72))
  have sn := stnD
  clear kb1 kd1 kz1
  go_wp2_with fail
  obtain ⟨W5, hW5⟩ : ∃ W5, w1.alloc (.cells (cellsD s') 72) = W5 := ⟨_, rfl⟩
  have ny : w1.heap.size ≠ b := by omega
  have hny : w.heap.size ≤ w1.heap.size := by omega
  rw [hW5] at kb2 kd2 kz2 ky2 W2 ⊢
  clear hW5 sn
  have kb5 : W5.drew.heap[b]? = some (.cells (cellsP s) 60) := kb2
  have kd5 : W5.drew.heap[w.heap.size + 1]? = some (.cells #[.int .i64 1, .int .u64 (off : Int), .int .i64 sz, .int .u64 (v : Int)] 63) := kd2
  have kz5 : W5.drew.heap[w.heap.size + 1 + 1]? = some (.cells (cellsD zeroP) 72) := kz2
  have ky5 : W5.drew.heap[w1.heap.size]? = some (.cells (cellsD s') 72) := ky2
  have W5' := Lib.hid W2.out.drew
  obtain ⟨d0, d1, d2, d3⟩ := four_cells kd5
  have ls5 := ldD (P := Try.prog) ky5
  have KB5 := Lib.hid kb5
  have KZ5 := Lib.hid kz5
  have KY5 := Lib.hid ky5
  have KD5 := Lib.hid kd5
  have hzd : w.heap.size + 1 + 1 ≠ w.heap.size + 1 := by omega
  have hzy : w.heap.size + 1 + 1 ≠ w1.heap.size := by omega
  clear kb2 kd2 kz2 ky2 kb5 kd5 kz5 ky5
  have lsA : ∀ w' : World, w'.heap[w1.heap.size]? = some (.cells (cellsD s') 72) → (loadCellsFrom ⟨w1.heap.size, 0, none⟩ 0 szD #[]).run Try.prog w' = .ok (cellsD s') w' := fun w' h => ldD h
  clear ls5 d0 d1 d2 d3
  go_region_held3 (fun w' => (w'.heap[w1.heap.size]? = some (.cells (cellsD s') 72) ∧ w'.heap[w.heap.size + 1]? = some (.cells #[.int .i64 1, .int .u64 (off : Int), .int .i64 sz, .int .u64 (v : Int)] 63)) ∧ w'.cell? ⟨w.heap.size + 1, 1, none⟩ = some (.int .u64 (off : Int)) ∧ w'.cell? ⟨w.heap.size + 1, 2, none⟩ = some (.int .i64 sz) ∧ w'.cell? ⟨w.heap.size + 1, 3, none⟩ = some (.int .u64 (v : Int)))
    (first | exact sq_of KY5.out KD5.out | exact sq_call WE ny n1 ‹_› | exact sq_row hzy hzd _ ‹_› | go_keep)
    (first
      | (go_at_call 28; refine (pwrite_v HS.out _ hoff hv ok KB5.out).mono ?_; rintro e w' ⟨rfl, kbE, WE⟩; have kzE := WE.2 _ _ n2 KZ5.out; have ssE := stD Try.prog kzE s'))
  all_goals
    have KB := Lib.hid kbE
    have WR := Lib.hid (wrote_new (W5'.out.trans WE) (by omega : w.heap.size ≤ w.heap.size + 1 + 1) hblt (cellsD s'))
    have EE := Lib.hid (lvD (row_at kzE (cellsD s')))
    clear kbE WE kzE ssE lsA
    go_wp2
    refine bodyPost_ret (v := .tuple #[.agg (cellsD s'), .bool true]) (by simp [results, Try.results33, asAddr, Act.put, EE.out]) rfl ⟨by rw [HO.out], by rw [HO.out]; exact keep_row KB.out n2 _, WR.out⟩
set_option maxRecDepth 100000 in
set_option maxHeartbeats 4000000 in
theorem ldo_wire (b : Nat) (s : PS) (kd : Int) (off : Nat) (sz : Int) (v : Nat) (w : World) (ok : OkP s) (hoff : off < 18446744073709551616) (hv : v < 18446744073709551616) (h : w.heap[b]? = some (.cells (cellsP s) 60)) (h0 : kd ≠ 0) (h1 : kd ≠ 1) :
    Calls Try.prog 33 #[.pointer (some ⟨b, 0, none⟩), .agg (cellsD s), .agg #[.int .i64 kd, .int .u64 (off : Int), .int .i64 sz, .int .u64 (v : Int)]] w fun e w' => e = .returned (.tuple #[.agg (cellsD (stepP s kd off sz v)), .bool true]) ∧ w'.heap[b]? = some (.cells (cellsP (stepP s kd off sz v)) 60) ∧ Wrote b w w' := by
  obtain ⟨on, hon⟩ : ∃ on, ((v : Int) % 2 == 1) = on := ⟨_, rfl⟩
  have htm : Int.tmod (v : Int) 2 = (v : Int) % 2 := Int.tmod_eq_emod_of_nonneg (by omega)
  have hon2 : (Int.tmod (v : Int) 2 == 1) = on := by rw [htm]; exact hon
  obtain ⟨s', q, hrd⟩ : ∃ s' q, wireP s sz on = (s', q) := ⟨_, _, rfl⟩
  have HO : Hid (stepP s kd off sz v = s') := by show _ = _; unfold stepP; rw [if_neg h0, if_neg h1, hon, hrd]
  have HS := Lib.hid hrd
  have e0 : (kd == 0) = false := by simpa using h0
  have e1 : (kd == 1) = false := by simpa using h1
  clear hrd h0 h1
  have hblt := lt_of_at h
  have kb := keep_alloc (keep_alloc (keep_alloc h (.cells (cellsD s) 72)) (.cells #[.int .i64 kd, .int .u64 (off : Int), .int .i64 sz, .int .u64 (v : Int)] 63)) (.cells (cellsD zeroP) 72)
  have kx := keep_alloc (keep_alloc (heap_alloc_new w (.cells (cellsD s) 72)) (.cells #[.int .i64 kd, .int .u64 (off : Int), .int .i64 sz, .int .u64 (v : Int)] 63)) (.cells (cellsD zeroP) 72)
  have kd0 : (((w.alloc (.cells (cellsD s) 72)).alloc (.cells #[.int .i64 kd, .int .u64 (off : Int), .int .i64 sz, .int .u64 (v : Int)] 63)).alloc (.cells (cellsD zeroP) 72)).heap[w.heap.size + 1]? = some (.cells #[.int .i64 kd, .int .u64 (off : Int), .int .i64 sz, .int .u64 (v : Int)] 63) := keep_alloc (by simpa using heap_alloc_new (w.alloc (.cells (cellsD s) 72)) (.cells #[.int .i64 kd, .int .u64 (off : Int), .int .i64 sz, .int .u64 (v : Int)] 63)) _
  have kz : (((w.alloc (.cells (cellsD s) 72)).alloc (.cells #[.int .i64 kd, .int .u64 (off : Int), .int .i64 sz, .int .u64 (v : Int)] 63)).alloc (.cells (cellsD zeroP) 72)).heap[w.heap.size + 1 + 1]? = some (.cells (cellsD zeroP) 72) := by simpa using heap_alloc_new ((w.alloc (.cells (cellsD s) 72)).alloc (.cells #[.int .i64 kd, .int .u64 (off : Int), .int .i64 sz, .int .u64 (v : Int)] 63)) (.cells (cellsD zeroP) 72)
  have W0 := Lib.hid ((((Wrote.refl b w).alloc (.cells (cellsD s) 72)).alloc (.cells #[.int .i64 kd, .int .u64 (off : Int), .int .i64 sz, .int .u64 (v : Int)] 63)).alloc (.cells (cellsD zeroP) 72))
  obtain ⟨d0, d1, d2, d3⟩ := four_cells kd0
  have l3 := size_cellsD
  have n1 : w.heap.size + 1 ≠ b := by omega
  have n0 : w.heap.size ≠ b := by omega
  have n2 : w.heap.size + 1 + 1 ≠ b := by omega
  go_enter Try.func33, Try.ntmps33
  have ls := ldD (P := Try.prog) kx
  go_wp2_with fail
  refine (rwire_v HS.out _ ok).mono ?_
  rintro e w1 ⟨rfl, hb1⟩
  have kb1 := keepB hb1 kb
  have kd1 := keepB hb1 kd0
  have kz1 := keepB hb1 kz
  have W1 := Lib.hid (W0.out.below hb1)
  clear ls d0 d1 d2 d3 kb kd0 kz kx
  have hw1 : w.heap.size + 1 + 1 < w1.heap.size := lt_of_at kz1
  have kb2 := keep_alloc kb1 (.cells (cellsD s') 72)
  have kd2 := keep_alloc kd1 (.cells (cellsD s') 72)
  have kz2 := keep_alloc kz1 (.cells (cellsD s') 72)
  have ky2 := heap_alloc_new w1 (.cells (cellsD s') 72)
  have W2 := Lib.hid (W1.out.alloc (.cells (cellsD s') 72))
  have sn := stnD
  clear kb1 kd1 kz1
  go_wp2_with fail
  obtain ⟨W5, hW5⟩ : ∃ W5, w1.alloc (.cells (cellsD s') 72) = W5 := ⟨_, rfl⟩
  have ny : w1.heap.size ≠ b := by omega
  have hny : w.heap.size ≤ w1.heap.size := by omega
  rw [hW5] at kb2 kd2 kz2 ky2 W2 ⊢
  clear hW5 sn
  have kb5 : W5.drew.heap[b]? = some (.cells (cellsP s) 60) := kb2
  have kd5 : W5.drew.heap[w.heap.size + 1]? = some (.cells #[.int .i64 kd, .int .u64 (off : Int), .int .i64 sz, .int .u64 (v : Int)] 63) := kd2
  have kz5 : W5.drew.heap[w.heap.size + 1 + 1]? = some (.cells (cellsD zeroP) 72) := kz2
  have ky5 : W5.drew.heap[w1.heap.size]? = some (.cells (cellsD s') 72) := ky2
  have W5' := Lib.hid W2.out.drew
  obtain ⟨d0, d1, d2, d3⟩ := four_cells kd5
  have ls5 := ldD (P := Try.prog) ky5
  have KB5 := Lib.hid kb5
  have KZ5 := Lib.hid kz5
  have KY5 := Lib.hid ky5
  have KD5 := Lib.hid kd5
  have hzd : w.heap.size + 1 + 1 ≠ w.heap.size + 1 := by omega
  have hzy : w.heap.size + 1 + 1 ≠ w1.heap.size := by omega
  clear kb2 kd2 kz2 ky2 kb5 kd5 kz5 ky5
  have lsA : ∀ w' : World, w'.heap[w1.heap.size]? = some (.cells (cellsD s') 72) → (loadCellsFrom ⟨w1.heap.size, 0, none⟩ 0 szD #[]).run Try.prog w' = .ok (cellsD s') w' := fun w' h => ldD h
  clear ls5 d0 d1 d2 d3
  go_region_held3 (fun w' => (w'.heap[w1.heap.size]? = some (.cells (cellsD s') 72) ∧ w'.heap[w.heap.size + 1]? = some (.cells #[.int .i64 kd, .int .u64 (off : Int), .int .i64 sz, .int .u64 (v : Int)] 63)) ∧ w'.cell? ⟨w.heap.size + 1, 1, none⟩ = some (.int .u64 (off : Int)) ∧ w'.cell? ⟨w.heap.size + 1, 2, none⟩ = some (.int .i64 sz) ∧ w'.cell? ⟨w.heap.size + 1, 3, none⟩ = some (.int .u64 (v : Int)))
    (first | exact sq_of KY5.out KD5.out | exact sq_call WE ny n1 ‹_› | exact sq_row hzy hzd _ ‹_› | go_keep)
    (first
      | (go_at_call 29; refine (wire_v HS.out _ ok KB5.out).mono ?_; rintro e w' ⟨rfl, kbE, WE⟩; have kzE := WE.2 _ _ n2 KZ5.out; have ssE := stD Try.prog kzE s'))
  all_goals
    have KB := Lib.hid kbE
    have WR := Lib.hid (wrote_new (W5'.out.trans WE) (by omega : w.heap.size ≤ w.heap.size + 1 + 1) hblt (cellsD s'))
    have EE := Lib.hid (lvD (row_at kzE (cellsD s')))
    clear kbE WE kzE ssE lsA
    go_wp2
    refine bodyPost_ret (v := .tuple #[.agg (cellsD s'), .bool true]) (by simp [results, Try.results33, asAddr, Act.put, EE.out]) rfl ⟨by rw [HO.out], by rw [HO.out]; exact keep_row KB.out n2 _, WR.out⟩
theorem ldo_any (b : Nat) (s : PS) (kd : Int) (off : Nat) (sz : Int) (v : Nat) (w : World) (ok : OkP s) (hoff : off < 18446744073709551616) (hv : v < 18446744073709551616) (h : w.heap[b]? = some (.cells (cellsP s) 60)) :
    Calls Try.prog 33 #[.pointer (some ⟨b, 0, none⟩), .agg (cellsD s), .agg #[.int .i64 kd, .int .u64 (off : Int), .int .i64 sz, .int .u64 (v : Int)]] w fun e w' => e = .returned (.tuple #[.agg (cellsD (stepP s kd off sz v)), .bool true]) ∧ w'.heap[b]? = some (.cells (cellsP (stepP s kd off sz v)) 60) ∧ Wrote b w w' := by
  by_cases h0 : kd = 0
  · exact ldo_read b s kd off sz v w ok hoff hv h h0
  · by_cases h1 : kd = 1
    · exact ldo_write b s kd off sz v w ok hoff hv h h1
    · exact ldo_wire b s kd off sz v w ok hoff hv h h0 h1
theorem ldo_v {b : Nat} {s s' : PS} {kd : Int} {off : Nat} {sz : Int} {v : Nat} (hs : stepP s kd off sz v = s') (w : World) (ok : OkP s) (hoff : off < 18446744073709551616) (hv : v < 18446744073709551616) (h : w.heap[b]? = some (.cells (cellsP s) 60)) :
    Calls Try.prog 33 #[.pointer (some ⟨b, 0, none⟩), .agg (cellsD s), .agg #[.int .i64 kd, .int .u64 (off : Int), .int .i64 sz, .int .u64 (v : Int)]] w fun e w' => e = .returned (.tuple #[.agg (cellsD s'), .bool true]) ∧ w'.heap[b]? = some (.cells (cellsP s') 60) ∧ Wrote b w w' := by
  rw [← hs]; exact ldo_any b s kd off sz v w ok hoff hv h
end Go.Proofs.Ytgelpapjmlbgfaa
