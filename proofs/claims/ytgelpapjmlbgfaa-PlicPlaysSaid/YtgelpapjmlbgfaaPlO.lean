/- The document's Write and Wire of the plic. -/
import Derived.Test.YtgelpapjmlbgfaaPlN
import Derived.Test.YtgelpapjmlbgfaaPlG
namespace Go.Proofs.Ytgelpapjmlbgfaa
open Go.RowKit
set_option linter.unusedSimpArgs false
set_option linter.unusedVariables false
attribute [local simp high] zeroPv sizePv zeroDv sizeDv

/- The bits of a number, one after the other. -/
def hV (v k : Nat) : Nat := v / 2 ^ k
theorem hV_1 (v : Nat) : hV v 1 = v / 2 := by unfold hV; simp
theorem hV_step (v k : Nat) : hV v (k + 1) = hV v k / 2 := by unfold hV; rw [Nat.pow_succ, ← Nat.div_div_eq_div_mul]
theorem hV_bit (v k : Nat) : decide (hV v k % 2 = 1) = v.testBit k := by unfold hV; rw [Nat.testBit_eq_decide_div_mod_eq]
theorem hV_le (v k : Nat) : hV v k ≤ v := Nat.div_le_self _ _
def partF (v k : Nat) (f : Nat → Bool) : Nat → Bool := fun j => if 1 ≤ j ∧ j < k then v.testBit j else f j
theorem partF_1 (v : Nat) (f : Nat → Bool) : partF v 1 f = f := by funext j; unfold partF; rw [if_neg (by omega)]
theorem partF_step (v : Nat) {k : Nat} (hk : 1 ≤ k) (f : Nat → Bool) : upN (partF v k f) k (v.testBit k) = partF v (k + 1) f := by
  funext j
  unfold upN partF
  by_cases e : j = k
  · subst e; rw [if_pos rfl, if_pos (by omega)]
  · rw [if_neg e]
    by_cases h : 1 ≤ j ∧ j < k
    · rw [if_pos h, if_pos (by omega)]
    · rw [if_neg h, if_neg (by omega)]
theorem setOn_setOn (s : PS) (c : Nat) (f g : Nat → Bool) : setOn (setOn s c f) c g = setOn s c g := by
  unfold setOn
  simp only [PS.mk.injEq, true_and, and_true]
  funext i
  unfold upN
  split <;> rfl
theorem setOn_on (s : PS) (c : Nat) (f : Nat → Bool) : (setOn s c f).on c = f := upN_same _ _ _
theorem setOn_self (s : PS) (c : Nat) : setOn s c (s.on c) = s := by
  have : upN s.on c (s.on c) = s.on := by funext i; unfold upN; split; subst_vars; rfl; rfl
  unfold setOn; rw [this]
theorem D_onF (s : PS) (ok : OkP s) (c v : Nat) : cellsD (setOn s c (partF v 32 (s.on c))) = cellsD (setOn s c (onF v)) := by
  unfold cellsD
  refine rowV_ext fun i hi => ?_
  unfold cellD setOn
  simp only []
  by_cases h0 : i < 641
  · rw [if_pos h0, if_pos h0]
    have e : upN s.on c (partF v 32 (s.on c)) ((i - 129) / 32) ((i - 129) % 32) = upN s.on c (onF v) ((i - 129) / 32) ((i - 129) % 32) := by
      generalize hj : (i - 129) % 32 = j
      have hj32 : j < 32 := by omega
      unfold upN
      split
      · unfold partF onF
        by_cases h1 : 1 ≤ j
        · rw [if_pos ⟨h1, hj32⟩]; simp [h1, hj32]
        · have : j = 0 := by omega
          subst this
          rw [if_neg (by omega), ok.on0]; simp
      · rfl
    rw [e]
  · rw [if_neg h0, if_neg h0]
set_option maxRecDepth 100000 in
set_option maxHeartbeats 4000000 in
theorem rwrite_0 (s : PS) (off : Nat) (size : Int) (v i : Nat) (w : World) (hoff : off < 18446744073709551616) (hv : v < 18446744073709551616) (ok : OkP s)  (hs : spotP s.n off size = (0, i)) :
    Calls Try.prog 46 #[.agg (cellsD s), .int .u64 (off : Int), .int .i64 size, .int .u64 (v : Int)] w fun e w' => e = .returned (.tuple #[.agg (cellsD (s)), .bool false]) ∧ Below w.heap.size w w' := by
  have HS := Lib.hid hs
  clear hs
  have n0 := ok.n0
  have n8 := ok.n8
  have F0 := ((Fr.refl w).alloc (.cells (cellsD s) 72)).alloc (.cells (cellsD zeroP) 72)
  have h0 := keep_alloc (heap_alloc_new w (.cells (cellsD s) 72)) (.cells (cellsD zeroP) 72)
  have h1 : ((w.alloc (.cells (cellsD s) 72)).alloc (.cells (cellsD zeroP) 72)).heap[w.heap.size + 1]? = some (.cells (cellsD zeroP) 72) := by simpa using heap_alloc_new (w.alloc (.cells (cellsD s) 72)) (.cells (cellsD zeroP) 72)
  have hle : w.heap.size ≤ w.heap.size + 1 := by omega
  have hne : w.heap.size ≠ w.heap.size + 1 := by omega
  have a3 := size_cellsD
  obtain ⟨c0, cl, cf⟩ := knownD h0
  go_enter Try.func46, Try.ntmps46
  go_wp2_with fail
  refine (at_v HS.out _ hoff n0 n8).mono ?_
  rintro e w1 ⟨rfl, hw⟩
  rw [hw]
  clear hw w1 c0 cl cf
  obtain ⟨wS, hwS⟩ : ∃ wS, ((w.alloc (.cells (cellsD s) 72)).alloc (.cells (cellsD zeroP) 72)) = wS := ⟨_, rfl⟩
  rw [hwS] at h0 h1 F0 ⊢
  clear hwS
  rw [findW0]
  obtain ⟨c0, cl, cf⟩ := knownD h0
  have ld := ldD (P := Try.prog) h0
  have st := stD Try.prog h1 (s)
  have EE := Lib.hid (lvD (row_at h1 (cellsD (s))))
  have FF := Lib.hid (F0.row hle (cellsD (s)))
  clear h0 h1 F0
  go_wp2
  refine bodyPost_ret (v := .tuple #[.agg (cellsD (s)), .bool false]) (by simp [results, Try.results46, asAddr, Act.put, EE.out]) rfl ⟨rfl, FF.out.1⟩
set_option maxRecDepth 100000 in
set_option maxHeartbeats 4000000 in
theorem rwrite_2 (s : PS) (off : Nat) (size : Int) (v i : Nat) (w : World) (hoff : off < 18446744073709551616) (hv : v < 18446744073709551616) (ok : OkP s)  (hs : spotP s.n off size = (2, i)) :
    Calls Try.prog 46 #[.agg (cellsD s), .int .u64 (off : Int), .int .i64 size, .int .u64 (v : Int)] w fun e w' => e = .returned (.tuple #[.agg (cellsD (s)), .bool true]) ∧ Below w.heap.size w w' := by
  have HS := Lib.hid hs
  clear hs
  have n0 := ok.n0
  have n8 := ok.n8
  have F0 := ((Fr.refl w).alloc (.cells (cellsD s) 72)).alloc (.cells (cellsD zeroP) 72)
  have h0 := keep_alloc (heap_alloc_new w (.cells (cellsD s) 72)) (.cells (cellsD zeroP) 72)
  have h1 : ((w.alloc (.cells (cellsD s) 72)).alloc (.cells (cellsD zeroP) 72)).heap[w.heap.size + 1]? = some (.cells (cellsD zeroP) 72) := by simpa using heap_alloc_new (w.alloc (.cells (cellsD s) 72)) (.cells (cellsD zeroP) 72)
  have hle : w.heap.size ≤ w.heap.size + 1 := by omega
  have hne : w.heap.size ≠ w.heap.size + 1 := by omega
  have a3 := size_cellsD
  obtain ⟨c0, cl, cf⟩ := knownD h0
  go_enter Try.func46, Try.ntmps46
  go_wp2_with fail
  refine (at_v HS.out _ hoff n0 n8).mono ?_
  rintro e w1 ⟨rfl, hw⟩
  rw [hw]
  clear hw w1 c0 cl cf
  obtain ⟨wS, hwS⟩ : ∃ wS, ((w.alloc (.cells (cellsD s) 72)).alloc (.cells (cellsD zeroP) 72)) = wS := ⟨_, rfl⟩
  rw [hwS] at h0 h1 F0 ⊢
  clear hwS
  rw [findW2]
  obtain ⟨c0, cl, cf⟩ := knownD h0
  have ld := ldD (P := Try.prog) h0
  have st := stD Try.prog h1 (s)
  have EE := Lib.hid (lvD (row_at h1 (cellsD (s))))
  have FF := Lib.hid (F0.row hle (cellsD (s)))
  clear h0 h1 F0
  go_wp2
  refine bodyPost_ret (v := .tuple #[.agg (cellsD (s)), .bool true]) (by simp [results, Try.results46, asAddr, Act.put, EE.out]) rfl ⟨rfl, FF.out.1⟩
set_option maxRecDepth 100000 in
set_option maxHeartbeats 4000000 in
theorem rwrite_1 (s : PS) (off : Nat) (size : Int) (v i : Nat) (w : World) (hoff : off < 18446744073709551616) (hv : v < 18446744073709551616) (ok : OkP s) (hi : i < 32) (hs : spotP s.n off size = (1, i)) :
    Calls Try.prog 46 #[.agg (cellsD s), .int .u64 (off : Int), .int .i64 size, .int .u64 (v : Int)] w fun e w' => e = .returned (.tuple #[.agg (cellsD (setPr s i (v % 8))), .bool true]) ∧ Below w.heap.size w w' := by
  have hm8 : v % 8 < 8 := Nat.mod_lt _ (by omega)
  have hme : (v : Int) % 8 = ((v % 8 : Nat) : Int) := by omega
  have HS := Lib.hid hs
  clear hs
  have n0 := ok.n0
  have n8 := ok.n8
  have F0 := ((Fr.refl w).alloc (.cells (cellsD s) 72)).alloc (.cells (cellsD zeroP) 72)
  have h0 := keep_alloc (heap_alloc_new w (.cells (cellsD s) 72)) (.cells (cellsD zeroP) 72)
  have h1 : ((w.alloc (.cells (cellsD s) 72)).alloc (.cells (cellsD zeroP) 72)).heap[w.heap.size + 1]? = some (.cells (cellsD zeroP) 72) := by simpa using heap_alloc_new (w.alloc (.cells (cellsD s) 72)) (.cells (cellsD zeroP) 72)
  have hle : w.heap.size ≤ w.heap.size + 1 := by omega
  have hne : w.heap.size ≠ w.heap.size + 1 := by omega
  have a3 := size_cellsD
  obtain ⟨c0, cl, cf⟩ := knownD h0
  go_enter Try.func46, Try.ntmps46
  go_wp2_with fail
  refine (at_v HS.out _ hoff n0 n8).mono ?_
  rintro e w1 ⟨rfl, hw⟩
  rw [hw]
  clear hw w1 c0 cl cf
  obtain ⟨wS, hwS⟩ : ∃ wS, ((w.alloc (.cells (cellsD s) 72)).alloc (.cells (cellsD zeroP) 72)) = wS := ⟨_, rfl⟩
  rw [hwS] at h0 h1 F0 ⊢
  clear hwS
  rw [findW1]
  obtain ⟨c0, cl, cf⟩ := knownD h0
  have ci := knownDpr h0 hi
  have hi0 : (0 : Int) ≤ i := by omega
  have hi1 : (i : Int) < 32 := by omega
  have h2 := set_at h0 (1 + i) (.int .i64 ((v % 8 : Nat) : Int))
  rw [D_setPr s hi (v % 8)] at h2
  have h3 := keep_setCell h1 (p := ⟨w.heap.size, 1 + i, none⟩) hne (.int .i64 ((v % 8 : Nat) : Int))
  have F3 := F0.setCell (p := ⟨w.heap.size, 1 + i, none⟩) (Nat.le_refl _) (.int .i64 ((v % 8 : Nat) : Int))
  clear h0 h1 F0
  obtain ⟨m, hm⟩ : ∃ m, v % 8 = m := ⟨_, rfl⟩
  have HM := Lib.hid hm
  rw [hm] at h2 h3 F3 hm8 hme
  clear hm
  have hwm : IntKind.i64.wrap (m : Int) = (m : Int) := by rw [IntKind.wrap_i64]; omega
  have ld := ldD (P := Try.prog) h2
  have st := stD Try.prog h3 (setPr s i m)
  have EE := Lib.hid (lvD (row_at h3 (cellsD (setPr s i m))))
  have FF := Lib.hid (F3.row hle (cellsD (setPr s i m)))
  clear h2 h3 F3
  go_wp2
  refine bodyPost_ret (v := .tuple #[.agg (cellsD (setPr s i m)), .bool true]) (by simp [results, Try.results46, asAddr, Act.put, EE.out]) rfl ⟨by rw [HM.out], FF.out.1⟩
set_option maxRecDepth 100000 in
set_option maxHeartbeats 4000000 in
theorem rwrite_4 (s : PS) (off : Nat) (size : Int) (v i : Nat) (w : World) (hoff : off < 18446744073709551616) (hv : v < 18446744073709551616) (ok : OkP s) (hi : i < 16) (hs : spotP s.n off size = (4, i)) :
    Calls Try.prog 46 #[.agg (cellsD s), .int .u64 (off : Int), .int .i64 size, .int .u64 (v : Int)] w fun e w' => e = .returned (.tuple #[.agg (cellsD (setLv s i (v % 8))), .bool true]) ∧ Below w.heap.size w w' := by
  have hm8 : v % 8 < 8 := Nat.mod_lt _ (by omega)
  have hme : (v : Int) % 8 = ((v % 8 : Nat) : Int) := by omega
  have HS := Lib.hid hs
  clear hs
  have n0 := ok.n0
  have n8 := ok.n8
  have F0 := ((Fr.refl w).alloc (.cells (cellsD s) 72)).alloc (.cells (cellsD zeroP) 72)
  have h0 := keep_alloc (heap_alloc_new w (.cells (cellsD s) 72)) (.cells (cellsD zeroP) 72)
  have h1 : ((w.alloc (.cells (cellsD s) 72)).alloc (.cells (cellsD zeroP) 72)).heap[w.heap.size + 1]? = some (.cells (cellsD zeroP) 72) := by simpa using heap_alloc_new (w.alloc (.cells (cellsD s) 72)) (.cells (cellsD zeroP) 72)
  have hle : w.heap.size ≤ w.heap.size + 1 := by omega
  have hne : w.heap.size ≠ w.heap.size + 1 := by omega
  have a3 := size_cellsD
  obtain ⟨c0, cl, cf⟩ := knownD h0
  go_enter Try.func46, Try.ntmps46
  go_wp2_with fail
  refine (at_v HS.out _ hoff n0 n8).mono ?_
  rintro e w1 ⟨rfl, hw⟩
  rw [hw]
  clear hw w1 c0 cl cf
  obtain ⟨wS, hwS⟩ : ∃ wS, ((w.alloc (.cells (cellsD s) 72)).alloc (.cells (cellsD zeroP) 72)) = wS := ⟨_, rfl⟩
  rw [hwS] at h0 h1 F0 ⊢
  clear hwS
  rw [findW4]
  obtain ⟨c0, cl, cf⟩ := knownD h0
  have ci := knownDlv h0 hi
  have hi0 : (0 : Int) ≤ i := by omega
  have hi1 : (i : Int) < 16 := by omega
  have h2 := set_at h0 (641 + i) (.int .i64 ((v % 8 : Nat) : Int))
  rw [D_setLv s hi (v % 8)] at h2
  have h3 := keep_setCell h1 (p := ⟨w.heap.size, 641 + i, none⟩) hne (.int .i64 ((v % 8 : Nat) : Int))
  have F3 := F0.setCell (p := ⟨w.heap.size, 641 + i, none⟩) (Nat.le_refl _) (.int .i64 ((v % 8 : Nat) : Int))
  clear h0 h1 F0
  obtain ⟨m, hm⟩ : ∃ m, v % 8 = m := ⟨_, rfl⟩
  have HM := Lib.hid hm
  rw [hm] at h2 h3 F3 hm8 hme
  clear hm
  have hwm : IntKind.i64.wrap (m : Int) = (m : Int) := by rw [IntKind.wrap_i64]; omega
  have ld := ldD (P := Try.prog) h2
  have st := stD Try.prog h3 (setLv s i m)
  have EE := Lib.hid (lvD (row_at h3 (cellsD (setLv s i m))))
  have FF := Lib.hid (F3.row hle (cellsD (setLv s i m)))
  clear h2 h3 F3
  go_wp2
  refine bodyPost_ret (v := .tuple #[.agg (cellsD (setLv s i m)), .bool true]) (by simp [results, Try.results46, asAddr, Act.put, EE.out]) rfl ⟨by rw [HM.out], FF.out.1⟩
set_option maxRecDepth 100000 in
set_option maxHeartbeats 4000000 in
theorem rwrite_3 (s : PS) (off : Nat) (size : Int) (v i : Nat) (w : World) (hoff : off < 18446744073709551616) (hv : v < 18446744073709551616) (ok : OkP s) (hi : i < 16) (hs : spotP s.n off size = (3, i)) :
    Calls Try.prog 46 #[.agg (cellsD s), .int .u64 (off : Int), .int .i64 size, .int .u64 (v : Int)] w fun e w' => e = .returned (.tuple #[.agg (cellsD (setOn s i (onF v))), .bool true]) ∧ Below w.heap.size w w' := by
  have HD := Lib.hid (D_onF s ok i v)
  have hv1 := hV_1 v
  have hvd : (v : Int) / 2 = ((hV v 1 : Nat) : Int) := by rw [hv1]; omega
  clear hv1
  have hpf : cellsD s = cellsD (setOn s i (partF v 1 (s.on i))) := by rw [partF_1, setOn_self]
  have HP := Lib.hid hpf
  clear hpf
  have HS := Lib.hid hs
  clear hs
  have n0 := ok.n0
  have n8 := ok.n8
  have F0 := ((Fr.refl w).alloc (.cells (cellsD s) 72)).alloc (.cells (cellsD zeroP) 72)
  have h0 := keep_alloc (heap_alloc_new w (.cells (cellsD s) 72)) (.cells (cellsD zeroP) 72)
  have h1 : ((w.alloc (.cells (cellsD s) 72)).alloc (.cells (cellsD zeroP) 72)).heap[w.heap.size + 1]? = some (.cells (cellsD zeroP) 72) := by simpa using heap_alloc_new (w.alloc (.cells (cellsD s) 72)) (.cells (cellsD zeroP) 72)
  have hle : w.heap.size ≤ w.heap.size + 1 := by omega
  have hne : w.heap.size ≠ w.heap.size + 1 := by omega
  have a3 := size_cellsD
  obtain ⟨c0, cl, cf⟩ := knownD h0
  go_enter Try.func46, Try.ntmps46
  go_wp2_with fail
  refine (at_v HS.out _ hoff n0 n8).mono ?_
  rintro e w1 ⟨rfl, hw⟩
  rw [hw]
  clear hw w1 c0 cl cf
  obtain ⟨wS, hwS⟩ : ∃ wS, ((w.alloc (.cells (cellsD s) 72)).alloc (.cells (cellsD zeroP) 72)) = wS := ⟨_, rfl⟩
  rw [hwS] at h0 h1 F0 ⊢
  clear hwS
  rw [findW3]
  obtain ⟨c0, cl, cf⟩ := knownD h0
  have hi0 : (0 : Int) ≤ i := by omega
  have hi1 : (i : Int) < 16 := by omega
  go_wp2
  go_loopw [12, 13] (fun x k' wr => ∃ k : Nat, 1 ≤ k ∧ k ≤ 32 ∧ k' = .int .i64 (k : Int) ∧ x = .int .u64 ((hV v k : Nat) : Int) ∧ Fr w.heap.size w wr ∧ wr.heap[w.heap.size]? = some (.cells (cellsD (setOn s i (partF v k (s.on i)))) 72) ∧ wr.heap[w.heap.size + 1]? = some (.cells (cellsD zeroP) 72)) (fun _ k' _ => 32 - (intOf k').toNat)
  case atStart => exact ⟨1, by omega, by omega, rfl, by first | rfl | go_num, F0, by rw [← HP.out]; exact h0, h1⟩
  case round =>
    clear h0 h1 F0 c0 cl cf hvd
    obtain ⟨k, hk1, hk2, rfl, rfl, hfr, hr, hr1⟩ := hrel
    have hk33 : (k : Int) ≤ 32 := by omega
    by_cases hlt : k < 32
    · have hk0 : (0 : Int) ≤ k := by omega
      have hk32 : (k : Int) < 32 := by omega
      have hst := hV_step v k
      have hbit := hV_bit v k
      have hle2 := hV_le v k
      have co := knownDon hr hi hlt
      obtain ⟨-, cl, cf⟩ := knownD hr
      have e1 := set_at hr (129 + i * 32 + k) (.bool (v.testBit k))
      rw [D_setOn _ hi hlt, setOn_on, setOn_setOn, partF_step v hk1] at e1
      have e2 := keep_setCell hr1 (p := ⟨w.heap.size, 129 + i * 32 + k, none⟩) hne (.bool (v.testBit k))
      have e3 := hfr.setCell (p := ⟨w.heap.size, 129 + i * 32 + k, none⟩) (Nat.le_refl _) (.bool (v.testBit k))
      obtain ⟨y, hy⟩ : ∃ y, hV v k = y := ⟨_, rfl⟩
      obtain ⟨q, hq⟩ : ∃ q, v.testBit k = q := ⟨_, rfl⟩
      rw [hy] at hst hbit hle2 ⊢
      rw [hq] at hbit e1 e2 e3
      have E := Lib.hid (And.intro e3 (And.intro e1 e2))
      have HY := Lib.hid hst
      have hbq : ((y : Int) % 2 == 1) = q := by rw [← hbit, Bool.eq_iff_iff]; simp only [beq_iff_eq, decide_eq_true_eq]; omega
      clear e1 e2 e3 hst hbit hy hq hfr hr hr1
      go_wp2
      go_roundw
      case rel => exact ⟨k + 1, by omega, by omega, by go_num, by rw [HY.out]; go_num, E.out.1, E.out.2.1, E.out.2.2⟩
      case measure => simp [intOf] <;> omega
    · have ek : k = 32 := by omega
      subst ek
      rw [HD.out] at hr
      have ld := ldD (P := Try.prog) hr
      have st := stD Try.prog hr1 (setOn s i (onF v))
      have EE := Lib.hid (lvD (row_at hr1 (cellsD (setOn s i (onF v)))))
      have FF := Lib.hid (hfr.row hle (cellsD (setOn s i (onF v))))
      clear hr hr1 hfr
      go_wp2
      refine bodyPost_ret (v := .tuple #[.agg (cellsD (setOn s i (onF v))), .bool true]) (by simp [results, Try.results46, asAddr, Act.put, EE.out]) rfl ⟨rfl, FF.out.1⟩
set_option maxRecDepth 100000 in
set_option maxHeartbeats 4000000 in
theorem rwrite_5g (s : PS) (off : Nat) (size : Int) (v i : Nat) (w : World) (hoff : off < 18446744073709551616) (hv : v < 18446744073709551616) (ok : OkP s) (hi : i < 16) (m : Nat) (hm : v % 4294967296 = m) (hbig : 32 ≤ m ∨ m = 0) (hs : spotP s.n off size = (5, i)) :
    Calls Try.prog 46 #[.agg (cellsD s), .int .u64 (off : Int), .int .i64 size, .int .u64 (v : Int)] w fun e w' => e = .returned (.tuple #[.agg (cellsD (s)), .bool true]) ∧ Below w.heap.size w w' := by
  have hm32b : v % 4294967296 < 4294967296 := Nat.mod_lt _ (by omega)
  have hme : (v : Int) % 4294967296 = ((v % 4294967296 : Nat) : Int) := by omega
  rw [hm] at hm32b hme
  have HS := Lib.hid hs
  clear hs
  have n0 := ok.n0
  have n8 := ok.n8
  have F0 := ((Fr.refl w).alloc (.cells (cellsD s) 72)).alloc (.cells (cellsD zeroP) 72)
  have h0 := keep_alloc (heap_alloc_new w (.cells (cellsD s) 72)) (.cells (cellsD zeroP) 72)
  have h1 : ((w.alloc (.cells (cellsD s) 72)).alloc (.cells (cellsD zeroP) 72)).heap[w.heap.size + 1]? = some (.cells (cellsD zeroP) 72) := by simpa using heap_alloc_new (w.alloc (.cells (cellsD s) 72)) (.cells (cellsD zeroP) 72)
  have hle : w.heap.size ≤ w.heap.size + 1 := by omega
  have hne : w.heap.size ≠ w.heap.size + 1 := by omega
  have a3 := size_cellsD
  obtain ⟨c0, cl, cf⟩ := knownD h0
  go_enter Try.func46, Try.ntmps46
  go_wp2_with fail
  refine (at_v HS.out _ hoff n0 n8).mono ?_
  rintro e w1 ⟨rfl, hw⟩
  rw [hw]
  clear hw w1 c0 cl cf
  obtain ⟨wS, hwS⟩ : ∃ wS, ((w.alloc (.cells (cellsD s) 72)).alloc (.cells (cellsD zeroP) 72)) = wS := ⟨_, rfl⟩
  rw [hwS] at h0 h1 F0 ⊢
  clear hwS
  rw [findW5]
  obtain ⟨c0, cl, cf⟩ := knownD h0
  have hi0 : (0 : Int) ≤ i := by omega
  have hi1 : (i : Int) < 16 := by omega
  rcases hbig with hb | hb
  · have d1 : decide ((1 : Int) ≤ m) = true := by simp; omega
    have d2 : decide ((m : Int) ≤ 31) = false := by simp; omega
    have ld := ldD (P := Try.prog) h0
    have st := stD Try.prog h1 (s)
    have EE := Lib.hid (lvD (row_at h1 (cellsD (s))))
    have FF := Lib.hid (F0.row hle (cellsD (s)))
    clear h0 h1 F0
    go_wp2
    refine bodyPost_ret (v := .tuple #[.agg (cellsD (s)), .bool true]) (by simp [results, Try.results46, asAddr, Act.put, EE.out]) rfl ⟨rfl, FF.out.1⟩
  · subst hb
    have ld := ldD (P := Try.prog) h0
    have st := stD Try.prog h1 (s)
    have EE := Lib.hid (lvD (row_at h1 (cellsD (s))))
    have FF := Lib.hid (F0.row hle (cellsD (s)))
    clear h0 h1 F0
    go_wp2
    refine bodyPost_ret (v := .tuple #[.agg (cellsD (s)), .bool true]) (by simp [results, Try.results46, asAddr, Act.put, EE.out]) rfl ⟨rfl, FF.out.1⟩
set_option maxRecDepth 100000 in
set_option maxHeartbeats 4000000 in
theorem rwrite_5n (s : PS) (off : Nat) (size : Int) (v i : Nat) (w : World) (hoff : off < 18446744073709551616) (hv : v < 18446744073709551616) (ok : OkP s) (hi : i < 16) (m : Nat) (hm : v % 4294967296 = m) (hlt : m < 32) (hm1 : 1 ≤ m) (hq : (s.on i m && s.se m) = false) (hs : spotP s.n off size = (5, i)) :
    Calls Try.prog 46 #[.agg (cellsD s), .int .u64 (off : Int), .int .i64 size, .int .u64 (v : Int)] w fun e w' => e = .returned (.tuple #[.agg (cellsD (s)), .bool true]) ∧ Below w.heap.size w w' := by
  have hm32b : v % 4294967296 < 4294967296 := Nat.mod_lt _ (by omega)
  have hme : (v : Int) % 4294967296 = ((v % 4294967296 : Nat) : Int) := by omega
  rw [hm] at hm32b hme
  have HS := Lib.hid hs
  clear hs
  have n0 := ok.n0
  have n8 := ok.n8
  have F0 := ((Fr.refl w).alloc (.cells (cellsD s) 72)).alloc (.cells (cellsD zeroP) 72)
  have h0 := keep_alloc (heap_alloc_new w (.cells (cellsD s) 72)) (.cells (cellsD zeroP) 72)
  have h1 : ((w.alloc (.cells (cellsD s) 72)).alloc (.cells (cellsD zeroP) 72)).heap[w.heap.size + 1]? = some (.cells (cellsD zeroP) 72) := by simpa using heap_alloc_new (w.alloc (.cells (cellsD s) 72)) (.cells (cellsD zeroP) 72)
  have hle : w.heap.size ≤ w.heap.size + 1 := by omega
  have hne : w.heap.size ≠ w.heap.size + 1 := by omega
  have a3 := size_cellsD
  obtain ⟨c0, cl, cf⟩ := knownD h0
  go_enter Try.func46, Try.ntmps46
  go_wp2_with fail
  refine (at_v HS.out _ hoff n0 n8).mono ?_
  rintro e w1 ⟨rfl, hw⟩
  rw [hw]
  clear hw w1 c0 cl cf
  obtain ⟨wS, hwS⟩ : ∃ wS, ((w.alloc (.cells (cellsD s) 72)).alloc (.cells (cellsD zeroP) 72)) = wS := ⟨_, rfl⟩
  rw [hwS] at h0 h1 F0 ⊢
  clear hwS
  rw [findW5]
  obtain ⟨c0, cl, cf⟩ := knownD h0
  have hi0 : (0 : Int) ≤ i := by omega
  have hi1 : (i : Int) < 16 := by omega
  have hm0 : (0 : Int) ≤ m := by omega
  have hm1' : (1 : Int) ≤ m := by omega
  have hm31 : (m : Int) ≤ 31 := by omega
  have hm33 : (m : Int) < 32 := by omega
  have co := knownDon h0 hi hlt
  have cs := knownDse h0 hlt
  have cw := knownDwi h0 hlt
  have ca := knownDwa h0 hlt
  cases h1' : s.on i m with
  | false =>
    rw [h1'] at co
    have ld := ldD (P := Try.prog) h0
    have st := stD Try.prog h1 (s)
    have EE := Lib.hid (lvD (row_at h1 (cellsD (s))))
    have FF := Lib.hid (F0.row hle (cellsD (s)))
    clear h0 h1 F0
    go_wp2
    refine bodyPost_ret (v := .tuple #[.agg (cellsD (s)), .bool true]) (by simp [results, Try.results46, asAddr, Act.put, EE.out]) rfl ⟨rfl, FF.out.1⟩
  | true =>
    have h2' : s.se m = false := by rw [h1'] at hq; simpa using hq
    rw [h1'] at co
    rw [h2'] at cs
    have ld := ldD (P := Try.prog) h0
    have st := stD Try.prog h1 (s)
    have EE := Lib.hid (lvD (row_at h1 (cellsD (s))))
    have FF := Lib.hid (F0.row hle (cellsD (s)))
    clear h0 h1 F0
    go_wp2
    refine bodyPost_ret (v := .tuple #[.agg (cellsD (s)), .bool true]) (by simp [results, Try.results46, asAddr, Act.put, EE.out]) rfl ⟨rfl, FF.out.1⟩
set_option maxRecDepth 100000 in
set_option maxHeartbeats 4000000 in
theorem rwrite_5y (s : PS) (off : Nat) (size : Int) (v i : Nat) (w : World) (hoff : off < 18446744073709551616) (hv : v < 18446744073709551616) (ok : OkP s) (hi : i < 16) (m : Nat) (hm : v % 4294967296 = m) (hlt : m < 32) (hm1 : 1 ≤ m) (ho : s.on i m = true) (hq : s.se m = true) (hs : spotP s.n off size = (5, i)) :
    Calls Try.prog 46 #[.agg (cellsD s), .int .u64 (off : Int), .int .i64 size, .int .u64 (v : Int)] w fun e w' => e = .returned (.tuple #[.agg (cellsD (doneP s m)), .bool true]) ∧ Below w.heap.size w w' := by
  have hm32b : v % 4294967296 < 4294967296 := Nat.mod_lt _ (by omega)
  have hme : (v : Int) % 4294967296 = ((v % 4294967296 : Nat) : Int) := by omega
  rw [hm] at hm32b hme
  have HS := Lib.hid hs
  clear hs
  have n0 := ok.n0
  have n8 := ok.n8
  have F0 := ((Fr.refl w).alloc (.cells (cellsD s) 72)).alloc (.cells (cellsD zeroP) 72)
  have h0 := keep_alloc (heap_alloc_new w (.cells (cellsD s) 72)) (.cells (cellsD zeroP) 72)
  have h1 : ((w.alloc (.cells (cellsD s) 72)).alloc (.cells (cellsD zeroP) 72)).heap[w.heap.size + 1]? = some (.cells (cellsD zeroP) 72) := by simpa using heap_alloc_new (w.alloc (.cells (cellsD s) 72)) (.cells (cellsD zeroP) 72)
  have hle : w.heap.size ≤ w.heap.size + 1 := by omega
  have hne : w.heap.size ≠ w.heap.size + 1 := by omega
  have a3 := size_cellsD
  obtain ⟨c0, cl, cf⟩ := knownD h0
  go_enter Try.func46, Try.ntmps46
  go_wp2_with fail
  refine (at_v HS.out _ hoff n0 n8).mono ?_
  rintro e w1 ⟨rfl, hw⟩
  rw [hw]
  clear hw w1 c0 cl cf
  obtain ⟨wS, hwS⟩ : ∃ wS, ((w.alloc (.cells (cellsD s) 72)).alloc (.cells (cellsD zeroP) 72)) = wS := ⟨_, rfl⟩
  rw [hwS] at h0 h1 F0 ⊢
  clear hwS
  rw [findW5]
  obtain ⟨c0, cl, cf⟩ := knownD h0
  have hi0 : (0 : Int) ≤ i := by omega
  have hi1 : (i : Int) < 16 := by omega
  have hm0 : (0 : Int) ≤ m := by omega
  have hm1' : (1 : Int) ≤ m := by omega
  have hm31 : (m : Int) ≤ 31 := by omega
  have hm33 : (m : Int) < 32 := by omega
  have co := knownDon h0 hi hlt
  have cs := knownDse h0 hlt
  have cw := knownDwi h0 hlt
  have ca := knownDwa h0 hlt
  rw [ho] at co
  rw [hq] at cs
  have h2 := set_at h0 (97 + m) (.bool false)
  rw [D_setSe s hlt] at h2
  have h3 := keep_setCell h1 (p := ⟨w.heap.size, 97 + m, none⟩) hne (.bool false)
  have F3 := F0.setCell (p := ⟨w.heap.size, 97 + m, none⟩) (Nat.le_refl _) (.bool false)
  cases hwi : s.wi m with
  | false =>
    have HS2 : Hid (doneP s m = setSe s (upN s.se m false)) := by show _ = _; unfold doneP; rw [if_neg (by rw [hwi]; simp)]
    rw [hwi] at cw
    clear h0 h1 F0
    have ld := ldD (P := Try.prog) h2
    have st := stD Try.prog h3 (setSe s (upN s.se m false))
    have EE := Lib.hid (lvD (row_at h3 (cellsD (setSe s (upN s.se m false)))))
    have FF := Lib.hid (F3.row hle (cellsD (setSe s (upN s.se m false))))
    clear h2 h3 F3
    go_wp2
    refine bodyPost_ret (v := .tuple #[.agg (cellsD (setSe s (upN s.se m false))), .bool true]) (by simp [results, Try.results46, asAddr, Act.put, EE.out]) rfl ⟨by rw [HS2.out], FF.out.1⟩
  | true =>
    have HS2 : Hid (doneP s m = setWa (setSe s (upN s.se m false)) (upN s.wa m true)) := by show _ = _; unfold doneP; rw [if_pos hwi]
    rw [hwi] at cw
    have h4 := set_at h2 (65 + m) (.bool true)
    rw [D_setWa _ hlt] at h4
    have h5 := keep_setCell h3 (p := ⟨w.heap.size, 65 + m, none⟩) hne (.bool true)
    have F5 := F3.setCell (p := ⟨w.heap.size, 65 + m, none⟩) (Nat.le_refl _) (.bool true)
    change _ = some (Obj.cells (cellsD (setWa (setSe s (upN s.se m false)) (upN s.wa m true))) _) at h4
    clear h0 h1 F0 h2 h3 F3
    have ld := ldD (P := Try.prog) h4
    have st := stD Try.prog h5 (setWa (setSe s (upN s.se m false)) (upN s.wa m true))
    have EE := Lib.hid (lvD (row_at h5 (cellsD (setWa (setSe s (upN s.se m false)) (upN s.wa m true)))))
    have FF := Lib.hid (F5.row hle (cellsD (setWa (setSe s (upN s.se m false)) (upN s.wa m true))))
    clear h4 h5 F5
    go_wp2
    refine bodyPost_ret (v := .tuple #[.agg (cellsD (setWa (setSe s (upN s.se m false)) (upN s.wa m true))), .bool true]) (by simp [results, Try.results46, asAddr, Act.put, EE.out]) rfl ⟨by rw [HS2.out], FF.out.1⟩
theorem rwrite_any (s : PS) (off : Nat) (size : Int) (v : Nat) (w : World) (hoff : off < 18446744073709551616) (hv : v < 18446744073709551616) (ok : OkP s) :
    Calls Try.prog 46 #[.agg (cellsD s), .int .u64 (off : Int), .int .i64 size, .int .u64 (v : Int)] w fun e w' => e = .returned (.tuple #[.agg (cellsD (writeP s v (spotP s.n off size)).1), .bool (writeP s v (spotP s.n off size)).2]) ∧ Below w.heap.size w w' := by
  have hk := spotP_ok s.n off size
  have n8 := ok.n8
  obtain ⟨⟨r, i⟩, hsp⟩ : ∃ p, spotP s.n off size = p := ⟨_, rfl⟩
  rw [hsp] at hk ⊢
  unfold SpotOk at hk
  simp only at hk
  rcases hk with rfl | ⟨rfl, _, hi⟩ | rfl | ⟨rfl, hi⟩ | ⟨rfl, hi⟩ | ⟨rfl, hi⟩
  · exact rwrite_0 s off size v i w hoff hv ok hsp
  · exact rwrite_1 s off size v i w hoff hv ok hi hsp
  · exact rwrite_2 s off size v i w hoff hv ok hsp
  · exact rwrite_3 s off size v i w hoff hv ok (by omega) hsp
  · exact rwrite_4 s off size v i w hoff hv ok (by omega) hsp
  · obtain ⟨m, hm⟩ : ∃ m, v % 4294967296 = m := ⟨_, rfl⟩
    have hw : writeP s v (5, i) = (endP s i m, true) := by rw [← hm]; rfl
    rw [hw]
    unfold endP
    by_cases hlt : m < 32
    · by_cases h0 : m = 0
      · rw [if_neg (by rintro ⟨_, _, h⟩; rw [h0, ok.se0] at h; cases h)]
        exact rwrite_5g s off size v i w hoff hv ok (by omega) m hm (Or.inr h0) hsp
      · by_cases hq : (s.on i m && s.se m) = true
        · have hq2 : s.on i m = true ∧ s.se m = true := by simpa using hq
          rw [if_pos ⟨hlt, hq2⟩]
          exact rwrite_5y s off size v i w hoff hv ok (by omega) m hm hlt (by omega) hq2.1 hq2.2 hsp
        · rw [if_neg (by rintro ⟨_, a1, a2⟩; exact hq (by simp [a1, a2]))]
          exact rwrite_5n s off size v i w hoff hv ok (by omega) m hm hlt (by omega) (by simpa using hq) hsp
    · rw [if_neg (fun hh => hlt hh.1)]
      exact rwrite_5g s off size v i w hoff hv ok (by omega) m hm (Or.inl (by omega)) hsp
theorem rwrite_v {s s' : PS} {off : Nat} {size : Int} {v : Nat} {q : Bool} (hr : writeP s v (spotP s.n off size) = (s', q)) (w : World) (hoff : off < 18446744073709551616) (hv : v < 18446744073709551616) (ok : OkP s) :
    Calls Try.prog 46 #[.agg (cellsD s), .int .u64 (off : Int), .int .i64 size, .int .u64 (v : Int)] w fun e w' => e = .returned (.tuple #[.agg (cellsD s'), .bool q]) ∧ Below w.heap.size w w' := by
  have := rwrite_any s off size v w hoff hv ok
  rw [hr] at this
  exact this
set_option maxRecDepth 100000 in
set_option maxHeartbeats 4000000 in
theorem rwire_no (s : PS) (i : Int) (on : Bool) (w : World) (ok : OkP s) (hn : s.n = 0 ∨ i < 1 ∨ 31 < i) :
    Calls Try.prog 47 #[.agg (cellsD s), .int .i64 i, .bool on] w fun e w' => e = .returned (.tuple #[.agg (cellsD (s)), .bool false]) ∧ Below w.heap.size w w' := by
  have F0 := ((Fr.refl w).alloc (.cells (cellsD s) 72)).alloc (.cells (cellsD zeroP) 72)
  have h0 := keep_alloc (heap_alloc_new w (.cells (cellsD s) 72)) (.cells (cellsD zeroP) 72)
  have h1 : ((w.alloc (.cells (cellsD s) 72)).alloc (.cells (cellsD zeroP) 72)).heap[w.heap.size + 1]? = some (.cells (cellsD zeroP) 72) := by simpa using heap_alloc_new (w.alloc (.cells (cellsD s) 72)) (.cells (cellsD zeroP) 72)
  have hle : w.heap.size ≤ w.heap.size + 1 := by omega
  have hne : w.heap.size ≠ w.heap.size + 1 := by omega
  have a3 := size_cellsD
  obtain ⟨c0, cl, cf⟩ := knownD h0
  by_cases hn0 : s.n = 0
  · rw [hn0] at c0
    go_enter Try.func47, Try.ntmps47
    have ld := ldD (P := Try.prog) h0
    have st := stD Try.prog h1 (s)
    have EE := Lib.hid (lvD (row_at h1 (cellsD (s))))
    have FF := Lib.hid (F0.row hle (cellsD (s)))
    clear h0 h1 F0
    go_wp2
    refine bodyPost_ret (v := .tuple #[.agg (cellsD (s)), .bool false]) (by simp [results, Try.results47, asAddr, Act.put, EE.out]) rfl ⟨rfl, FF.out.1⟩
  · have hnb : (s.n == 0) = false := by simp [hn0]
    by_cases hi1 : i < 1
    · have d1 : decide (i < 1) = true := by simp; omega
      go_enter Try.func47, Try.ntmps47
      have ld := ldD (P := Try.prog) h0
      have st := stD Try.prog h1 (s)
      have EE := Lib.hid (lvD (row_at h1 (cellsD (s))))
      have FF := Lib.hid (F0.row hle (cellsD (s)))
      clear h0 h1 F0
      go_wp2
      refine bodyPost_ret (v := .tuple #[.agg (cellsD (s)), .bool false]) (by simp [results, Try.results47, asAddr, Act.put, EE.out]) rfl ⟨rfl, FF.out.1⟩
    · have d1 : decide (i < 1) = false := by simp; omega
      have d2 : decide (31 < i) = true := by simp; omega
      go_enter Try.func47, Try.ntmps47
      have ld := ldD (P := Try.prog) h0
      have st := stD Try.prog h1 (s)
      have EE := Lib.hid (lvD (row_at h1 (cellsD (s))))
      have FF := Lib.hid (F0.row hle (cellsD (s)))
      clear h0 h1 F0
      go_wp2
      refine bodyPost_ret (v := .tuple #[.agg (cellsD (s)), .bool false]) (by simp [results, Try.results47, asAddr, Act.put, EE.out]) rfl ⟨rfl, FF.out.1⟩
set_option maxRecDepth 100000 in
set_option maxHeartbeats 4000000 in
theorem rwire_yes (s : PS) (i : Nat) (on : Bool) (w : World) (ok : OkP s) (hn : s.n ≠ 0) (hi1 : 1 ≤ i) (hlt : i < 32) :
    Calls Try.prog 47 #[.agg (cellsD s), .int .i64 (i : Int), .bool on] w fun e w' => e = .returned (.tuple #[.agg (cellsD (wireS s i on)), .bool true]) ∧ Below w.heap.size w w' := by
  have F0 := ((Fr.refl w).alloc (.cells (cellsD s) 72)).alloc (.cells (cellsD zeroP) 72)
  have h0 := keep_alloc (heap_alloc_new w (.cells (cellsD s) 72)) (.cells (cellsD zeroP) 72)
  have h1 : ((w.alloc (.cells (cellsD s) 72)).alloc (.cells (cellsD zeroP) 72)).heap[w.heap.size + 1]? = some (.cells (cellsD zeroP) 72) := by simpa using heap_alloc_new (w.alloc (.cells (cellsD s) 72)) (.cells (cellsD zeroP) 72)
  have hle : w.heap.size ≤ w.heap.size + 1 := by omega
  have hne : w.heap.size ≠ w.heap.size + 1 := by omega
  have a3 := size_cellsD
  obtain ⟨c0, cl, cf⟩ := knownD h0
  have hnb : (s.n == 0) = false := by simp [hn]
  have d1 : decide ((i : Int) < 1) = false := by simp; omega
  have d2 : decide (31 < (i : Int)) = false := by simp; omega
  have hi0 : (0 : Int) ≤ i := by omega
  have hi33 : (i : Int) < 32 := by omega
  have cs := knownDse h0 hlt
  have cw := knownDwi h0 hlt
  have ca := knownDwa h0 hlt
  have cs' : (cellsD s)[97 + i]? = some (.bool (s.se i)) := D_se s hlt
  have cs'' : (cellsD (setWi s (upN s.wi i on)))[97 + i]? = some (.bool (s.se i)) := D_se _ hlt
  have ca'' : (cellsD (setWi s (upN s.wi i on)))[65 + i]? = some (.bool (s.wa i)) := D_wa _ hlt
  have q1 := D_setWi s hlt on
  have q2 : (cellsD (setWi s (upN s.wi i on))).setIfInBounds (65 + i) (.bool true) = cellsD (setWa (setWi s (upN s.wi i on)) (upN s.wa i true)) := D_setWa _ hlt true
  clear h0 h1 F0
  cases on with
  | false =>
    have HS2 : Hid (wireS s i false = setWi s (upN s.wi i false)) := by show _ = _; unfold wireS; rw [if_neg (by simp)]
    rw [HS2.out]
    have ld : (loadCellsFrom ⟨w.heap.size, 0, none⟩ 0 szD #[]).run Try.prog ((w.alloc (.cells (cellsD (setWi s (upN s.wi i false))) 72)).alloc (.cells (cellsD zeroP) 72)) = .ok (cellsD (setWi s (upN s.wi i false))) ((w.alloc (.cells (cellsD (setWi s (upN s.wi i false))) 72)).alloc (.cells (cellsD zeroP) 72)) := ldD (keep_alloc (heap_alloc_new _ _) _)
    have st := stnD_1 w (.cells (cellsD (setWi s (upN s.wi i false))) 72) zeroP (setWi s (upN s.wi i false))
    have he : ((w.alloc (.cells (cellsD (setWi s (upN s.wi i false))) 72)).alloc (.cells (cellsD (setWi s (upN s.wi i false))) 72)).heap[w.heap.size + 1]? = some (.cells (cellsD (setWi s (upN s.wi i false))) 72) := by simpa using heap_alloc_new (w.alloc (.cells (cellsD (setWi s (upN s.wi i false))) 72)) (.cells (cellsD (setWi s (upN s.wi i false))) 72)
    have EE := Lib.hid (lvD he)
    clear he
    go_enter Try.func47, Try.ntmps47
    go_wp2
    refine bodyPost_ret (v := .tuple #[.agg (cellsD (setWi s (upN s.wi i false))), .bool true]) (by simp [results, Try.results47, asAddr, Act.put, EE.out]) rfl ⟨rfl, (((Fr.refl w).alloc _).alloc _).1⟩
  | true =>
    cases hse : s.se i with
    | true =>
      have HS2 : Hid (wireS s i true = setWi s (upN s.wi i true)) := by show _ = _; unfold wireS; rw [if_neg (by rw [hse]; simp)]
      rw [HS2.out]
      rw [hse] at cs cs' cs''
      have ld : (loadCellsFrom ⟨w.heap.size, 0, none⟩ 0 szD #[]).run Try.prog ((w.alloc (.cells (cellsD (setWi s (upN s.wi i true))) 72)).alloc (.cells (cellsD zeroP) 72)) = .ok (cellsD (setWi s (upN s.wi i true))) ((w.alloc (.cells (cellsD (setWi s (upN s.wi i true))) 72)).alloc (.cells (cellsD zeroP) 72)) := ldD (keep_alloc (heap_alloc_new _ _) _)
      have st := stnD_1 w (.cells (cellsD (setWi s (upN s.wi i true))) 72) zeroP (setWi s (upN s.wi i true))
      have he : ((w.alloc (.cells (cellsD (setWi s (upN s.wi i true))) 72)).alloc (.cells (cellsD (setWi s (upN s.wi i true))) 72)).heap[w.heap.size + 1]? = some (.cells (cellsD (setWi s (upN s.wi i true))) 72) := by simpa using heap_alloc_new (w.alloc (.cells (cellsD (setWi s (upN s.wi i true))) 72)) (.cells (cellsD (setWi s (upN s.wi i true))) 72)
      have EE := Lib.hid (lvD he)
      clear he
      go_enter Try.func47, Try.ntmps47
      go_wp2
      refine bodyPost_ret (v := .tuple #[.agg (cellsD (setWi s (upN s.wi i true))), .bool true]) (by simp [results, Try.results47, asAddr, Act.put, EE.out]) rfl ⟨rfl, (((Fr.refl w).alloc _).alloc _).1⟩
    | false =>
      have HS2 : Hid (wireS s i true = setWa (setWi s (upN s.wi i true)) (upN s.wa i true)) := by show _ = _; unfold wireS; rw [if_pos ⟨rfl, hse⟩]
      rw [HS2.out]
      rw [hse] at cs cs' cs''
      have ld : (loadCellsFrom ⟨w.heap.size, 0, none⟩ 0 szD #[]).run Try.prog ((w.alloc (.cells (cellsD (setWa (setWi s (upN s.wi i true)) (upN s.wa i true))) 72)).alloc (.cells (cellsD zeroP) 72)) = .ok (cellsD (setWa (setWi s (upN s.wi i true)) (upN s.wa i true))) ((w.alloc (.cells (cellsD (setWa (setWi s (upN s.wi i true)) (upN s.wa i true))) 72)).alloc (.cells (cellsD zeroP) 72)) := ldD (keep_alloc (heap_alloc_new _ _) _)
      have st := stnD_1 w (.cells (cellsD (setWa (setWi s (upN s.wi i true)) (upN s.wa i true))) 72) zeroP (setWa (setWi s (upN s.wi i true)) (upN s.wa i true))
      have he : ((w.alloc (.cells (cellsD (setWa (setWi s (upN s.wi i true)) (upN s.wa i true))) 72)).alloc (.cells (cellsD (setWa (setWi s (upN s.wi i true)) (upN s.wa i true))) 72)).heap[w.heap.size + 1]? = some (.cells (cellsD (setWa (setWi s (upN s.wi i true)) (upN s.wa i true))) 72) := by simpa using heap_alloc_new (w.alloc (.cells (cellsD (setWa (setWi s (upN s.wi i true)) (upN s.wa i true))) 72)) (.cells (cellsD (setWa (setWi s (upN s.wi i true)) (upN s.wa i true))) 72)
      have EE := Lib.hid (lvD he)
      clear he
      go_enter Try.func47, Try.ntmps47
      go_wp2
      refine bodyPost_ret (v := .tuple #[.agg (cellsD (setWa (setWi s (upN s.wi i true)) (upN s.wa i true))), .bool true]) (by simp [results, Try.results47, asAddr, Act.put, EE.out]) rfl ⟨rfl, (((Fr.refl w).alloc _).alloc _).1⟩
theorem rwire_any (s : PS) (i : Int) (on : Bool) (w : World) (ok : OkP s) :
    Calls Try.prog 47 #[.agg (cellsD s), .int .i64 i, .bool on] w fun e w' => e = .returned (.tuple #[.agg (cellsD (wireP s i on).1), .bool (wireP s i on).2]) ∧ Below w.heap.size w w' := by
  unfold wireP
  by_cases hc : s.n = 0 ∨ i < 1 ∨ 31 < i
  · rw [if_pos hc]; exact rwire_no s i on w ok hc
  · rw [if_neg hc]
    obtain ⟨k, rfl⟩ := Int.eq_ofNat_of_zero_le (by omega : 0 ≤ i)
    exact rwire_yes s k on w ok (by omega) (by omega) (by omega)
theorem rwire_v {s s' : PS} {i : Int} {on q : Bool} (hr : wireP s i on = (s', q)) (w : World) (ok : OkP s) :
    Calls Try.prog 47 #[.agg (cellsD s), .int .i64 i, .bool on] w fun e w' => e = .returned (.tuple #[.agg (cellsD s'), .bool q]) ∧ Below w.heap.size w w' := by
  have := rwire_any s i on w ok
  rw [hr] at this
  exact this
end Go.Proofs.Ytgelpapjmlbgfaa
