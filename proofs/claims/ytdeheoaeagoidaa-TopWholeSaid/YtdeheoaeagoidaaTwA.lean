/- Lines: the type's facts; fits, Get and Put of the program. Picked out of the line texts of seat B. -/
import Derived.Test.YtdeheoaeagoidaaLnA
import Derived.Deep.DeepCutAuto
import Derived.Deep.MidRow
import Derived.Deep.RegionHeld3
namespace Go.Proofs.Ytdeheoaeagoidaa
open Go.RowKit
set_option linter.unusedSimpArgs false
set_option linter.unusedVariables false

theorem infoLL : (Try.prog.info? 135).map (·.size) = some 64 := by kernel_rfl
theorem zeroLL (w : World) : (zeroValue 135).run Try.prog w = .ok (.agg (cellsL fun _ => 0)) w := by rw [Try.zeroValue135]; rfl
theorem sizeLL (w : World) : (sizeOf 135).run Try.prog w = .ok sz64 w := by rw [Try.sizeOf135]; rfl
theorem lvLL {w : World} {b : Nat} {g : Nat → Nat} {t : TypeId} (h : w.heap[b]? = some (.cells (cellsL g) t)) : (loadVar 135 ⟨b, 0, none⟩).run Try.prog w = .ok (.agg (cellsL g)) w := run_loadVar_row w b _ _ _ _ _ h Try.underlying135 rfl (by rw [size_cellsL']; exact infoLL)
theorem stnLL (w : World) (g g' : Nat → Nat) : (storeCells ⟨w.heap.size, 0, none⟩ (cellsL g').toList).run Try.prog (w.alloc (.cells (cellsL g) 135)) = .ok () (w.alloc (.cells (cellsL g') 135)) :=
  run_storeCells_new w _ _ _ infoLL (by simp [size_cellsL']) (one_cellsL g')
theorem coU8 : Try.prog.cellsOf 5 = 1 := by kernel_rfl
theorem coLL : Try.prog.cellsOf 135 = 64 := by kernel_rfl
theorem ktLL : Try.prog.keyTypeAt 3 135 = true := by kernel_rfl
theorem eqLL (g h : Nat → Nat) (okg : OkL g) (okh : OkL h) (w : World) : ∃ r, (Op.equalIn 10000 135 (.agg (cellsL g)) (.agg (cellsL h))).run Try.prog w = .ok r w ∧ (r = true ↔ ∀ i, i < 64 → g i = h i) :=
  eqL_gen Try.underlying135 Try.underlying5 coU8 coLL ktLL g h okg okh w
theorem eqLs (g : Nat → Nat) (okg : OkL g) (w : World) : (Op.equalIn 10000 135 (.agg (cellsL g)) (.agg (cellsL g))).run Try.prog w = .ok true w :=
  eqL_same Try.underlying135 Try.underlying5 coU8 coLL ktLL g okg w
theorem one8 : one1 Try.prog 5 = true := by kernel_rfl
attribute [local simp high] sizeLL zeroLL
theorem lfits_any (a n : Int) (w : World) :
    Calls Try.prog 86 #[.int .i64 a, .int .i64 n] w fun e w' => e = .returned (.bool (fitB a n)) ∧ w' = w := by
  by_cases h1 : 1 ≤ n
  · by_cases h2 : n ≤ 8
    · by_cases h3 : 0 ≤ a
      · by_cases h4 : a + n ≤ 64
        · have H : Hid (fitB a n = true) := by show _ = _; simp [fitB, h1, h2, h3, h4]
          have d4 : decide (a ≤ 64 - n) = true := by simp; omega
          go_enter Try.func86, Try.ntmps86
          go_wp2
          go_ret
          exact ⟨by rw [H.out] <;> rfl, rfl⟩
        · have H : Hid (fitB a n = false) := by show _ = _; exact fitB_f (by omega)
          have d4 : decide (a ≤ 64 - n) = false := by simp; omega
          go_enter Try.func86, Try.ntmps86
          go_wp2
          go_ret
          exact ⟨by rw [H.out] <;> rfl, rfl⟩
      · have H : Hid (fitB a n = false) := by show _ = _; exact fitB_f (by omega)
        have d3 : decide (0 ≤ a) = false := by simp; omega
        go_enter Try.func86, Try.ntmps86
        go_wp2
        go_ret
        exact ⟨by rw [H.out] <;> rfl, rfl⟩
    · have H : Hid (fitB a n = false) := by show _ = _; exact fitB_f (by omega)
      have d3 : decide (n ≤ 8) = false := by simp; omega
      go_enter Try.func86, Try.ntmps86
      go_wp2
      go_ret
      exact ⟨by rw [H.out] <;> rfl, rfl⟩
  · have H : Hid (fitB a n = false) := by show _ = _; exact fitB_f (by omega)
    have d3 : decide (1 ≤ n) = false := by simp; omega
    go_enter Try.func86, Try.ntmps86
    go_wp2
    go_ret
    exact ⟨by rw [H.out] <;> rfl, rfl⟩
theorem or_byte (x y : Nat) (hx : x < 72057594037927936) (hy : y < 256) : bits BinOp.or IntKind.u64 ((x : Int) * 256) (y : Int) = ((y + 256 * x : Nat) : Int) := by
  have h := u64_or_nat (x * 256) y (by omega) (by omega)
  have e : ((x * 256 : Nat) : Int) = (x : Int) * 256 := by omega
  rw [e] at h
  rw [h]
  have h2 := Nat.shiftLeft_add_eq_or_of_lt (show y < 2 ^ 8 by omega) x
  rw [Nat.shiftLeft_eq] at h2
  have h3 : x * 256 ||| y = y + 256 * x := by
    rw [show (256 : Nat) = 2 ^ 8 by omega, ← h2]
    omega
  rw [h3]
set_option maxRecDepth 100000 in
set_option maxHeartbeats 2000000 in
theorem lget_yes (g : Nat → Nat) (a n : Nat) (w : World) (ok : OkL g) (h1 : 1 ≤ n) (h8 : n ≤ 8) (ha : a + n ≤ 64) :
    Calls Try.prog 71 #[.agg (cellsL g), .int .i64 (a : Int), .int .i64 (n : Int)] w fun e w' => e = .returned (.tuple #[.int .u64 (numL g a n : Int), .bool true]) ∧ Below w.heap.size w w' := by
  have l3 := size_cellsL
  have hfit : fitB (a : Int) (n : Int) = true := by unfold fitB; simp; omega
  have HF := Lib.hid hfit
  clear hfit
  go_enter Try.func71, Try.ntmps71
  go_wp2_with fail
  refine (lfits_any _ _ _).mono ?_
  rw [HF.out]
  rintro e w1 ⟨rfl, rfl⟩
  have k0 := heap_alloc_new w (.cells (cellsL g) 135)
  have F0 := (Fr.refl w).alloc (.cells (cellsL g) 135)
  go_wp2
  obtain ⟨w1, hw1⟩ : ∃ w1, w1 = w.alloc (.cells (cellsL g) 135) := ⟨_, rfl⟩
  rw [← hw1] at k0 F0 ⊢
  clear hw1
  go_loopw [8, 9] (fun v i wr => ∃ k : Nat, k ≤ n ∧ i = .int .i64 ((k : Int) - 1) ∧ v = .int .u64 (numL g (a + k) (n - k) : Int) ∧ Fr w.heap.size w wr ∧ wr.heap[w.heap.size]? = some (.cells (cellsL g) 135)) (fun v i _ => (intOf i + 1).toNat)
  case atStart => exact ⟨n, by omega, rfl, by rw [Nat.sub_self]; rfl, F0, k0⟩
  case round =>
    clear F0 k0
    obtain ⟨k, hk, rfl, rfl, hfr, hr⟩ := hrel
    cases k with
    | zero =>
      have F1 := Lib.hid hfr.1
      clear hfr hr
      go_wp2
      exact bodyPost_ret (v := .tuple #[.int .u64 (numL g (a + 0) (n - 0) : Int), .bool true]) (by simp [results, Try.results71, go_sem]) rfl ⟨rfl, F1.out⟩
    | succ j =>
      have ej : ((j + 1 : Nat) : Int) - 1 = (j : Int) := by omega
      rw [ej]
      have hj0 : (0 : Int) ≤ j := by omega
      have c0 := knownL hr (i := a + j) (by omega)
      have htn : ((a : Int) + (j : Int)).toNat = a + j := by omega
      have hij0 : (0 : Int) ≤ (a : Int) + j := by omega
      have hij1 : (a : Int) + j < 64 := by omega
      have hx := numL_lt ok (n - (j + 1)) (a + (j + 1))
      have hx7 : 256 ^ (n - (j + 1)) ≤ 256 ^ 7 := Nat.pow_le_pow_right (by omega) (by omega)
      have hb := ok (a + j)
      have hnext : numL g (a + j) (n - j) = g (a + j) + 256 * numL g (a + (j + 1)) (n - (j + 1)) := by
        rw [show n - j = (n - (j + 1)) + 1 by omega]
        rfl
      obtain ⟨x, hxe⟩ : ∃ x, numL g (a + (j + 1)) (n - (j + 1)) = x := ⟨_, rfl⟩
      obtain ⟨y, hye⟩ : ∃ y, g (a + j) = y := ⟨_, rfl⟩
      rw [hxe] at hx hnext ⊢
      rw [hye] at hb c0 hnext
      have hx' : x < 72057594037927936 := Nat.lt_of_lt_of_le hx (by simpa using hx7)
      have hwx : IntKind.u64.wrap ((x : Int) * 256) = (x : Int) * 256 := by rw [IntKind.wrap_u64]; omega
      have hwy : IntKind.u64.wrap (y : Int) = (y : Int) := by rw [IntKind.wrap_u64]; omega
      have hor := or_byte x y hx' hb
      have HN := Lib.hid hnext
      have HS := Lib.hid (And.intro hfr hr)
      clear hx hx7 hx' hb hxe hye hnext
      go_wp2
      go_roundw
      case rel => exact ⟨j, by omega, by go_num, by rw [HN.out, show ((y + 256 * x : Nat) : Int) = (y : Int) + 256 * x by omega], HS.out⟩
      case measure => simp [intOf]
theorem lget_any (g : Nat → Nat) (a n : Int) (w : World) (ok : OkL g) :
    Calls Try.prog 71 #[.agg (cellsL g), .int .i64 a, .int .i64 n] w fun e w' => e = .returned (.tuple #[.int .u64 (getV g a n : Int), .bool (fitB a n)]) ∧ Below w.heap.size w w' := by
  cases hf : fitB a n with
  | true =>
    obtain ⟨h1, h8, h0, ha⟩ := fitB_t hf
    obtain ⟨A, rfl⟩ : ∃ A : Nat, a = A := ⟨a.toNat, by omega⟩
    obtain ⟨N, rfl⟩ : ∃ N : Nat, n = N := ⟨n.toNat, by omega⟩
    have e : getV g A N = numL g A N := by unfold getV; rw [if_pos hf]; rfl
    rw [e]
    exact lget_yes g A N w ok (by omega) (by omega) (by omega)
  | false =>
    have e : getV g a n = 0 := by unfold getV; rw [if_neg (by simp [hf])]
    have H := Lib.hid e
    have HF := Lib.hid hf
    rw [e]
    clear e hf
    have l3 := size_cellsL
    have F0 := Lib.hid ((Fr.refl w).alloc (.cells (cellsL g) 135)).1
    go_enter Try.func71, Try.ntmps71
    go_wp2_with fail
    refine (lfits_any _ _ _).mono ?_
    rw [HF.out]
    rintro e w1 ⟨rfl, rfl⟩
    go_wp2
    exact bodyPost_ret (v := .tuple #[.int .u64 0, .bool false]) (by simp [results, Try.results71, go_sem]) rfl ⟨rfl, F0.out⟩
set_option maxRecDepth 100000 in
set_option maxHeartbeats 2000000 in
theorem lput_yes (g : Nat → Nat) (a n v : Nat) (w : World) (ok : OkL g) (hv : v < 18446744073709551616) (h1 : 1 ≤ n) (h8 : n ≤ 8) (ha : a + n ≤ 64) :
    Calls Try.prog 73 #[.agg (cellsL g), .int .i64 (a : Int), .int .i64 (n : Int), .int .u64 (v : Int)] w fun e w' => e = .returned (.tuple #[.agg (cellsL (putL g a n v)), .bool true]) ∧ Below w.heap.size w w' := by
  have l3 := size_cellsL
  have hfit : fitB (a : Int) (n : Int) = true := by unfold fitB; simp; omega
  have HF := Lib.hid hfit
  clear hfit
  go_enter Try.func73, Try.ntmps73
  go_wp2_with fail
  refine (lfits_any _ _ _).mono ?_
  rw [HF.out]
  rintro e w1 ⟨rfl, rfl⟩
  go_wp2
  obtain ⟨w1, hw1⟩ : ∃ w1, w1 = (w.alloc (.cells (cellsL g) 135)).alloc (.cells (cellsL fun _ => 0) 135) := ⟨_, rfl⟩
  have F0 : Fr w.heap.size w w1 := by rw [hw1]; exact ((Fr.refl w).alloc _).alloc _
  have k0 : w1.heap[w.heap.size]? = some (.cells (cellsL (putL g a 0 v)) 135) := by rw [hw1, putL_zero]; exact keep_alloc (heap_alloc_new _ _) _
  have r0 : w1.heap[w.heap.size + 1]? = some (.cells (cellsL fun _ => 0) 135) := by rw [hw1]; simpa using heap_alloc_new (w.alloc (.cells (cellsL g) 135)) (.cells (cellsL fun _ => 0) 135)
  rw [← hw1]
  clear hw1
  go_loopw [17] (fun i wr => ∃ k : Nat, k ≤ n ∧ i = .int .i64 (k : Int) ∧ Fr w.heap.size w wr ∧ wr.heap[w.heap.size]? = some (.cells (cellsL (putL g a k v)) 135) ∧ wr.heap[w.heap.size + 1]? = some (.cells (cellsL fun _ => 0) 135)) (fun i _ => n - (intOf i).toNat)
  case atStart => exact ⟨0, by omega, rfl, F0, k0, r0⟩
  case round =>
    clear F0 k0 r0
    obtain ⟨k, hk, rfl, hfr, hr, hr1⟩ := hrel
    by_cases hlt : k < n
    · have hj0 : (0 : Int) ≤ k := by omega
      have c0 := knownL hr (i := a + k) (by omega)
      have htn : ((a : Int) + (k : Int)).toNat = a + k := by omega
      have hij0 : (0 : Int) ≤ (a : Int) + k := by omega
      have hij1 : (a : Int) + k < 64 := by omega
      have hlt' : (k : Int) < n := by omega
      have hltb := lt_of_at hr
      have hfz : ∀ o, wr.frozen? ⟨w.heap.size, o, none⟩ = false := fun o => by simp [World.frozen?, hr]
      have e1 := setL hr (i := a + k) (by omega) (v / 256 ^ k % 256)
      rw [putL_step] at e1
      have hp : 2 ^ (8 * k) = 256 ^ k := by rw [Nat.pow_mul]
      obtain ⟨y, hy⟩ : ∃ y, v / 256 ^ k % 256 = y := ⟨_, rfl⟩
      rw [hy] at e1
      have h8w : IntKind.u64.wrap (8 * (k : Int)) = 8 * (k : Int) := by rw [IntKind.wrap_u64]; omega
      have h80 : (0 : Int) ≤ 8 * (k : Int) := by omega
      have h8t : (8 * (k : Int)).toNat = 8 * k := by omega
      have h8l : 8 * (k : Int) ≤ 64 := by omega
      have h8n : 8 * k < 64 := by omega
      have hmin : min (8 * k) 64 = 8 * k := by omega
      have hdv : IntKind.u8.wrap ((v : Int) / 2 ^ (8 * k)) = (y : Int) := by
        rw [IntKind.wrap_u8]
        have e : ((v : Int) / 2 ^ (8 * k)) = ((v / 256 ^ k : Nat) : Int) := by rw [← hp]; simp
        rw [e]; omega
      have e0 := keep_setCell hr1 (p := ⟨w.heap.size, a + k, none⟩) (by simp) (.int .u8 (y : Int))
      have ef := hfr.setCell (p := ⟨w.heap.size, a + k, none⟩) (by simp) (.int .u8 (y : Int))
      have E := Lib.hid (And.intro ef (And.intro e1 e0))
      clear e0 e1 ef hr hr1 hfr hp hy
      go_wp2
      go_roundw
      case rel => exact ⟨k + 1, by omega, by go_num, E.out⟩
      case measure => simp [intOf]; omega
    · have e : k = n := by omega
      subst e
      have ld := ld_rowL (P := Try.prog) hr
      have st := st_rowL Try.prog hr1 (putL g a k v)
      have e0 := row_at hr1 (cellsL (putL g a k v))
      have F1 := hfr.row (b := w.heap.size + 1) (Nat.le_succ _) (cellsL (putL g a k v))
      go_wp2
      exact bodyPost_ret (v := .tuple #[.agg (cellsL (putL g a k v)), .bool true]) (by simp [results, Try.results73, asAddr, lvLL e0, ld_rowL e0, go_sem]) rfl ⟨rfl, F1.1⟩
theorem lput_any (g : Nat → Nat) (a n : Int) (v : Nat) (w : World) (ok : OkL g) (hv : v < 18446744073709551616) :
    Calls Try.prog 73 #[.agg (cellsL g), .int .i64 a, .int .i64 n, .int .u64 (v : Int)] w fun e w' => e = .returned (.tuple #[.agg (cellsL (putV g a n v)), .bool (fitB a n)]) ∧ Below w.heap.size w w' := by
  cases hf : fitB a n with
  | true =>
    obtain ⟨h1, h8, h0, ha⟩ := fitB_t hf
    obtain ⟨A, rfl⟩ : ∃ A : Nat, a = A := ⟨a.toNat, by omega⟩
    obtain ⟨N, rfl⟩ : ∃ N : Nat, n = N := ⟨n.toNat, by omega⟩
    have e : putV g A N v = putL g A N v := by unfold putV; rw [if_pos hf]; rfl
    rw [e]
    exact lput_yes g A N v w ok hv (by omega) (by omega) (by omega)
  | false =>
    have e : putV g a n v = g := by unfold putV; rw [if_neg (by simp [hf])]
    have HF := Lib.hid hf
    rw [e]
    clear e hf
    have l3 := size_cellsL
    have k0 := keep_alloc (heap_alloc_new w (.cells (cellsL g) 135)) (.cells (cellsL fun _ => 0) 135)
    have r0 : ((w.alloc (.cells (cellsL g) 135)).alloc (.cells (cellsL fun _ => 0) 135)).heap[w.heap.size + 1]? = some (.cells (cellsL fun _ => 0) 135) := by simpa using heap_alloc_new (w.alloc (.cells (cellsL g) 135)) (.cells (cellsL fun _ => 0) 135)
    have ld := ld_rowL (P := Try.prog) k0
    have st := st_rowL Try.prog r0 g
    have e0 := row_at r0 (cellsL g)
    have F1 := (((Fr.refl w).alloc (.cells (cellsL g) 135)).alloc (.cells (cellsL fun _ => 0) 135)).row (b := w.heap.size + 1) (Nat.le_succ _) (cellsL g)
    go_enter Try.func73, Try.ntmps73
    go_wp2_with fail
    refine (lfits_any _ _ _).mono ?_
    rw [HF.out]
    rintro e w1 ⟨rfl, rfl⟩
    go_wp2
    exact bodyPost_ret (v := .tuple #[.agg (cellsL g), .bool false]) (by simp [results, Try.results73, asAddr, lvLL e0, ld_rowL e0, go_sem]) rfl ⟨rfl, F1.1⟩
theorem lget_v {g : Nat → Nat} {a n : Int} {y : Nat} {q : Bool} (hy : getV g a n = y) (hq : fitB a n = q) (w : World) (ok : OkL g) :
    Calls Try.prog 71 #[.agg (cellsL g), .int .i64 a, .int .i64 n] w fun e w' => e = .returned (.tuple #[.int .u64 (y : Int), .bool q]) ∧ Below w.heap.size w w' := by
  rw [← hy, ← hq]; exact lget_any g a n w ok
theorem two_cells {w : World} {b : Nat} {v0 v1 : Value} {t : TypeId} (h : w.heap[b]? = some (.cells #[v0, v1] t)) : w.cell? ⟨b, 0, none⟩ = some v0 ∧ w.cell? ⟨b, 1, none⟩ = some v1 := by
  rw [cell_at h, cell_at h]; exact ⟨rfl, rfl⟩
theorem lput_v {g g' : Nat → Nat} {a n : Int} {v : Nat} {q : Bool} (hg : putV g a n v = g') (hq : fitB a n = q) (w : World) (ok : OkL g) (hv : v < 18446744073709551616) :
    Calls Try.prog 73 #[.agg (cellsL g), .int .i64 a, .int .i64 n, .int .u64 (v : Int)] w fun e w' => e = .returned (.tuple #[.agg (cellsL g'), .bool q]) ∧ Below w.heap.size w w' := by
  rw [← hg, ← hq]; exact lput_any g a n v w ok hv
theorem OkL.putV {g : Nat → Nat} (ok : OkL g) (a n : Int) (v : Nat) : OkL (putV g a n v) := by
  unfold Go.Proofs.Ytdeheoaeagoidaa.putV; split; exact ok.put _ _ _; exact ok
theorem rangeL {w : World} {b : Nat} {g : Nat → Nat} {t : TypeId} (h : w.heap[b]? = some (.cells (cellsL g) t)) : w.rangeAt b 0 (cellsL g).toList := by
  intro j v hv
  rw [Nat.zero_add, cell_at h]
  simpa using hv
theorem yields_row {P : Program} {ops : Array Oper} {S : World → Prop} {op : Oper} {a : Act} {g : Nat → Nat} {t : TypeId} (hw : Region.wanted op (yielded ops a.tmps) = true) (ty : TypeId) (x : Operand) (ho : op.op = .load ty x)
    (b : Nat) (hx : a.eval x = .pointer (some ⟨b, 0, none⟩)) {d : TypeDesc} (hS : ∀ w, S w → w.heap[b]? = some (.cells (cellsL g) t))
    (hu : P.underlying ty = some d) (hd : d.isRow = true) (hi : (P.info? ty).map (·.size) = some 64) : YieldsIf P ops S op (.agg (cellsL g)) a := by
  have h := yieldsIf_load_mid (P := P) hw ty x ho b 0 hx (cellsL g).toList d (fun w hs => rangeL (hS w hs)) hu hd (by rw [Array.length_toList, size_cellsL']; exact hi)
  rwa [Array.toArray_toList] at h
theorem numL_seg (h : Nat → Nat) (a v n : Nat) (hh : ∀ j, a ≤ j → j < a + n → h j = v / 256 ^ (j - a) % 256) : ∀ (m i : Nat), i + m ≤ n → numL h (a + i) m = v / 256 ^ i % 256 ^ m
  | 0, i, _ => by simp [numL, Nat.mod_one]
  | m + 1, i, hi => by
      have ih := numL_seg h a v n hh m (i + 1) (by omega)
      show h (a + i) + 256 * numL h (a + i + 1) m = _
      rw [show a + i + 1 = a + (i + 1) by omega, ih, hh (a + i) (by omega) (by omega), show a + i - a = i by omega, Nat.pow_succ 256 i, ← Nat.div_div_eq_div_mul, Nat.pow_succ 256 m, Nat.mul_comm (256 ^ m) 256, Nat.mod_mul]
theorem put_get (g : Nat → Nat) (a n v : Nat) : numL (putL g a n v) a n = v % 256 ^ n := by
  have h := numL_seg (putL g a n v) a v n (fun j h1 h2 => by unfold putL; rw [if_pos ⟨h1, h2⟩]) n 0 (by omega)
  simpa using h
end Go.Proofs.Ytdeheoaeagoidaa
