/- Lines: Put of both. -/
import Derived.Test.YtbboaekfhdeolaaLnE
namespace Go.Proofs.Ytbboaekfhdeolaa
open Go.RowKit
set_option linter.unusedSimpArgs false
set_option linter.unusedVariables false
attribute [local simp high] sizeLL zeroLL sizeLR zeroLR

set_option maxRecDepth 100000 in
set_option maxHeartbeats 2000000 in
theorem lput_yes (g : Nat → Nat) (a n v : Nat) (w : World) (ok : OkL g) (hv : v < 18446744073709551616) (h1 : 1 ≤ n) (h8 : n ≤ 8) (ha : a + n ≤ 64) :
    Calls Try.prog 14 #[.agg (cellsL g), .int .i64 (a : Int), .int .i64 (n : Int), .int .u64 (v : Int)] w fun e w' => e = .returned (.tuple #[.agg (cellsL (putL g a n v)), .bool true]) ∧ Below w.heap.size w w' := by
  have l3 := size_cellsL
  have hfit : fitB (a : Int) (n : Int) = true := by unfold fitB; simp; omega
  have HF := Lib.hid hfit
  clear hfit
  go_enter Try.func14, Try.ntmps14
  go_wp2_with fail
  refine (lfits_any _ _ _).mono ?_
  rw [HF.out]
  rintro e w1 ⟨rfl, rfl⟩
  go_wp2
  obtain ⟨w1, hw1⟩ : ∃ w1, w1 = (w.alloc (.cells (cellsL g) 26)).alloc (.cells (cellsL fun _ => 0) 26) := ⟨_, rfl⟩
  have F0 : Fr w.heap.size w w1 := by rw [hw1]; exact ((Fr.refl w).alloc _).alloc _
  have k0 : w1.heap[w.heap.size]? = some (.cells (cellsL (putL g a 0 v)) 26) := by rw [hw1, putL_zero]; exact keep_alloc (heap_alloc_new _ _) _
  have r0 : w1.heap[w.heap.size + 1]? = some (.cells (cellsL fun _ => 0) 26) := by rw [hw1]; simpa using heap_alloc_new (w.alloc (.cells (cellsL g) 26)) (.cells (cellsL fun _ => 0) 26)
  rw [← hw1]
  clear hw1
  go_loopw [17] (fun i wr => ∃ k : Nat, k ≤ n ∧ i = .int .i64 (k : Int) ∧ Fr w.heap.size w wr ∧ wr.heap[w.heap.size]? = some (.cells (cellsL (putL g a k v)) 26) ∧ wr.heap[w.heap.size + 1]? = some (.cells (cellsL fun _ => 0) 26)) (fun i _ => n - (intOf i).toNat)
  case atStart => exact ⟨0, by omega, rfl, F0, k0, r0⟩
  case round =>
    clear F0 k0 r0
    obtain ⟨k, hk, rfl, hfr, hr, hr1⟩ := hrel
    by_cases hlt : k < n
    · have hj0 : (0 : Int) ≤ k := by omega
      have c0 := knownL hr (i := a + k) (by omega)
      have htn : ((a : Int) + (k : Int)).toNat = a + k := by omega
      have hij0 : (0 : Int) ≤ (a : Int) + k := by omega
      have hij1 : (a : Int) + k < 64 := by omega
      have hlt' : (k : Int) < n := by omega
      have hltb := lt_of_at hr
      have hfz : ∀ o, wr.frozen? ⟨w.heap.size, o, none⟩ = false := fun o => by simp [World.frozen?, hr]
      have e1 := setL hr (i := a + k) (by omega) (v / 256 ^ k % 256)
      rw [putL_step] at e1
      have hp : 2 ^ (8 * k) = 256 ^ k := by rw [Nat.pow_mul]
      obtain ⟨y, hy⟩ : ∃ y, v / 256 ^ k % 256 = y := ⟨_, rfl⟩
      rw [hy] at e1
      have h8w : IntKind.u64.wrap (8 * (k : Int)) = 8 * (k : Int) := by rw [IntKind.wrap_u64]; omega
      have h80 : (0 : Int) ≤ 8 * (k : Int) := by omega
      have h8t : (8 * (k : Int)).toNat = 8 * k := by omega
      have h8l : 8 * (k : Int) ≤ 64 := by omega
      have h8n : 8 * k < 64 := by omega
      have hmin : min (8 * k) 64 = 8 * k := by omega
      have hdv : IntKind.u8.wrap ((v : Int) / 2 ^ (8 * k)) = (y : Int) := by
        rw [IntKind.wrap_u8]
        have e : ((v : Int) / 2 ^ (8 * k)) = ((v / 256 ^ k : Nat) : Int) := by rw [← hp]; simp
        rw [e]; omega
      have e0 := keep_setCell hr1 (p := ⟨w.heap.size, a + k, none⟩) (by simp) (.int .u8 (y : Int))
      have ef := hfr.setCell (p := ⟨w.heap.size, a + k, none⟩) (by simp) (.int .u8 (y : Int))
      have E := Lib.hid (And.intro ef (And.intro e1 e0))
      clear e0 e1 ef hr hr1 hfr hp hy
      go_wp2
      go_roundw
      case rel => exact ⟨k + 1, by omega, by go_num, E.out⟩
      case measure => simp [intOf]; omega
    · have e : k = n := by omega
      subst e
      have ld := ld_rowL (P := Try.prog) hr
      have st := st_rowL Try.prog hr1 (putL g a k v)
      have e0 := row_at hr1 (cellsL (putL g a k v))
      have F1 := hfr.row (b := w.heap.size + 1) (Nat.le_succ _) (cellsL (putL g a k v))
      go_wp2
      exact bodyPost_ret (v := .tuple #[.agg (cellsL (putL g a k v)), .bool true]) (by simp [results, Try.results14, asAddr, lvLL e0, ld_rowL e0, go_sem]) rfl ⟨rfl, F1.1⟩
theorem lput_any (g : Nat → Nat) (a n : Int) (v : Nat) (w : World) (ok : OkL g) (hv : v < 18446744073709551616) :
    Calls Try.prog 14 #[.agg (cellsL g), .int .i64 a, .int .i64 n, .int .u64 (v : Int)] w fun e w' => e = .returned (.tuple #[.agg (cellsL (putV g a n v)), .bool (fitB a n)]) ∧ Below w.heap.size w w' := by
  cases hf : fitB a n with
  | true =>
    obtain ⟨h1, h8, h0, ha⟩ := fitB_t hf
    obtain ⟨A, rfl⟩ : ∃ A : Nat, a = A := ⟨a.toNat, by omega⟩
    obtain ⟨N, rfl⟩ : ∃ N : Nat, n = N := ⟨n.toNat, by omega⟩
    have e : putV g A N v = putL g A N v := by unfold putV; rw [if_pos hf]; rfl
    rw [e]
    exact lput_yes g A N v w ok hv (by omega) (by omega) (by omega)
  | false =>
    have e : putV g a n v = g := by unfold putV; rw [if_neg (by simp [hf])]
    have HF := Lib.hid hf
    rw [e]
    clear e hf
    have l3 := size_cellsL
    have k0 := keep_alloc (heap_alloc_new w (.cells (cellsL g) 26)) (.cells (cellsL fun _ => 0) 26)
    have r0 : ((w.alloc (.cells (cellsL g) 26)).alloc (.cells (cellsL fun _ => 0) 26)).heap[w.heap.size + 1]? = some (.cells (cellsL fun _ => 0) 26) := by simpa using heap_alloc_new (w.alloc (.cells (cellsL g) 26)) (.cells (cellsL fun _ => 0) 26)
    have ld := ld_rowL (P := Try.prog) k0
    have st := st_rowL Try.prog r0 g
    have e0 := row_at r0 (cellsL g)
    have F1 := (((Fr.refl w).alloc (.cells (cellsL g) 26)).alloc (.cells (cellsL fun _ => 0) 26)).row (b := w.heap.size + 1) (Nat.le_succ _) (cellsL g)
    go_enter Try.func14, Try.ntmps14
    go_wp2_with fail
    refine (lfits_any _ _ _).mono ?_
    rw [HF.out]
    rintro e w1 ⟨rfl, rfl⟩
    go_wp2
    exact bodyPost_ret (v := .tuple #[.agg (cellsL g), .bool false]) (by simp [results, Try.results14, asAddr, lvLL e0, ld_rowL e0, go_sem]) rfl ⟨rfl, F1.1⟩
set_option maxRecDepth 100000 in
set_option maxHeartbeats 2000000 in
theorem rput_yes (g : Nat → Nat) (a n v : Nat) (w : World) (ok : OkL g) (hv : v < 18446744073709551616) (h1 : 1 ≤ n) (h8 : n ≤ 8) (ha : a + n ≤ 64) :
    Calls Try.prog 15 #[.agg (cellsL g), .int .i64 (a : Int), .int .i64 (n : Int), .int .u64 (v : Int)] w fun e w' => e = .returned (.tuple #[.agg (cellsL (putL g a n v)), .bool true]) ∧ Below w.heap.size w w' := by
  have l3 := size_cellsL
  have hfit : fitB (a : Int) (n : Int) = true := by unfold fitB; simp; omega
  have HF := Lib.hid hfit
  clear hfit
  go_enter Try.func15, Try.ntmps15
  go_wp2_with fail
  refine (rfits_any _ _ _).mono ?_
  rw [HF.out]
  rintro e w1 ⟨rfl, rfl⟩
  go_wp2
  obtain ⟨w1, hw1⟩ : ∃ w1, w1 = (w.alloc (.cells (cellsL g) 25)).alloc (.cells (cellsL fun _ => 0) 25) := ⟨_, rfl⟩
  have F0 : Fr w.heap.size w w1 := by rw [hw1]; exact ((Fr.refl w).alloc _).alloc _
  have k0 : w1.heap[w.heap.size]? = some (.cells (cellsL (putL g a 0 v)) 25) := by rw [hw1, putL_zero]; exact keep_alloc (heap_alloc_new _ _) _
  have r0 : w1.heap[w.heap.size + 1]? = some (.cells (cellsL fun _ => 0) 25) := by rw [hw1]; simpa using heap_alloc_new (w.alloc (.cells (cellsL g) 25)) (.cells (cellsL fun _ => 0) 25)
  rw [← hw1]
  clear hw1
  go_loopw [3, 10] (fun u i wr => ∃ k : Nat, k ≤ n ∧ i = .int .i64 (k : Int) ∧ u = .int .u64 ((v / 256 ^ k : Nat) : Int) ∧ Fr w.heap.size w wr ∧ wr.heap[w.heap.size]? = some (.cells (cellsL (putL g a k v)) 25) ∧ wr.heap[w.heap.size + 1]? = some (.cells (cellsL fun _ => 0) 25)) (fun u i _ => n - (intOf i).toNat)
  case atStart => exact ⟨0, by omega, rfl, by simp, F0, k0, r0⟩
  case round =>
    clear F0 k0 r0
    obtain ⟨k, hk, rfl, rfl, hfr, hr, hr1⟩ := hrel
    by_cases hlt : k < n
    · have hj0 : (0 : Int) ≤ k := by omega
      have c0 := knownL hr (i := a + k) (by omega)
      have htn : ((a : Int) + (k : Int)).toNat = a + k := by omega
      have hij0 : (0 : Int) ≤ (a : Int) + k := by omega
      have hij1 : (a : Int) + k < 64 := by omega
      have hlt' : (k : Int) < n := by omega
      have hltb := lt_of_at hr
      have hfz : ∀ o, wr.frozen? ⟨w.heap.size, o, none⟩ = false := fun o => by simp [World.frozen?, hr]
      have hx : v / 256 ^ k < 18446744073709551616 := Nat.lt_of_le_of_lt (Nat.div_le_self _ _) hv
      have hps : v / 256 ^ (k + 1) = v / 256 ^ k / 256 := by rw [Nat.pow_succ, Nat.div_div_eq_div_mul]
      have e1 := setL hr (i := a + k) (by omega) (v / 256 ^ k % 256)
      rw [putL_step] at e1
      obtain ⟨x, hxe⟩ : ∃ x, v / 256 ^ k = x := ⟨_, rfl⟩
      rw [hxe] at hx hps e1 ⊢
      have hq : (x : Int).tmod 256 = ((x % 256 : Nat) : Int) := by rw [Int.tmod_eq_emod_of_nonneg (by omega)]; omega
      have hd : (x : Int).tdiv 256 = ((x / 256 : Nat) : Int) := by rw [Int.tdiv_eq_ediv_of_nonneg (by omega)]; omega
      obtain ⟨y, hy⟩ : ∃ y, x % 256 = y := ⟨_, rfl⟩
      obtain ⟨x2, hx2⟩ : ∃ x2, x / 256 = x2 := ⟨_, rfl⟩
      rw [hy] at hq e1
      rw [hx2] at hd hps
      have hy8 : IntKind.u8.wrap (y : Int) = (y : Int) := by rw [IntKind.wrap_u8]; omega
      have hwd : IntKind.u64.wrap (x2 : Int) = (x2 : Int) := by rw [IntKind.wrap_u64]; omega
      have HP := Lib.hid hps
      have e0 := keep_setCell hr1 (p := ⟨w.heap.size, a + k, none⟩) (by simp) (.int .u8 (y : Int))
      have ef := hfr.setCell (p := ⟨w.heap.size, a + k, none⟩) (by simp) (.int .u8 (y : Int))
      have E := Lib.hid (And.intro ef (And.intro e1 e0))
      clear e0 e1 ef hr hr1 hfr hx hps hxe hy hx2
      go_wp2
      go_roundw
      case rel => exact ⟨k + 1, by omega, by go_num, by rw [HP.out], E.out⟩
      case measure => simp [intOf]; omega
    · have e : k = n := by omega
      subst e
      have ld := ld_rowL (P := Try.prog) hr
      have st := st_rowL Try.prog hr1 (putL g a k v)
      have e0 := row_at hr1 (cellsL (putL g a k v))
      have F1 := hfr.row (b := w.heap.size + 1) (Nat.le_succ _) (cellsL (putL g a k v))
      go_wp2
      exact bodyPost_ret (v := .tuple #[.agg (cellsL (putL g a k v)), .bool true]) (by simp [results, Try.results15, asAddr, lvLR e0, ld_rowL e0, go_sem]) rfl ⟨rfl, F1.1⟩
theorem rput_any (g : Nat → Nat) (a n : Int) (v : Nat) (w : World) (ok : OkL g) (hv : v < 18446744073709551616) :
    Calls Try.prog 15 #[.agg (cellsL g), .int .i64 a, .int .i64 n, .int .u64 (v : Int)] w fun e w' => e = .returned (.tuple #[.agg (cellsL (putV g a n v)), .bool (fitB a n)]) ∧ Below w.heap.size w w' := by
  cases hf : fitB a n with
  | true =>
    obtain ⟨h1, h8, h0, ha⟩ := fitB_t hf
    obtain ⟨A, rfl⟩ : ∃ A : Nat, a = A := ⟨a.toNat, by omega⟩
    obtain ⟨N, rfl⟩ : ∃ N : Nat, n = N := ⟨n.toNat, by omega⟩
    have e : putV g A N v = putL g A N v := by unfold putV; rw [if_pos hf]; rfl
    rw [e]
    exact rput_yes g A N v w ok hv (by omega) (by omega) (by omega)
  | false =>
    have e : putV g a n v = g := by unfold putV; rw [if_neg (by simp [hf])]
    have HF := Lib.hid hf
    rw [e]
    clear e hf
    have l3 := size_cellsL
    have k0 := keep_alloc (heap_alloc_new w (.cells (cellsL g) 25)) (.cells (cellsL fun _ => 0) 25)
    have r0 : ((w.alloc (.cells (cellsL g) 25)).alloc (.cells (cellsL fun _ => 0) 25)).heap[w.heap.size + 1]? = some (.cells (cellsL fun _ => 0) 25) := by simpa using heap_alloc_new (w.alloc (.cells (cellsL g) 25)) (.cells (cellsL fun _ => 0) 25)
    have ld := ld_rowL (P := Try.prog) k0
    have st := st_rowL Try.prog r0 g
    have e0 := row_at r0 (cellsL g)
    have F1 := (((Fr.refl w).alloc (.cells (cellsL g) 25)).alloc (.cells (cellsL fun _ => 0) 25)).row (b := w.heap.size + 1) (Nat.le_succ _) (cellsL g)
    go_enter Try.func15, Try.ntmps15
    go_wp2_with fail
    refine (rfits_any _ _ _).mono ?_
    rw [HF.out]
    rintro e w1 ⟨rfl, rfl⟩
    go_wp2
    exact bodyPost_ret (v := .tuple #[.agg (cellsL g), .bool false]) (by simp [results, Try.results15, asAddr, lvLR e0, ld_rowL e0, go_sem]) rfl ⟨rfl, F1.1⟩
end Go.Proofs.Ytbboaekfhdeolaa
