/- plic.New, plic.find. -/
import Derived.Test.YtgelpapjmlbgfaaPlP
import Derived.Test.YtgelpapjmlbgfaaHeld
import Derived.KernelRfl
namespace Go.Proofs.Ytgelpapjmlbgfaa
open Go.RowKit
set_option linter.unusedSimpArgs false
set_option linter.unusedVariables false
attribute [local simp high] zeroPv sizePv

theorem cellsP_n0 (n : Int) : (cellsP zeroP).setIfInBounds 0 (.int .i64 n) = cellsP (setN zeroP n) := P_setN _ _
set_option maxRecDepth 100000 in
set_option maxHeartbeats 2000000 in
theorem pnew_any (n : Int) (w : World) :
    Calls Try.prog 24 #[.int .i64 n] w fun e w' => e = .returned (.agg (cellsP (newP n))) ∧ Below w.heap.size w w' := by
  have l3 := size_cellsP
  have l4 := stnP
  have l5 := bdP
  have l6 := cellsP_n0
  by_cases h : n < 1 ∨ 8 < n
  · have H : Hid (newP n = zeroP) := by show _ = _; unfold newP; rw [if_pos h]
    by_cases h1 : n < 1
    all_goals
      go_enter Try.func24, Try.ntmps24
      go_wp2
      refine bodyPost_ret (v := .agg (cellsP zeroP)) (by simp [results, Try.results24, asAddr, lvP (heap_alloc_new w (.cells (cellsP zeroP) 60))]) rfl ⟨by rw [H.out], ((Fr.refl w).alloc _).1⟩
  · have H : Hid (newP n = setN zeroP n) := by show _ = _; unfold newP; rw [if_neg h]
    have d1 : decide (n < 1) = false := by simp; omega
    have d2 : decide (8 < n) = false := by simp; omega
    go_enter Try.func24, Try.ntmps24
    go_wp2
    refine bodyPost_ret (v := .agg (cellsP (setN zeroP n))) (by simp [results, Try.results24, asAddr, lvP (heap_alloc_new w (.cells (cellsP (setN zeroP n)) 60))]) rfl ⟨by rw [H.out], ((Fr.refl w).alloc _).1⟩

def findW (k : Nat × Nat) : Value := .tuple #[.int .i64 (k.1 : Int), .int .i64 (k.2 : Int)]
set_option maxRecDepth 100000 in
set_option maxHeartbeats 2000000 in
theorem find_other (b : Nat) (s : PS) (k off : Nat) (size : Int) (w : World) (hoff : off < 18446744073709551616) (hk : s.n = (k : Int)) (h8 : k ≤ 8)
    (h : w.heap[b]? = some (.cells (cellsP s) 60)) (h4 : size ≠ 4 ∨ off % 4 ≠ 0 ∨ k = 0) :
    Calls Try.prog 41 #[.pointer (some ⟨b, 0, none⟩), .int .u64 (off : Int), .int .i64 size] w fun e w' => e = .returned (findW (0, 0)) ∧ w' = w := by
  obtain ⟨c0, -, -, -, cl, cf⟩ := knownP h
  rw [hk] at c0
  by_cases e4 : size = 4
  · subst e4
    by_cases e0 : off % 4 = 0
    · have hk0 : k = 0 := by omega
      subst hk0
      go_enter Try.func41, Try.ntmps41
      go_wp2
      go_ret2
      exact ⟨rfl, rfl⟩
    · go_enter Try.func41, Try.ntmps41
      go_wp2
      go_ret2
      exact ⟨rfl, rfl⟩
  · go_enter Try.func41, Try.ntmps41
    go_wp2
    go_ret2
    exact ⟨rfl, rfl⟩
set_option maxRecDepth 100000 in
set_option maxHeartbeats 2000000 in
theorem find_prio (b : Nat) (s : PS) (k off : Nat) (w : World) (hoff : off < 18446744073709551616) (hk : s.n = (k : Int)) (h8 : k ≤ 8)
    (h : w.heap[b]? = some (.cells (cellsP s) 60)) (h4 : off % 4 = 0) (h0 : 1 ≤ k) (h1 : 4 ≤ off) (h2 : off < 128) :
    Calls Try.prog 41 #[.pointer (some ⟨b, 0, none⟩), .int .u64 (off : Int), .int .i64 4] w fun e w' => e = .returned (findW (1, off / 4)) ∧ w' = w := by
  obtain ⟨c0, -, -, -, cl, cf⟩ := knownP h
  rw [hk] at c0
  go_enter Try.func41, Try.ntmps41
  go_wp2
  go_ret2
  exact ⟨by simp [findW], rfl⟩
set_option maxRecDepth 100000 in
set_option maxHeartbeats 2000000 in
theorem find_wait (b : Nat) (s : PS) (k : Nat) (w : World) (hk : s.n = (k : Int)) (h8 : k ≤ 8)
    (h : w.heap[b]? = some (.cells (cellsP s) 60)) (h0 : 1 ≤ k) :
    Calls Try.prog 41 #[.pointer (some ⟨b, 0, none⟩), .int .u64 4096, .int .i64 4] w fun e w' => e = .returned (findW (2, 0)) ∧ w' = w := by
  obtain ⟨c0, -, -, -, cl, cf⟩ := knownP h
  rw [hk] at c0
  go_enter Try.func41, Try.ntmps41
  go_wp2
  go_ret2
  exact ⟨by simp [findW], rfl⟩
set_option maxRecDepth 100000 in
set_option maxHeartbeats 2000000 in
theorem find_on (b : Nat) (s : PS) (k off : Nat) (w : World) (hoff : off < 18446744073709551616) (hk : s.n = (k : Int)) (h8 : k ≤ 8)
    (h : w.heap[b]? = some (.cells (cellsP s) 60)) (h4 : off % 4 = 0) (h0 : 1 ≤ k) (h1 : 8192 ≤ off) (h2 : off < 8192 + 128 * (2 * k)) (h3 : off % 128 = 0) :
    Calls Try.prog 41 #[.pointer (some ⟨b, 0, none⟩), .int .u64 (off : Int), .int .i64 4] w fun e w' => e = .returned (findW (3, (off - 8192) / 128)) ∧ w' = w := by
  obtain ⟨c0, -, -, -, cl, cf⟩ := knownP h
  rw [hk] at c0
  go_enter Try.func41, Try.ntmps41
  go_wp2
  go_ret2
  exact ⟨by simp [findW]; omega, rfl⟩
set_option maxRecDepth 100000 in
set_option maxHeartbeats 2000000 in
theorem find_level (b : Nat) (s : PS) (k off : Nat) (w : World) (hoff : off < 18446744073709551616) (hk : s.n = (k : Int)) (h8 : k ≤ 8)
    (h : w.heap[b]? = some (.cells (cellsP s) 60)) (h4 : off % 4 = 0) (h0 : 1 ≤ k) (h1 : 2097152 ≤ off) (h2 : off < 2097152 + 4096 * (2 * k)) (h3 : off % 4096 = 0) :
    Calls Try.prog 41 #[.pointer (some ⟨b, 0, none⟩), .int .u64 (off : Int), .int .i64 4] w fun e w' => e = .returned (findW (4, (off - 2097152) / 4096)) ∧ w' = w := by
  obtain ⟨c0, -, -, -, cl, cf⟩ := knownP h
  rw [hk] at c0
  go_enter Try.func41, Try.ntmps41
  go_wp2
  go_ret2
  exact ⟨by simp [findW]; omega, rfl⟩
set_option maxRecDepth 100000 in
set_option maxHeartbeats 2000000 in
theorem find_claim (b : Nat) (s : PS) (k off : Nat) (w : World) (hoff : off < 18446744073709551616) (hk : s.n = (k : Int)) (h8 : k ≤ 8)
    (h : w.heap[b]? = some (.cells (cellsP s) 60)) (h4 : off % 4 = 0) (h0 : 1 ≤ k) (h1 : 2097152 ≤ off) (h2 : off < 2097152 + 4096 * (2 * k)) (h3 : off % 4096 = 4) :
    Calls Try.prog 41 #[.pointer (some ⟨b, 0, none⟩), .int .u64 (off : Int), .int .i64 4] w fun e w' => e = .returned (findW (5, (off - 2097152) / 4096)) ∧ w' = w := by
  obtain ⟨c0, -, -, -, cl, cf⟩ := knownP h
  rw [hk] at c0
  go_enter Try.func41, Try.ntmps41
  go_wp2
  go_ret2
  exact ⟨by simp [findW]; omega, rfl⟩
set_option maxRecDepth 100000 in
set_option maxHeartbeats 2000000 in
theorem find_none (b : Nat) (s : PS) (k off : Nat) (w : World) (hoff : off < 18446744073709551616) (hk : s.n = (k : Int)) (h8 : k ≤ 8)
    (h : w.heap[b]? = some (.cells (cellsP s) 60)) (h4 : off % 4 = 0) (h0 : 1 ≤ k) (h1 : ¬ (4 ≤ off ∧ off < 128)) (h2 : off ≠ 4096)
    (h3 : ¬ (8192 ≤ off ∧ off < 8192 + 128 * (2 * k) ∧ off % 128 = 0)) (h5 : ¬ (2097152 ≤ off ∧ off < 2097152 + 4096 * (2 * k) ∧ off % 4096 = 0)) (h6 : ¬ (2097152 ≤ off ∧ off < 2097152 + 4096 * (2 * k) ∧ off % 4096 = 4)) :
    Calls Try.prog 41 #[.pointer (some ⟨b, 0, none⟩), .int .u64 (off : Int), .int .i64 4] w fun e w' => e = .returned (findW (0, 0)) ∧ w' = w := by
  obtain ⟨c0, -, -, -, cl, cf⟩ := knownP h
  rw [hk] at c0
  go_enter Try.func41, Try.ntmps41
  go_wp2
  all_goals first | (exfalso; omega) | (go_ret2; exact ⟨rfl, rfl⟩)
theorem find_any (b : Nat) (s : PS) (off : Nat) (size : Int) (w : World) (hoff : off < 18446744073709551616) (hn0 : 0 ≤ s.n) (hn8 : s.n ≤ 8)
    (h : w.heap[b]? = some (.cells (cellsP s) 60)) :
    Calls Try.prog 41 #[.pointer (some ⟨b, 0, none⟩), .int .u64 (off : Int), .int .i64 size] w fun e w' => e = .returned (findW (spotP s.n off size)) ∧ w' = w := by
  obtain ⟨k, hk⟩ : ∃ k : Nat, s.n = (k : Int) := ⟨s.n.toNat, by omega⟩
  have k8 : k ≤ 8 := by omega
  unfold spotP
  split
  · exact find_other b s k off size w hoff hk k8 h (by omega)
  · have e4 : size = 4 := by omega
    subst e4
    split
    · exact find_prio b s k off w hoff hk k8 h (by omega) (by omega) (by omega) (by omega)
    · split
      · rename_i e; subst e; exact find_wait b s k w hk k8 h (by omega)
      · split
        · exact find_on b s k off w hoff hk k8 h (by omega) (by omega) (by omega) (by omega) (by omega)
        · split
          · exact find_level b s k off w hoff hk k8 h (by omega) (by omega) (by omega) (by omega) (by omega)
          · split
            · exact find_claim b s k off w hoff hk k8 h (by omega) (by omega) (by omega) (by omega) (by omega)
            · exact find_none b s k off w hoff hk k8 h (by omega) (by omega) (by omega) (by omega) (by omega) (by omega) (by omega)
theorem find_v {b : Nat} {s : PS} {off : Nat} {size : Int} {sp : Nat × Nat} (hs : spotP s.n off size = sp) (w : World) (hoff : off < 18446744073709551616) (hn0 : 0 ≤ s.n) (hn8 : s.n ≤ 8)
    (h : w.heap[b]? = some (.cells (cellsP s) 60)) :
    Calls Try.prog 41 #[.pointer (some ⟨b, 0, none⟩), .int .u64 (off : Int), .int .i64 size] w fun e w' => e = .returned (findW sp) ∧ w' = w := by
  rw [← hs]; exact find_any b s off size w hoff hn0 hn8 h
end Go.Proofs.Ytgelpapjmlbgfaa
