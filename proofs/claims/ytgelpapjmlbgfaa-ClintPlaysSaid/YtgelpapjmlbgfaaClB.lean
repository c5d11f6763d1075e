/- Where an offset leads: clint.find. -/
import Derived.Test.YtgelpapjmlbgfaaClA
namespace Go.Proofs.Ytgelpapjmlbgfaa
open Go.RowKit
set_option linter.unusedSimpArgs false
set_option linter.unusedVariables false

inductive Sp where
  | no
  | soft (h : Nat)
  | cmp (h k : Nat)
  | time (k : Nat)
def kOf (size : Int) (off : Nat) : Nat := if size = 8 then 0 else if off % 8 = 0 then 1 else 2
def spot (n : Int) (off : Nat) (size : Int) : Sp :=
  if size = 4 ∧ off % 4 = 0 ∧ ((off / 4 : Nat) : Int) < n then .soft (off / 4)
  else if (size = 8 ∧ off % 8 = 0) ∨ (size = 4 ∧ off % 4 = 0) then
    if 0 < n ∧ off - off % 8 = 49144 then .time (kOf size off)
    else if 16384 ≤ off - off % 8 ∧ ((off - off % 8 : Nat) : Int) < 16384 + 8 * n then .cmp ((off - off % 8 - 16384) / 8) (kOf size off)
    else .no
  else .no
def upOf (k : Nat) : Int := if k = 2 then 32 else 0
def findV (b : Nat) : Sp → Value
  | .no => .tuple #[.agg #[.int .i64 0, .pointer none, .int .u64 0], .bool false]
  | .soft h => .tuple #[.agg #[.int .i64 (h : Int), .pointer none, .int .u64 0], .bool true]
  | .cmp h k => .tuple #[.agg #[.int .i64 0, .pointer (some ⟨b, 2 + h, none⟩), .int .u64 (upOf k)], .bool true]
  | .time k => .tuple #[.agg #[.int .i64 0, .pointer (some ⟨b, 1, none⟩), .int .u64 (upOf k)], .bool true]

theorem spot_other (n : Int) (off : Nat) (size : Int) (h4 : size ≠ 4) (h8 : size ≠ 8) : spot n off size = .no := by
  unfold spot; rw [if_neg (by omega), if_neg (by omega)]
theorem spot_odd (n : Int) (off : Nat) (size : Int) (h4 : size = 4 → off % 4 ≠ 0) (h8 : size = 8 → off % 8 ≠ 0) : spot n off size = .no := by
  unfold spot; rw [if_neg (by omega), if_neg (by omega)]
theorem spot_soft (n : Int) (off : Nat) (h : off % 4 = 0) (h2 : ((off / 4 : Nat) : Int) < n) : spot n off 4 = .soft (off / 4) := by
  unfold spot; rw [if_pos ⟨rfl, h, h2⟩]
theorem spot_time (n : Int) (off : Nat) (size : Int) (hs : (size = 8 ∧ off % 8 = 0) ∨ (size = 4 ∧ off % 4 = 0 ∧ n ≤ ((off / 4 : Nat) : Int))) (h : 0 < n ∧ off - off % 8 = 49144) : spot n off size = .time (kOf size off) := by
  unfold spot; rw [if_neg (by omega), if_pos (by omega), if_pos h]
theorem spot_cmp (n : Int) (off : Nat) (size : Int) (hs : (size = 8 ∧ off % 8 = 0) ∨ (size = 4 ∧ off % 4 = 0 ∧ n ≤ ((off / 4 : Nat) : Int))) (h : ¬ (0 < n ∧ off - off % 8 = 49144))
    (hc : 16384 ≤ off - off % 8 ∧ ((off - off % 8 : Nat) : Int) < 16384 + 8 * n) : spot n off size = .cmp ((off - off % 8 - 16384) / 8) (kOf size off) := by
  unfold spot; rw [if_neg (by omega), if_pos (by omega), if_neg h, if_pos hc]
theorem spot_none (n : Int) (off : Nat) (size : Int) (hs : (size = 8 ∧ off % 8 = 0) ∨ (size = 4 ∧ off % 4 = 0 ∧ n ≤ ((off / 4 : Nat) : Int))) (h : ¬ (0 < n ∧ off - off % 8 = 49144))
    (hc : ¬ (16384 ≤ off - off % 8 ∧ ((off - off % 8 : Nat) : Int) < 16384 + 8 * n)) : spot n off size = .no := by
  unfold spot; rw [if_neg (by omega), if_pos (by omega), if_neg h, if_neg hc]

theorem find_no_other (b : Nat) (s : CS) (off : Nat) (size : Int) (w : World) (hoff : off < 18446744073709551616) (hn0 : 0 ≤ s.n) (hn8 : s.n ≤ 8)
    (h : w.heap[b]? = some (.cells (cellsC s) 27)) (h4 : size ≠ 4) (h8 : size ≠ 8) :
    Calls Try.prog 37 #[.pointer (some ⟨b, 0, none⟩), .int .u64 (off : Int), .int .i64 size] w fun e w' => e = .returned (findV b .no) ∧ Below w.heap.size w w' := by
  obtain ⟨c0, c1, cl, cf⟩ := knownC h
  have e4 : (size == 4) = false := by simpa using h4
  have e4' : (size != 4) = true := by simpa using h4
  have e8' : (size != 8) = true := by simpa using h8
  go_enter Try.func37, Try.ntmps37
  go_wp2
  (refine bodyPost_ret (v := .tuple #[.agg #[.int .i64 0, .pointer none, .int .u64 0], .bool false]) (by simp [results, Try.results37, go_sem]) rfl ⟨rfl, ((Fr.refl _).alloc _).1⟩)
theorem find_no_8 (b : Nat) (s : CS) (off : Nat) (w : World) (hoff : off < 18446744073709551616) (hn0 : 0 ≤ s.n) (hn8 : s.n ≤ 8)
    (h : w.heap[b]? = some (.cells (cellsC s) 27)) (h8 : off % 8 ≠ 0) :
    Calls Try.prog 37 #[.pointer (some ⟨b, 0, none⟩), .int .u64 (off : Int), .int .i64 8] w fun e w' => e = .returned (findV b .no) ∧ Below w.heap.size w w' := by
  obtain ⟨c0, c1, cl, cf⟩ := knownC h
  go_enter Try.func37, Try.ntmps37
  go_wp2
  all_goals (refine bodyPost_ret (v := .tuple #[.agg #[.int .i64 0, .pointer none, .int .u64 0], .bool false]) (by simp [results, Try.results37, go_sem]) rfl ⟨rfl, ((Fr.refl _).alloc _).1⟩)
theorem find_no_4 (b : Nat) (s : CS) (off : Nat) (w : World) (hoff : off < 18446744073709551616) (hn0 : 0 ≤ s.n) (hn8 : s.n ≤ 8)
    (h : w.heap[b]? = some (.cells (cellsC s) 27)) (h8 : off % 4 ≠ 0) :
    Calls Try.prog 37 #[.pointer (some ⟨b, 0, none⟩), .int .u64 (off : Int), .int .i64 4] w fun e w' => e = .returned (findV b .no) ∧ Below w.heap.size w w' := by
  obtain ⟨c0, c1, cl, cf⟩ := knownC h
  go_enter Try.func37, Try.ntmps37
  go_wp2
  all_goals (refine bodyPost_ret (v := .tuple #[.agg #[.int .i64 0, .pointer none, .int .u64 0], .bool false]) (by simp [results, Try.results37, go_sem]) rfl ⟨rfl, ((Fr.refl _).alloc _).1⟩)
theorem find_soft (b : Nat) (s : CS) (off : Nat) (w : World) (hoff : off < 18446744073709551616) (hn0 : 0 ≤ s.n) (hn8 : s.n ≤ 8)
    (h : w.heap[b]? = some (.cells (cellsC s) 27)) (h8 : off % 4 = 0) (h4 : ((off / 4 : Nat) : Int) < s.n) :
    Calls Try.prog 37 #[.pointer (some ⟨b, 0, none⟩), .int .u64 (off : Int), .int .i64 4] w fun e w' => e = .returned (findV b (.soft (off / 4))) ∧ Below w.heap.size w w' := by
  obtain ⟨c0, c1, cl, cf⟩ := knownC h
  go_enter Try.func37, Try.ntmps37
  go_wp2
  all_goals (refine bodyPost_ret (v := .tuple #[.agg #[.int .i64 ((off : Int) / 4), .pointer none, .int .u64 0], .bool true]) (by simp [results, Try.results37, go_sem]) rfl ⟨by simp [findV], ((Fr.refl _).alloc _).1⟩)
theorem find_time_8 (b : Nat) (s : CS) (off : Nat) (w : World) (hoff : off < 18446744073709551616) (hn0 : 0 < s.n) (hn8 : s.n ≤ 8)
    (h : w.heap[b]? = some (.cells (cellsC s) 27)) (h8 : off = 49144) :
    Calls Try.prog 37 #[.pointer (some ⟨b, 0, none⟩), .int .u64 (off : Int), .int .i64 8] w fun e w' => e = .returned (findV b (.time 0)) ∧ Below w.heap.size w w' := by
  obtain ⟨c0, c1, cl, cf⟩ := knownC h
  go_enter Try.func37, Try.ntmps37
  go_wp2
  all_goals (refine bodyPost_ret (v := .tuple #[.agg #[.int .i64 0, .pointer (some ⟨b, 1, none⟩), .int .u64 0], .bool true]) (by simp [results, Try.results37, go_sem]) rfl ⟨rfl, ((Fr.refl _).alloc _).1⟩)
theorem find_time_40 (b : Nat) (s : CS) (off : Nat) (w : World) (hoff : off < 18446744073709551616) (hn0 : 0 < s.n) (hn8 : s.n ≤ 8)
    (h : w.heap[b]? = some (.cells (cellsC s) 27)) (h8 : off = 49144) :
    Calls Try.prog 37 #[.pointer (some ⟨b, 0, none⟩), .int .u64 (off : Int), .int .i64 4] w fun e w' => e = .returned (findV b (.time 1)) ∧ Below w.heap.size w w' := by
  obtain ⟨c0, c1, cl, cf⟩ := knownC h
  go_enter Try.func37, Try.ntmps37
  go_wp2
  all_goals (refine bodyPost_ret (v := .tuple #[.agg #[.int .i64 0, .pointer (some ⟨b, 1, none⟩), .int .u64 0], .bool true]) (by simp [results, Try.results37, go_sem]) rfl ⟨rfl, ((Fr.refl _).alloc _).1⟩)
theorem find_time_44 (b : Nat) (s : CS) (off : Nat) (w : World) (hoff : off < 18446744073709551616) (hn0 : 0 < s.n) (hn8 : s.n ≤ 8)
    (h : w.heap[b]? = some (.cells (cellsC s) 27)) (h8 : off = 49148) :
    Calls Try.prog 37 #[.pointer (some ⟨b, 0, none⟩), .int .u64 (off : Int), .int .i64 4] w fun e w' => e = .returned (findV b (.time 2)) ∧ Below w.heap.size w w' := by
  obtain ⟨c0, c1, cl, cf⟩ := knownC h
  go_enter Try.func37, Try.ntmps37
  go_wp2
  all_goals (refine bodyPost_ret (v := .tuple #[.agg #[.int .i64 0, .pointer (some ⟨b, 1, none⟩), .int .u64 32], .bool true]) (by simp [results, Try.results37, go_sem]) rfl ⟨rfl, ((Fr.refl _).alloc _).1⟩)
theorem find_cmp_8 (b : Nat) (s : CS) (off : Nat) (w : World) (hoff : off < 18446744073709551616) (hn0 : 0 ≤ s.n) (hn8 : s.n ≤ 8)
    (h : w.heap[b]? = some (.cells (cellsC s) 27)) (h8 : off % 8 = 0) (hc : 16384 ≤ off - off % 8 ∧ ((off - off % 8 : Nat) : Int) < 16384 + 8 * s.n) :
    Calls Try.prog 37 #[.pointer (some ⟨b, 0, none⟩), .int .u64 (off : Int), .int .i64 8] w fun e w' => e = .returned (findV b (.cmp ((off - off % 8 - 16384) / 8) 0)) ∧ Below w.heap.size w w' := by
  obtain ⟨c0, c1, cl, cf⟩ := knownC h
  go_enter Try.func37, Try.ntmps37
  go_wp2
  all_goals (refine bodyPost_ret (v := .tuple #[.agg #[.int .i64 0, .pointer (some ⟨b, 2 + (off - 16384) / 8, none⟩), .int .u64 ((off : Int) % 8 * 8)], .bool true]) (by simp [results, Try.results37, go_sem]) rfl ⟨by simp only [findV, upOf, h8]; congr 1; simp; omega, ((Fr.refl _).alloc _).1⟩)
theorem find_cmp_40 (b : Nat) (s : CS) (off : Nat) (w : World) (hoff : off < 18446744073709551616) (hn0 : 0 ≤ s.n) (hn8 : s.n ≤ 8)
    (h : w.heap[b]? = some (.cells (cellsC s) 27)) (h8 : off % 8 = 0) (hc : 16384 ≤ off - off % 8 ∧ ((off - off % 8 : Nat) : Int) < 16384 + 8 * s.n) :
    Calls Try.prog 37 #[.pointer (some ⟨b, 0, none⟩), .int .u64 (off : Int), .int .i64 4] w fun e w' => e = .returned (findV b (.cmp ((off - off % 8 - 16384) / 8) 1)) ∧ Below w.heap.size w w' := by
  obtain ⟨c0, c1, cl, cf⟩ := knownC h
  go_enter Try.func37, Try.ntmps37
  go_wp2
  all_goals (refine bodyPost_ret (v := .tuple #[.agg #[.int .i64 0, .pointer (some ⟨b, 2 + (off - 16384) / 8, none⟩), .int .u64 ((off : Int) % 8 * 8)], .bool true]) (by simp [results, Try.results37, go_sem]) rfl ⟨by simp only [findV, upOf, h8]; congr 1; simp; omega, ((Fr.refl _).alloc _).1⟩)
theorem find_cmp_44 (b : Nat) (s : CS) (off : Nat) (w : World) (hoff : off < 18446744073709551616) (hn0 : 0 ≤ s.n) (hn8 : s.n ≤ 8)
    (h : w.heap[b]? = some (.cells (cellsC s) 27)) (h8 : off % 8 = 4) (hc : 16384 ≤ off - off % 8 ∧ ((off - off % 8 : Nat) : Int) < 16384 + 8 * s.n) :
    Calls Try.prog 37 #[.pointer (some ⟨b, 0, none⟩), .int .u64 (off : Int), .int .i64 4] w fun e w' => e = .returned (findV b (.cmp ((off - off % 8 - 16384) / 8) 2)) ∧ Below w.heap.size w w' := by
  obtain ⟨c0, c1, cl, cf⟩ := knownC h
  go_enter Try.func37, Try.ntmps37
  go_wp2
  all_goals (refine bodyPost_ret (v := .tuple #[.agg #[.int .i64 0, .pointer (some ⟨b, 2 + (off - 4 - 16384) / 8, none⟩), .int .u64 ((off : Int) % 8 * 8)], .bool true]) (by simp [results, Try.results37, go_sem]) rfl ⟨by simp only [findV, upOf, h8]; congr 1; simp; omega, ((Fr.refl _).alloc _).1⟩)
theorem find_none_8 (b : Nat) (s : CS) (off : Nat) (w : World) (hoff : off < 18446744073709551616) (hn0 : 0 ≤ s.n) (hn8 : s.n ≤ 8)
    (h : w.heap[b]? = some (.cells (cellsC s) 27)) (h8 : off % 8 = 0) (ht : ¬ (0 < s.n ∧ off - off % 8 = 49144)) (hc : ¬ (16384 ≤ off - off % 8 ∧ ((off - off % 8 : Nat) : Int) < 16384 + 8 * s.n)) :
    Calls Try.prog 37 #[.pointer (some ⟨b, 0, none⟩), .int .u64 (off : Int), .int .i64 8] w fun e w' => e = .returned (findV b .no) ∧ Below w.heap.size w w' := by
  obtain ⟨c0, c1, cl, cf⟩ := knownC h
  go_enter Try.func37, Try.ntmps37
  go_wp2
  all_goals (first | (refine bodyPost_ret (v := .tuple #[.agg #[.int .i64 0, .pointer none, .int .u64 0], .bool false]) (by simp [results, Try.results37, go_sem]) rfl ⟨rfl, ((Fr.refl _).alloc _).1⟩) | (exfalso; omega))
theorem find_none_4 (b : Nat) (s : CS) (off : Nat) (w : World) (hoff : off < 18446744073709551616) (hn0 : 0 ≤ s.n) (hn8 : s.n ≤ 8)
    (h : w.heap[b]? = some (.cells (cellsC s) 27)) (h8 : off % 4 = 0) (h4 : s.n ≤ ((off / 4 : Nat) : Int)) (ht : ¬ (0 < s.n ∧ off - off % 8 = 49144)) (hc : ¬ (16384 ≤ off - off % 8 ∧ ((off - off % 8 : Nat) : Int) < 16384 + 8 * s.n)) :
    Calls Try.prog 37 #[.pointer (some ⟨b, 0, none⟩), .int .u64 (off : Int), .int .i64 4] w fun e w' => e = .returned (findV b .no) ∧ Below w.heap.size w w' := by
  obtain ⟨c0, c1, cl, cf⟩ := knownC h
  go_enter Try.func37, Try.ntmps37
  go_wp2
  all_goals (first | (refine bodyPost_ret (v := .tuple #[.agg #[.int .i64 0, .pointer none, .int .u64 0], .bool false]) (by simp [results, Try.results37, go_sem]) rfl ⟨rfl, ((Fr.refl _).alloc _).1⟩) | (exfalso; omega))

theorem find_any (b : Nat) (s : CS) (off : Nat) (size : Int) (w : World) (hoff : off < 18446744073709551616) (hn0 : 0 ≤ s.n) (hn8 : s.n ≤ 8)
    (h : w.heap[b]? = some (.cells (cellsC s) 27)) :
    Calls Try.prog 37 #[.pointer (some ⟨b, 0, none⟩), .int .u64 (off : Int), .int .i64 size] w fun e w' => e = .returned (findV b (spot s.n off size)) ∧ Below w.heap.size w w' := by
  by_cases h8 : size = 8
  · subst h8
    by_cases hm : off % 8 = 0
    · by_cases ht : 0 < s.n ∧ off - off % 8 = 49144
      · rw [spot_time s.n off 8 (Or.inl ⟨rfl, hm⟩) ht]
        exact find_time_8 b s off w hoff ht.1 hn8 h (by omega)
      · by_cases hc : 16384 ≤ off - off % 8 ∧ ((off - off % 8 : Nat) : Int) < 16384 + 8 * s.n
        · rw [spot_cmp s.n off 8 (Or.inl ⟨rfl, hm⟩) ht hc]
          exact find_cmp_8 b s off w hoff hn0 hn8 h hm hc
        · rw [spot_none s.n off 8 (Or.inl ⟨rfl, hm⟩) ht hc]
          exact find_none_8 b s off w hoff hn0 hn8 h hm ht hc
    · rw [spot_odd s.n off 8 (by omega) (fun _ => hm)]
      exact find_no_8 b s off w hoff hn0 hn8 h hm
  · by_cases h4 : size = 4
    · subst h4
      by_cases hm : off % 4 = 0
      · by_cases hs : ((off / 4 : Nat) : Int) < s.n
        · rw [spot_soft s.n off hm hs]
          exact find_soft b s off w hoff hn0 hn8 h hm hs
        · by_cases ht : 0 < s.n ∧ off - off % 8 = 49144
          · rw [spot_time s.n off 4 (Or.inr ⟨rfl, hm, by omega⟩) ht]
            unfold kOf
            by_cases h80 : off % 8 = 0
            · rw [if_neg (by omega), if_pos h80]
              exact find_time_40 b s off w hoff ht.1 hn8 h (by omega)
            · rw [if_neg (by omega), if_neg h80]
              exact find_time_44 b s off w hoff ht.1 hn8 h (by omega)
          · by_cases hc : 16384 ≤ off - off % 8 ∧ ((off - off % 8 : Nat) : Int) < 16384 + 8 * s.n
            · rw [spot_cmp s.n off 4 (Or.inr ⟨rfl, hm, by omega⟩) ht hc]
              unfold kOf
              by_cases h80 : off % 8 = 0
              · rw [if_neg (by omega), if_pos h80]
                exact find_cmp_40 b s off w hoff hn0 hn8 h h80 hc
              · rw [if_neg (by omega), if_neg h80]
                exact find_cmp_44 b s off w hoff hn0 hn8 h (by omega) hc
            · rw [spot_none s.n off 4 (Or.inr ⟨rfl, hm, by omega⟩) ht hc]
              exact find_none_4 b s off w hoff hn0 hn8 h hm (by omega) ht hc
      · rw [spot_odd s.n off 4 (fun _ => hm) (by omega)]
        exact find_no_4 b s off w hoff hn0 hn8 h hm
    · rw [spot_other s.n off size h4 h8]
      exact find_no_other b s off size w hoff hn0 hn8 h h4 h8
end Go.Proofs.Ytgelpapjmlbgfaa
