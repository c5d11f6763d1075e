/- The contracts of the accesses' exceptions and of calls. -/
import Derived.Test.YtaogccjihbbdcaaCauseNames
namespace Go.Proofs.Ytaogccjihbbdcaa
open Go.RowKit
set_option linter.unusedSimpArgs false
set_option linter.unusedVariables false

theorem exc_some (s : ByteArray) (r : Bool × Int × ByteArray) (h : findOf s = some r) (w : World) :
    Calls Try.prog 46 #[.string s] w fun e w' => e = .returned (.agg #[.bool r.1, .int .i64 r.2.1]) ∧ Below w.heap.size w w' := by
  go_enter Try.func46, Try.ntmps46
  go_wp2_with fail
  refine (rfind_some s r h _).mono ?_
  rintro e w1 ⟨rfl, hb1⟩
  have k := keepB hb1 (heap_alloc_new _ _)
  obtain ⟨y0, y1, yl, yf⟩ := known2' k
  have hC := ((((Fr.refl w).alloc _).step hb1).alloc (.cells #[.bool r.1, .int .i64 r.2.1] 27)).two (b := w.heap.size) (Nat.le_refl _) (.bool r.1) (.int .i64 r.2.1)
  go_wp2
  refine bodyPost_ret (v := .agg #[.bool r.1, .int .i64 r.2.1]) (by simp [results, Try.results46, go_sem, y0, y1, yl]) rfl ⟨rfl, ?_⟩
  refine Fr.below ?_; repeat (first | exact (((Fr.refl w).alloc _).step hb1) | refine Fr.alloc ?_ _ | refine Fr.drew ?_ | refine Fr.setCell ?_ (by simp) _)

def pickOf (n a b c : Int) : Int := if n = 0 then a else if n = 1 then b else c

set_option maxRecDepth 100000 in
theorem pick_any (n a b c : Int) (w : World) :
    Calls Try.prog 45 #[.int .i64 n, .agg #[.int .i64 a, .int .i64 b, .int .i64 c]] w fun e w' => e = .returned (.agg #[.bool false, .int .i64 (pickOf n a b c)]) ∧ Below w.heap.size w w' := by
  have hn : n = 0 ∨ n = 1 ∨ n = 2 ∨ n < 0 ∨ 2 < n := by omega
  rcases hn with rfl | rfl | rfl | hn | hn
  · go_enter Try.func45, Try.ntmps45
    go_wp2
    exact bodyPost_ret (v := .agg #[.bool false, .int .i64 a]) (by simp [results, Try.results45, go_sem]) rfl ⟨rfl, (((Fr.refl w).alloc _).alloc _).1⟩
  · go_enter Try.func45, Try.ntmps45
    go_wp2
    exact bodyPost_ret (v := .agg #[.bool false, .int .i64 b]) (by simp [results, Try.results45, go_sem]) rfl ⟨rfl, (((Fr.refl w).alloc _).alloc _).1⟩
  · go_enter Try.func45, Try.ntmps45
    go_wp2
    exact bodyPost_ret (v := .agg #[.bool false, .int .i64 c]) (by simp [results, Try.results45, go_sem]) rfl ⟨rfl, (((Fr.refl w).alloc _).alloc _).1⟩
  all_goals
    have H : Hid (pickOf n a b c = c) := by show _ = _; unfold pickOf; rw [if_neg (by omega), if_neg (by omega)]
    go_enter Try.func45, Try.ntmps45
    go_wp2
    exact bodyPost_ret (v := .agg #[.bool false, .int .i64 c]) (by simp [results, Try.results45, go_sem]) rfl ⟨by rw [H.out], (((Fr.refl w).alloc _).alloc _).1⟩

theorem cAlign_any (n : Int) (w : World) :
    Calls Try.prog 12 #[.int .i64 n] w fun e w' => e = .returned (.agg #[.bool false, .int .i64 (pickOf n 0 4 6)]) ∧ Below w.heap.size w w' := by
  go_enter Try.func12, Try.ntmps12
  go_wp2_with fail
  refine (pick_any _ _ _ _ _).mono ?_
  rintro e w1 ⟨rfl, hb1⟩
  have k := keepB hb1 (heap_alloc_new _ _)
  obtain ⟨y0, y1, yl, yf⟩ := known2' k
  go_wp2
  refine bodyPost_ret (v := .agg #[.bool false, .int .i64 (pickOf n 0 4 6)]) (by simp [results, Try.results12, go_sem, y0, y1, yl]) rfl ⟨rfl, ?_⟩
  refine Fr.below ?_; repeat (first | exact (((Fr.refl w).alloc _).step hb1) | refine Fr.alloc ?_ _ | refine Fr.drew ?_ | refine Fr.setCell ?_ (by simp) _)

theorem cFault_any (n : Int) (w : World) :
    Calls Try.prog 14 #[.int .i64 n] w fun e w' => e = .returned (.agg #[.bool false, .int .i64 (pickOf n 1 5 7)]) ∧ Below w.heap.size w w' := by
  go_enter Try.func14, Try.ntmps14
  go_wp2_with fail
  refine (pick_any _ _ _ _ _).mono ?_
  rintro e w1 ⟨rfl, hb1⟩
  have k := keepB hb1 (heap_alloc_new _ _)
  obtain ⟨y0, y1, yl, yf⟩ := known2' k
  go_wp2
  refine bodyPost_ret (v := .agg #[.bool false, .int .i64 (pickOf n 1 5 7)]) (by simp [results, Try.results14, go_sem, y0, y1, yl]) rfl ⟨rfl, ?_⟩
  refine Fr.below ?_; repeat (first | exact (((Fr.refl w).alloc _).step hb1) | refine Fr.alloc ?_ _ | refine Fr.drew ?_ | refine Fr.setCell ?_ (by simp) _)

theorem cPage_any (n : Int) (w : World) :
    Calls Try.prog 15 #[.int .i64 n] w fun e w' => e = .returned (.agg #[.bool false, .int .i64 (pickOf n 12 13 15)]) ∧ Below w.heap.size w w' := by
  go_enter Try.func15, Try.ntmps15
  go_wp2_with fail
  refine (pick_any _ _ _ _ _).mono ?_
  rintro e w1 ⟨rfl, hb1⟩
  have k := keepB hb1 (heap_alloc_new _ _)
  obtain ⟨y0, y1, yl, yf⟩ := known2' k
  go_wp2
  refine bodyPost_ret (v := .agg #[.bool false, .int .i64 (pickOf n 12 13 15)]) (by simp [results, Try.results15, go_sem, y0, y1, yl]) rfl ⟨rfl, ?_⟩
  refine Fr.below ?_; repeat (first | exact (((Fr.refl w).alloc _).step hb1) | refine Fr.alloc ?_ _ | refine Fr.drew ?_ | refine Fr.setCell ?_ (by simp) _)

set_option maxRecDepth 100000 in
set_option maxHeartbeats 1000000 in
theorem racc_align (n : Int) (w : World) :
    Calls Try.prog 13 #[.int .i64 n, .string ⟨#[97, 108, 105, 103, 110]⟩] w fun e w' => e = .returned (.agg #[.bool false, .int .i64 (pickOf n 0 4 6)]) ∧ Below w.heap.size w w' := by
  have hn : n = 0 ∨ n = 1 ∨ ¬ (n = 0 ∨ n = 1) := by omega
  rcases hn with rfl | rfl | hn
  · go_enter Try.func13, Try.ntmps13
    go_wp2_with fail
    refine (exc_some _ (false, 0, ⟨#[105, 110, 115, 110, 45, 97, 108, 105, 103, 110]⟩) (by rw [findOf_data]; rfl) _).mono ?_
    rintro e w1 ⟨rfl, hb1⟩
    have k := keepB hb1 (heap_alloc_new _ _)
    obtain ⟨y0, y1, yl, yf⟩ := known2' k
    go_wp2
    refine bodyPost_ret (v := .agg #[.bool false, .int .i64 0]) (by simp [results, Try.results13, go_sem, y0, y1, yl]) rfl ⟨rfl, ?_⟩
    refine Fr.below ?_; repeat (first | exact (((Fr.refl w).alloc _).step hb1) | refine Fr.alloc ?_ _ | refine Fr.drew ?_ | refine Fr.setCell ?_ (by simp) _)
  · go_enter Try.func13, Try.ntmps13
    go_wp2_with fail
    refine (exc_some _ (false, 4, ⟨#[108, 111, 97, 100, 45, 97, 108, 105, 103, 110]⟩) (by rw [findOf_data]; rfl) _).mono ?_
    rintro e w1 ⟨rfl, hb1⟩
    have k := keepB hb1 (heap_alloc_new _ _)
    obtain ⟨y0, y1, yl, yf⟩ := known2' k
    go_wp2
    refine bodyPost_ret (v := .agg #[.bool false, .int .i64 4]) (by simp [results, Try.results13, go_sem, y0, y1, yl]) rfl ⟨rfl, ?_⟩
    refine Fr.below ?_; repeat (first | exact (((Fr.refl w).alloc _).step hb1) | refine Fr.alloc ?_ _ | refine Fr.drew ?_ | refine Fr.setCell ?_ (by simp) _)
  · have H : Hid (pickOf n 0 4 6 = 6) := by show _ = _; unfold pickOf; rw [if_neg (by omega), if_neg (by omega)]
    have e0 : (n == 0) = false := by simp; omega
    have e1 : (n == 1) = false := by simp; omega
    clear hn
    go_enter Try.func13, Try.ntmps13
    go_wp2_with fail
    refine (exc_some _ (false, 6, ⟨#[115, 116, 111, 114, 101, 45, 97, 108, 105, 103, 110]⟩) (by rw [findOf_data]; rfl) _).mono ?_
    rintro e w1 ⟨rfl, hb1⟩
    have k := keepB hb1 (heap_alloc_new _ _)
    obtain ⟨y0, y1, yl, yf⟩ := known2' k
    go_wp2
    refine bodyPost_ret (v := .agg #[.bool false, .int .i64 6]) (by simp [results, Try.results13, go_sem, y0, y1, yl]) rfl ⟨by rw [H.out], ?_⟩
    refine Fr.below ?_; repeat (first | exact (((Fr.refl w).alloc _).step hb1) | refine Fr.alloc ?_ _ | refine Fr.drew ?_ | refine Fr.setCell ?_ (by simp) _)

set_option maxRecDepth 100000 in
set_option maxHeartbeats 1000000 in
theorem racc_fault (n : Int) (w : World) :
    Calls Try.prog 13 #[.int .i64 n, .string ⟨#[102, 97, 117, 108, 116]⟩] w fun e w' => e = .returned (.agg #[.bool false, .int .i64 (pickOf n 1 5 7)]) ∧ Below w.heap.size w w' := by
  have hn : n = 0 ∨ n = 1 ∨ ¬ (n = 0 ∨ n = 1) := by omega
  rcases hn with rfl | rfl | hn
  · go_enter Try.func13, Try.ntmps13
    go_wp2_with fail
    refine (exc_some _ (false, 1, ⟨#[105, 110, 115, 110, 45, 102, 97, 117, 108, 116]⟩) (by rw [findOf_data]; rfl) _).mono ?_
    rintro e w1 ⟨rfl, hb1⟩
    have k := keepB hb1 (heap_alloc_new _ _)
    obtain ⟨y0, y1, yl, yf⟩ := known2' k
    go_wp2
    refine bodyPost_ret (v := .agg #[.bool false, .int .i64 1]) (by simp [results, Try.results13, go_sem, y0, y1, yl]) rfl ⟨rfl, ?_⟩
    refine Fr.below ?_; repeat (first | exact (((Fr.refl w).alloc _).step hb1) | refine Fr.alloc ?_ _ | refine Fr.drew ?_ | refine Fr.setCell ?_ (by simp) _)
  · go_enter Try.func13, Try.ntmps13
    go_wp2_with fail
    refine (exc_some _ (false, 5, ⟨#[108, 111, 97, 100, 45, 102, 97, 117, 108, 116]⟩) (by rw [findOf_data]; rfl) _).mono ?_
    rintro e w1 ⟨rfl, hb1⟩
    have k := keepB hb1 (heap_alloc_new _ _)
    obtain ⟨y0, y1, yl, yf⟩ := known2' k
    go_wp2
    refine bodyPost_ret (v := .agg #[.bool false, .int .i64 5]) (by simp [results, Try.results13, go_sem, y0, y1, yl]) rfl ⟨rfl, ?_⟩
    refine Fr.below ?_; repeat (first | exact (((Fr.refl w).alloc _).step hb1) | refine Fr.alloc ?_ _ | refine Fr.drew ?_ | refine Fr.setCell ?_ (by simp) _)
  · have H : Hid (pickOf n 1 5 7 = 7) := by show _ = _; unfold pickOf; rw [if_neg (by omega), if_neg (by omega)]
    have e0 : (n == 0) = false := by simp; omega
    have e1 : (n == 1) = false := by simp; omega
    clear hn
    go_enter Try.func13, Try.ntmps13
    go_wp2_with fail
    refine (exc_some _ (false, 7, ⟨#[115, 116, 111, 114, 101, 45, 102, 97, 117, 108, 116]⟩) (by rw [findOf_data]; rfl) _).mono ?_
    rintro e w1 ⟨rfl, hb1⟩
    have k := keepB hb1 (heap_alloc_new _ _)
    obtain ⟨y0, y1, yl, yf⟩ := known2' k
    go_wp2
    refine bodyPost_ret (v := .agg #[.bool false, .int .i64 7]) (by simp [results, Try.results13, go_sem, y0, y1, yl]) rfl ⟨by rw [H.out], ?_⟩
    refine Fr.below ?_; repeat (first | exact (((Fr.refl w).alloc _).step hb1) | refine Fr.alloc ?_ _ | refine Fr.drew ?_ | refine Fr.setCell ?_ (by simp) _)

set_option maxRecDepth 100000 in
set_option maxHeartbeats 1000000 in
theorem racc_page (n : Int) (w : World) :
    Calls Try.prog 13 #[.int .i64 n, .string ⟨#[112, 97, 103, 101]⟩] w fun e w' => e = .returned (.agg #[.bool false, .int .i64 (pickOf n 12 13 15)]) ∧ Below w.heap.size w w' := by
  have hn : n = 0 ∨ n = 1 ∨ ¬ (n = 0 ∨ n = 1) := by omega
  rcases hn with rfl | rfl | hn
  · go_enter Try.func13, Try.ntmps13
    go_wp2_with fail
    refine (exc_some _ (false, 12, ⟨#[105, 110, 115, 110, 45, 112, 97, 103, 101]⟩) (by rw [findOf_data]; rfl) _).mono ?_
    rintro e w1 ⟨rfl, hb1⟩
    have k := keepB hb1 (heap_alloc_new _ _)
    obtain ⟨y0, y1, yl, yf⟩ := known2' k
    go_wp2
    refine bodyPost_ret (v := .agg #[.bool false, .int .i64 12]) (by simp [results, Try.results13, go_sem, y0, y1, yl]) rfl ⟨rfl, ?_⟩
    refine Fr.below ?_; repeat (first | exact (((Fr.refl w).alloc _).step hb1) | refine Fr.alloc ?_ _ | refine Fr.drew ?_ | refine Fr.setCell ?_ (by simp) _)
  · go_enter Try.func13, Try.ntmps13
    go_wp2_with fail
    refine (exc_some _ (false, 13, ⟨#[108, 111, 97, 100, 45, 112, 97, 103, 101]⟩) (by rw [findOf_data]; rfl) _).mono ?_
    rintro e w1 ⟨rfl, hb1⟩
    have k := keepB hb1 (heap_alloc_new _ _)
    obtain ⟨y0, y1, yl, yf⟩ := known2' k
    go_wp2
    refine bodyPost_ret (v := .agg #[.bool false, .int .i64 13]) (by simp [results, Try.results13, go_sem, y0, y1, yl]) rfl ⟨rfl, ?_⟩
    refine Fr.below ?_; repeat (first | exact (((Fr.refl w).alloc _).step hb1) | refine Fr.alloc ?_ _ | refine Fr.drew ?_ | refine Fr.setCell ?_ (by simp) _)
  · have H : Hid (pickOf n 12 13 15 = 15) := by show _ = _; unfold pickOf; rw [if_neg (by omega), if_neg (by omega)]
    have e0 : (n == 0) = false := by simp; omega
    have e1 : (n == 1) = false := by simp; omega
    clear hn
    go_enter Try.func13, Try.ntmps13
    go_wp2_with fail
    refine (exc_some _ (false, 15, ⟨#[115, 116, 111, 114, 101, 45, 112, 97, 103, 101]⟩) (by rw [findOf_data]; rfl) _).mono ?_
    rintro e w1 ⟨rfl, hb1⟩
    have k := keepB hb1 (heap_alloc_new _ _)
    obtain ⟨y0, y1, yl, yf⟩ := known2' k
    go_wp2
    refine bodyPost_ret (v := .agg #[.bool false, .int .i64 15]) (by simp [results, Try.results13, go_sem, y0, y1, yl]) rfl ⟨by rw [H.out], ?_⟩
    refine Fr.below ?_; repeat (first | exact (((Fr.refl w).alloc _).step hb1) | refine Fr.alloc ?_ _ | refine Fr.drew ?_ | refine Fr.setCell ?_ (by simp) _)

def callOf (p : Int) : Int := if p = 0 then 8 else if p = 1 then 9 else 11

theorem ccall_any (p : Int) (w : World) :
    Calls Try.prog 16 #[.int .i64 p] w fun e w' => e = .returned (.agg #[.bool false, .int .i64 (callOf p)]) ∧ Below w.heap.size w w' := by
  have hn : p = 0 ∨ p = 1 ∨ ¬ (p = 0 ∨ p = 1) := by omega
  rcases hn with rfl | rfl | hn
  · go_enter Try.func16, Try.ntmps16
    go_wp2
    exact bodyPost_ret (v := .agg #[.bool false, .int .i64 8]) (by simp [results, Try.results16, go_sem]) rfl ⟨rfl, ((Fr.refl w).alloc _).1⟩
  · go_enter Try.func16, Try.ntmps16
    go_wp2
    exact bodyPost_ret (v := .agg #[.bool false, .int .i64 9]) (by simp [results, Try.results16, go_sem]) rfl ⟨rfl, ((Fr.refl w).alloc _).1⟩
  · have H : Hid (callOf p = 11) := by show _ = _; unfold callOf; rw [if_neg (by omega), if_neg (by omega)]
    have e0 : (p == 0) = false := by simp; omega
    have e1 : (p == 1) = false := by simp; omega
    clear hn
    go_enter Try.func16, Try.ntmps16
    go_wp2
    exact bodyPost_ret (v := .agg #[.bool false, .int .i64 11]) (by simp [results, Try.results16, go_sem]) rfl ⟨by rw [H.out], ((Fr.refl w).alloc _).1⟩

set_option maxHeartbeats 1000000 in
theorem rcall_any (p : Int) (w : World) :
    Calls Try.prog 17 #[.int .i64 p] w fun e w' => e = .returned (.agg #[.bool false, .int .i64 (callOf p)]) ∧ Below w.heap.size w w' := by
  have hn : p = 0 ∨ p = 1 ∨ ¬ (p = 0 ∨ p = 1) := by omega
  rcases hn with rfl | rfl | hn
  · go_enter Try.func17, Try.ntmps17
    go_wp2_with fail
    refine (exc_some _ (false, 8, ⟨#[99, 97, 108, 108, 45, 117, 115, 101, 114]⟩) (by rw [findOf_data]; rfl) _).mono ?_
    rintro e w1 ⟨rfl, hb1⟩
    have k := keepB hb1 (heap_alloc_new _ _)
    obtain ⟨y0, y1, yl, yf⟩ := known2' k
    go_wp2
    refine bodyPost_ret (v := .agg #[.bool false, .int .i64 8]) (by simp [results, Try.results17, go_sem, y0, y1, yl]) rfl ⟨rfl, ?_⟩
    refine Fr.below ?_; repeat (first | exact (((Fr.refl w).alloc _).step hb1) | refine Fr.alloc ?_ _ | refine Fr.drew ?_ | refine Fr.setCell ?_ (by simp) _)
  · go_enter Try.func17, Try.ntmps17
    go_wp2_with fail
    refine (exc_some _ (false, 9, ⟨#[99, 97, 108, 108, 45, 115, 117, 112, 101, 114]⟩) (by rw [findOf_data]; rfl) _).mono ?_
    rintro e w1 ⟨rfl, hb1⟩
    have k := keepB hb1 (heap_alloc_new _ _)
    obtain ⟨y0, y1, yl, yf⟩ := known2' k
    go_wp2
    refine bodyPost_ret (v := .agg #[.bool false, .int .i64 9]) (by simp [results, Try.results17, go_sem, y0, y1, yl]) rfl ⟨rfl, ?_⟩
    refine Fr.below ?_; repeat (first | exact (((Fr.refl w).alloc _).step hb1) | refine Fr.alloc ?_ _ | refine Fr.drew ?_ | refine Fr.setCell ?_ (by simp) _)
  · have H : Hid (callOf p = 11) := by show _ = _; unfold callOf; rw [if_neg (by omega), if_neg (by omega)]
    have e0 : (p == 0) = false := by simp; omega
    have e1 : (p == 1) = false := by simp; omega
    clear hn
    go_enter Try.func17, Try.ntmps17
    go_wp2_with fail
    refine (exc_some _ (false, 11, ⟨#[99, 97, 108, 108, 45, 109, 97, 99, 104, 105, 110, 101]⟩) (by rw [findOf_data]; rfl) _).mono ?_
    rintro e w1 ⟨rfl, hb1⟩
    have k := keepB hb1 (heap_alloc_new _ _)
    obtain ⟨y0, y1, yl, yf⟩ := known2' k
    go_wp2
    refine bodyPost_ret (v := .agg #[.bool false, .int .i64 11]) (by simp [results, Try.results17, go_sem, y0, y1, yl]) rfl ⟨by rw [H.out], ?_⟩
    refine Fr.below ?_; repeat (first | exact (((Fr.refl w).alloc _).step hb1) | refine Fr.alloc ?_ _ | refine Fr.drew ?_ | refine Fr.setCell ?_ (by simp) _)
end Go.Proofs.Ytaogccjihbbdcaa
