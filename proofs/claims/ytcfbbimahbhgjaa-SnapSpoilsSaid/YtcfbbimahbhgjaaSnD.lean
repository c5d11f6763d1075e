/- Snap: the document's numbers, truths and bytes; the sums; two lists of bytes compared. -/
import Derived.Test.YtcfbbimahbhgjaaSnC
import Derived.BigQuiet
namespace Go.Proofs.Ytcfbbimahbhgjaa
open Go.RowKit
set_option linter.unusedSimpArgs false
set_option linter.unusedVariables false

theorem OB.new (w : World) {base b : Nat} (l : List Nat) (cs : Array Value) (n : Nat) (h : base ≤ w.heap.size) (hb : w.heap.size = b) (hl : l.length = n) (hn : n ≤ 1000000000) (hcs : cs.toList = bc l) : OB (w.alloc (.cells cs 5)) base (some ⟨b, 0, none⟩) n n l := by
  subst hb
  subst hl
  have hs : cs.size = l.length := by rw [← Array.length_toList, hcs, bc_len]
  refine ⟨rfl, .inr ⟨_, cs, (0, 0), rfl, h, heap_alloc_new w _, .inl rfl, Nat.le_refl _, by unfold maxLen; omega, hs, ?_⟩⟩
  rw [hcs, List.take_of_length_le (by rw [bc_len]; exact Nat.le_refl _)]
theorem grown_fr0 {B : Nat} {w0 w w1 : World} {a : Option Addr} {base n cap : Nat} {l : List Nat} (hF : Fr B w0 w) (hO : OB w base a n cap l) (hB : B ≤ base) (hg : w.grownBy w1 (ob a)) : Fr B w0 w1 := by
  refine ⟨⟨hg.os.trans hF.1.os, hg.tape.trans hF.1.tape, hg.output.trans hF.1.output, Nat.le_trans hF.1.size hg.size, fun i hi => ?_⟩, Nat.le_trans hF.2 hg.size⟩
  have := hF.2
  rw [hg.block i (by omega) (fun e => by have := (hO.lt e.symm).1; omega), ← hF.1.block i hi]
set_option maxRecDepth 100000 in
set_option maxHeartbeats 4000000 in
theorem rint_any (i : Int) (w : World) (h0 : -9223372036854775808 ≤ i) (h1 : i ≤ 9223372036854775807) : Calls Try.prog 13 #[.int .i64 i] w (Gives w (numL (intN i))) := by
  have hN := intN_lt h0 h1
  by_cases hi : 0 ≤ i
  · have d1 : decide (0 ≤ i) = true := by simpa using hi
    have e1 : IntKind.u64.wrap i = i := by rw [IntKind.wrap_u64]; omega
    have e2 : IntKind.u64.wrap (2 * i) = (intN i : Int) := by unfold intN; rw [if_pos hi, IntKind.wrap_u64]; omega
    obtain ⟨N, hN9⟩ : ∃ N, intN i = N := ⟨_, rfl⟩
    rw [hN9] at e2 hN ⊢
    clear hN9
    go_enter Try.func13, Try.ntmps13
    go_wp2_with fail
    refine (rnum_any N _ hN).mono ?_
    rintro e w1 ⟨a1, n1, cap1, rfl, hO, hb⟩
    clear e1 e2
    go_wp2_with fail
    go_ret
    exact ⟨a1, n1, cap1, rfl, hO, hb⟩
  · have d1 : decide (0 ≤ i) = false := by simpa using hi
    have e0 : IntKind.i64.wrap (i + 1) = i + 1 := by rw [IntKind.wrap_i64]; omega
    have e1 : IntKind.i64.wrap (-(i + 1)) = -(i + 1) := by rw [IntKind.wrap_i64]; omega
    have e2 : IntKind.u64.wrap (-(i + 1)) = -(i + 1) := by rw [IntKind.wrap_u64]; omega
    have e3 : IntKind.u64.wrap (2 * -(i + 1)) = 2 * -(i + 1) := by rw [IntKind.wrap_u64]; omega
    have e4 : IntKind.u64.wrap (2 * -(i + 1) + 1) = (intN i : Int) := by unfold intN; rw [if_neg hi, IntKind.wrap_u64]; omega
    obtain ⟨N, hN9⟩ : ∃ N, intN i = N := ⟨_, rfl⟩
    rw [hN9] at e4 hN ⊢
    clear hN9
    go_enter Try.func13, Try.ntmps13
    go_wp2_with fail
    refine (rnum_any N _ hN).mono ?_
    rintro e w1 ⟨a1, n1, cap1, rfl, hO, hb⟩
    clear e0 e1 e2 e3 e4
    go_wp2_with fail
    go_ret
    exact ⟨a1, n1, cap1, rfl, hO, hb⟩
set_option maxRecDepth 100000 in
theorem rtruth_any (i : Bool) (w : World) : Calls Try.prog 14 #[.bool i] w (Gives w [i.toNat]) := by
  cases i
  · go_enter Try.func14, Try.ntmps14
    go_wp2_with fail
    go_ret
    exact ⟨_, 1, 1, rfl, OB.new w [0] #[.int .u8 0] 1 (Nat.le_refl _) rfl rfl (by omega) rfl, ((Fr.refl w).alloc _).1⟩
  · go_enter Try.func14, Try.ntmps14
    go_wp2_with fail
    go_ret
    exact ⟨_, 1, 1, rfl, OB.new w [1] #[.int .u8 1] 1 (Nat.le_refl _) rfl rfl (by omega) rfl, ((Fr.refl w).alloc _).1⟩
set_option maxRecDepth 100000 in
set_option maxHeartbeats 4000000 in
theorem rraw_any (m xc : Nat) (xa : Option Addr) (ml : List Nat) (w : World) (hm : ml.length = m) (hm2 : m ≤ 100000000) (hx : BL w xa ml) :
    Calls Try.prog 15 #[.slice xa m xc] w (Gives w (numL m ++ ml)) := by
  have d1 : ((m : Int)) ≤ 100000000 := by omega
  go_enter Try.func15, Try.ntmps15
  go_wp2_with fail
  refine (rnum_any m _ (by omega)).mono ?_
  rintro e w1 ⟨a1, n1, cap1, rfl, hO1, hb⟩
  have hn1 : n1 ≤ 10 := by rw [← hO1.1]; exact numL_ten (show m < 18446744073709551616 by omega)
  have hx1 := hx.keep hb
  go_wp2_with (at_builtin; refine wpList_append_b _ rfl (.tmp 6) (.tmp 7) rfl rfl hO1 xa m xc ml rfl hm hx1 (by omega) hb.size ?_; intro a2 cap2 w2 hO hg hat)
  go_ret
  exact ⟨a2, n1 + m, cap2, rfl, hO, (grown_fr0 ((Fr.refl w).step hb) hO1 (Nat.le_refl _) hg).1⟩
set_option maxRecDepth 100000 in
set_option maxHeartbeats 4000000 in
theorem bytes17_any (a b : Option Addr) (n cap cap' : Nat) (l : List Nat) (w : World) (hl : l.length = n) (hn : n ≤ 1000000000) (hA : BL w a l) (hB : BL w b l) :
    Calls Try.prog 16 #[.slice a n cap, .slice b n cap'] w fun e w' => e = .returned (.bool true) ∧ Below w.heap.size w w' := by
  have hn9 : (n : Int) ≤ 1000000000 := by omega
  go_enter Try.func16, Try.ntmps16
  go_wp2_with fail
  go_loopw [5] (fun u wr => ∃ k : Nat, k ≤ n ∧ u = .int .i64 (k : Int) ∧ Fr w.heap.size w wr)
    (fun u _ => n - (intOf u).toNat)
  case atStart => exact ⟨0, by omega, rfl, Fr.refl _⟩
  case round =>
    obtain ⟨k, hk, rfl, hF⟩ := hrel
    by_cases hlt : k < n
    · have hj0 : (0 : Int) ≤ k := by omega
      have hlt' : (k : Int) < n := by omega
      obtain ⟨ad, x, rfl, hx, cx⟩ := (hA.keep hF.1).cell (i := k) (by omega)
      obtain ⟨ad', y, rfl, hy, cy⟩ := (hB.keep hF.1).cell (i := k) (by omega)
      rw [hx] at hy
      cases hy
      have E := Lib.hid (fun n => hF.drewN n)
      clear hF hA hB hx hl
      go_wp2
      go_quiet (fail)
      go_wp2
      go_roundw
      case rel => exact ⟨k + 1, by omega, by go_num, E.out _⟩
      case measure => simp [intOf]; omega
    · have e : k = n := by omega
      subst e
      have FF := Lib.hid hF
      clear hF hA hB
      go_wp2
      go_ret
      exact ⟨rfl, FF.out.1⟩
/-! ## The sums. -/
def sumL (l : List Nat) : Nat := l.foldl (fun n x => (31 * n + x) % 4294967296) 7
theorem sum_foldl (l : List Nat) : ∀ s, s < 4294967296 → l.foldl (fun n x => (31 * n + x) % 4294967296) s < 4294967296 := by
  induction l with
  | nil => exact fun s h => h
  | cons x l ih => exact fun s h => ih _ (Nat.mod_lt _ (by omega))
theorem sumL_lt (l : List Nat) : sumL l < 4294967296 := sum_foldl l 7 (by omega)
theorem sumL_take {l : List Nat} {k x : Nat} (h : l[k]? = some x) : sumL (l.take (k + 1)) = (31 * sumL (l.take k) + x) % 4294967296 := by
  have : l.take (k + 1) = l.take k ++ [x] := by rw [List.take_add_one, h]; rfl
  rw [this]
  unfold sumL
  rw [List.foldl_append]
  rfl
set_option maxRecDepth 100000 in
set_option maxHeartbeats 4000000 in
theorem sum_any (a : Option Addr) (n cap : Nat) (l : List Nat) (w : World) (hl : l.length = n) (hn : n ≤ 1000000000) (h8 : ∀ x ∈ l, x < 256) (hA : BL w a l) :
    Calls Try.prog 17 #[.slice a n cap] w fun e w' => e = .returned (.int .u32 (sumL l : Int)) ∧ w' = w := by
  have hn9 : (n : Int) ≤ 1000000000 := by omega
  go_enter Try.func17, Try.ntmps17
  go_wp2_with fail
  go_loop [3, 5, 8] (fun s v u => ∃ k : Nat, k ≤ n ∧ u = .int .i64 (k : Int) ∧ s = .int .u32 (sumL (l.take k) : Int)) (fun _ _ u => n - (intOf u).toNat)
  case atStart => exact ⟨0, by omega, rfl, rfl⟩
  case round =>
    obtain ⟨k, hk, rfl, rfl⟩ := hrel
    by_cases hlt : k < n
    · have hj0 : (0 : Int) ≤ k := by omega
      have hlt' : (k : Int) < n := by omega
      obtain ⟨ad, x, rfl, hx, cx⟩ := hA.cell (i := k) (by omega)
      have hx8 := h8 x (List.mem_of_getElem? hx)
      have hs := sumL_take hx
      obtain ⟨S, hS⟩ : ∃ S, sumL (l.take k) = S := ⟨_, rfl⟩
      obtain ⟨S', hS'⟩ : ∃ S', sumL (l.take (k + 1)) = S' := ⟨_, rfl⟩
      rw [hS, hS'] at hs
      rw [hS]
      have hS9 : S < 4294967296 := by rw [← hS]; exact sumL_lt _
      have e1 : Hid ((31 * (S : Int) % 4294967296 + (x : Int)) % 4294967296 = (S' : Int)) := by show _ = _; omega
      have HS' := Lib.hid hS'
      clear hA hx hl hs hS hS' hS9
      go_wp2
      exact ⟨⟨k + 1, by omega, by go_num, by rw [HS'.out, e1.out]⟩, by simp [intOf]; omega⟩
    · have e : k = n := by omega
      subst e
      have e2 : l.take k = l := List.take_of_length_le (by omega)
      rw [e2]
      clear hA e2
      go_wp2
      go_ret
      exact ⟨rfl, rfl⟩
set_option maxRecDepth 100000 in
set_option maxHeartbeats 4000000 in
theorem rsum_any (a : Option Addr) (n cap : Nat) (l : List Nat) (w : World) (hl : l.length = n) (hn : n ≤ 1000000000) (h8 : ∀ x ∈ l, x < 256) (hA : BL w a l) :
    Calls Try.prog 18 #[.slice a n cap] w fun e w' => e = .returned (.int .u64 (sumL l : Int)) ∧ w' = w := by
  have hn9 : (n : Int) ≤ 1000000000 := by omega
  go_enter Try.func18, Try.ntmps18
  go_wp2_with fail
  go_loop [3, 4] (fun s u => ∃ k : Nat, k ≤ n ∧ u = .int .i64 (k : Int) ∧ s = .int .u64 (sumL (l.take k) : Int)) (fun _ u => n - (intOf u).toNat)
  case atStart => exact ⟨0, by omega, rfl, rfl⟩
  case round =>
    obtain ⟨k, hk, rfl, rfl⟩ := hrel
    by_cases hlt : k < n
    · have hj0 : (0 : Int) ≤ k := by omega
      have hlt' : (k : Int) < n := by omega
      obtain ⟨ad, x, rfl, hx, cx⟩ := hA.cell (i := k) (by omega)
      have hx8 := h8 x (List.mem_of_getElem? hx)
      have hs := sumL_take hx
      obtain ⟨S, hS⟩ : ∃ S, sumL (l.take k) = S := ⟨_, rfl⟩
      obtain ⟨S', hS'⟩ : ∃ S', sumL (l.take (k + 1)) = S' := ⟨_, rfl⟩
      rw [hS, hS'] at hs
      rw [hS]
      have hS9 : S < 4294967296 := by rw [← hS]; exact sumL_lt _
      have e0 : IntKind.u64.wrap (31 * (S : Int)) = 31 * (S : Int) := by rw [IntKind.wrap_u64]; omega
      have e1 : IntKind.u64.wrap (31 * (S : Int) + (x : Int)) = 31 * (S : Int) + (x : Int) := by rw [IntKind.wrap_u64]; omega
      have e2 : Hid ((31 * (S : Int) + (x : Int)) % 4294967296 = (S' : Int)) := by show _ = _; omega
      have HS' := Lib.hid hS'
      clear hA hx hl hs hS hS' hS9
      go_wp2
      exact ⟨⟨k + 1, by omega, by go_num, by rw [HS'.out, e2.out]⟩, by simp [intOf]; omega⟩
    · have e : k = n := by omega
      subst e
      have e2 : l.take k = l := List.take_of_length_le (by omega)
      rw [e2]
      clear hA e2
      go_wp2
      go_ret
      exact ⟨rfl, rfl⟩
/-! ## The chapter's example. -/
theorem wa_new (w : World) : WA (w.alloc (.cells #[.slice none 0 0] 33)) w.heap.size w.heap.size none 0 0 [] := ⟨heap_alloc_new w _, OB.nil _ _, (by intro e; cases e), Nat.le_refl _⟩
theorem num300 : numL 300 = [172, 2] := by rw [numL_ge (by omega), numL_lt (by omega)]
set_option maxRecDepth 100000 in
set_option maxHeartbeats 4000000 in
theorem live45_any (w : World) : Calls Try.prog 11 #[] w fun e w' => e = .returned (.bool true) ∧ Below w.heap.size w w' := by
  have F0 := (Fr.refl w).alloc (.cells #[.slice none 0 0] 33)
  have A0 := wa_new w
  have h2 : ([] ++ numL 300) ++ numL (intN (-1)) = [172, 2, 1] := by
    rw [num300, show intN (-1) = 1 by rfl, numL_lt (by omega)]; rfl
  have H2 := Lib.hid h2
  clear h2
  go_enter Try.func11, Try.ntmps11
  go_wp2_with fail
  refine (num_any w.heap.size w.heap.size 300 0 0 none [] _ (by omega) A0 (by omega) (by simp)).mono ?_
  rintro e w1 ⟨⟨v, rfl⟩, a1, n1, cap1, A1, S1⟩
  have F1 := S1.fr A0 F0
  have hn1 : n1 = 2 := by rw [← A1.len, num300]; rfl
  clear A0 F0 S1
  go_wp2_with fail
  refine (wint_any w.heap.size w.heap.size n1 cap1 (-1) a1 _ _ (by omega) (by omega) A1 (by omega) F1.2).mono ?_
  rintro e w2 ⟨⟨v, rfl⟩, a2, n2, cap2, A2, S2⟩
  have F2 := S2.fr A1 F1
  rw [H2.out] at A2
  have hn2 : n2 = 3 := by rw [← A2.len]; rfl
  clear A1 F1 S2 hn1
  go_wp2_with fail
  refine (bytes_any w.heap.size w.heap.size n2 cap2 a2 _ _ A2 (by omega)).mono ?_
  rintro e w3 ⟨a3, n3, cap3, rfl, O3, hb3⟩
  have F3 := F2.step hb3
  have hn3 : n3 = 3 := by rw [← O3.1]; rfl
  subst hn3
  have O4 := O3.keep ((Below.refl _ w3).alloc (Nat.le_refl _) (.cells #[.int .u8 172, .int .u8 2, .int .u8 1] 5))
  have N4 := OB.new w3 [172, 2, 1] #[.int .u8 172, .int .u8 2, .int .u8 1] 3 (Nat.le_refl _) rfl rfl (by omega) rfl
  have F4 := F3.alloc (.cells #[.int .u8 172, .int .u8 2, .int .u8 1] 5)
  clear A2 F2 O3 F3 hb3 hn2
  go_wp2_with fail
  refine (bytes17_any a3 _ 3 cap3 3 [172, 2, 1] _ rfl (by omega) O4.bl N4.bl).mono ?_
  rintro e w5 ⟨rfl, hb5⟩
  have F5 := Lib.hid (F4.step hb5)
  clear O4 N4 F4 hb5
  go_wp2_with fail
  refine (sum_any none 0 0 [] _ rfl (by omega) (fun x hx => by cases hx) (fun i x hx => by simp at hx)).mono ?_
  rintro e w6 ⟨rfl, rfl⟩
  have e7 : ((sumL [] : Nat) : Int) = 7 := rfl
  rw [e7]
  go_wp2_with fail
  go_ret
  exact ⟨rfl, F5.out.1⟩
end Go.Proofs.Ytcfbbimahbhgjaa
