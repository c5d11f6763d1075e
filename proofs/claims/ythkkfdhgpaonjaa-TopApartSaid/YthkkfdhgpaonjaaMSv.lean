import Derived.Test.YthkkfdhgpaonjaaMCsrB
import Derived.Test.YthkkfdhgpaonjaaMSt
/- Layer 20: View, Lay, Data, Lets, Has of both. -/
namespace Go.Proofs.Ythkkfdhgpaonjaa
open Go.RowKit
set_option linter.unusedSimpArgs false
set_option linter.unusedVariables false

theorem mask256 : mask19 256 = 786722 := by decide +kernel
def viewM : Nat := 8590721314
def viewOf (x : Nat) : Nat := x &&& viewM
theorem view_or : bits BinOp.or IntKind.u64 786722 8589934592 = 8590721314 := by decide +kernel
theorem view_and (x : Nat) (hx : x < 18446744073709551616) : bits BinOp.and IntKind.u64 (x : Int) 8590721314 = ((viewOf x : Nat) : Int) := u64_and_nat x 8590721314 hx (by omega)

theorem view_any (x : Nat) (w : World) (hx : x < 18446744073709551616) :
    Calls Try.prog 70 #[.int .u64 (x : Int)] w fun e w' => e = .returned (.int .u64 (viewOf x : Nat)) ∧ Below w.heap.size w w' := by
  have h1 := view_or
  have h2 := view_and x hx
  have HM := Lib.hid mask256
  go_enter Try.func70, Try.ntmps70
  go_wp2_with fail
  refine (mask_any 256 _).mono ?_
  rw [HM.out]
  rintro e w1 ⟨rfl, hb1⟩
  go_wp2
  go_ret
  exact ⟨rfl, hb1⟩

theorem lay_any (x v : Nat) (w : World) (hx : x < 18446744073709551616) (hv : v < 18446744073709551616) :
    Calls Try.prog 91 #[.int .u64 (x : Int), .int .u64 (v : Int)] w fun e w' => e = .returned (.int .u64 (legalOf 256 x v : Nat)) ∧ Below w.heap.size w w' := by
  go_enter Try.func91, Try.ntmps91
  go_wp2_with fail
  refine (legal_any 256 x v _ hx hv).mono ?_
  rintro e w1 ⟨rfl, hb1⟩
  go_wp2
  go_ret
  exact ⟨rfl, hb1⟩
theorem rlay_any (x v : Nat) (w : World) (hx : x < 18446744073709551616) (hv : v < 18446744073709551616) :
    Calls Try.prog 113 #[.int .u64 (x : Int), .int .u64 (v : Int)] w fun e w' => e = .returned (.int .u64 (legalOf 256 x v : Nat)) ∧ Below w.heap.size w w' := by
  go_enter Try.func113, Try.ntmps113
  go_wp2_with fail
  refine (rlegal_any 256 x v _ hx hv).mono ?_
  rintro e w1 ⟨rfl, hb1⟩
  go_wp2
  go_ret
  exact ⟨rfl, hb1⟩

def letsOf (x : Nat) (p t : Int) : Bool :=
  if t = 3 then decide (p < 3) || (decide (p = 3) && x.testBit 3) else if t = 1 then decide (p < 1) || (decide (p = 1) && x.testBit 1) else false

set_option maxHeartbeats 1000000 in
theorem lets_any (x : Nat) (p t : Int) (w : World) (hx : x < 18446744073709551616) :
    Calls Try.prog 71 #[.int .u64 (x : Int), .int .i64 p, .int .i64 t] w fun e w' => e = .returned (.bool (letsOf x p t)) ∧ w = w' := by
  by_cases h3 : t = 3
  · subst h3
    by_cases hl : p < 3
    · have H : Hid (letsOf x p 3 = true) := by show _ = _; unfold letsOf; simp [hl]
      go_enter Try.func71, Try.ntmps71
      go_wp2
      go_ret
      exact ⟨by rw [H.out]; rfl, rfl⟩
    · by_cases he : p = 3
      · subst he
        cases hb : x.testBit 3
        all_goals
          have H : Hid (letsOf x 3 3 = _) := (show letsOf x 3 3 = x.testBit 3 from by unfold letsOf; simp)
          rw [hb] at H
          have HB := Lib.hid hb
          clear hb
          go_enter Try.func71, Try.ntmps71
          go_wp2_with fail
          refine (bit1_any x 3 _ hx (by omega)).mono ?_
          rw [HB.out]
          rintro e w' ⟨rfl, rfl⟩
          go_wp2
          go_ret
          exact ⟨by rw [H.out]; rfl, rfl⟩
      · have H : Hid (letsOf x p 3 = false) := by show _ = _; unfold letsOf; simp [hl, he]
        have ne : (p == 3) = false := by simpa using he
        clear he
        go_enter Try.func71, Try.ntmps71
        go_wp2
        go_ret
        exact ⟨by rw [H.out]; rfl, rfl⟩
  · have n3 : (t == 3) = false := by simpa using h3
    by_cases h1 : t = 1
    · subst h1
      by_cases hl : p < 1
      · have H : Hid (letsOf x p 1 = true) := by show _ = _; unfold letsOf; simp [hl]
        go_enter Try.func71, Try.ntmps71
        go_wp2
        go_ret
        exact ⟨by rw [H.out]; rfl, rfl⟩
      · by_cases he : p = 1
        · subst he
          cases hb : x.testBit 1
          all_goals
            have H : Hid (letsOf x 1 1 = _) := (show letsOf x 1 1 = x.testBit 1 from by unfold letsOf; simp)
            rw [hb] at H
            have HB := Lib.hid hb
            clear hb
            go_enter Try.func71, Try.ntmps71
            go_wp2_with fail
            refine (bit1_any x 1 _ hx (by omega)).mono ?_
            rw [HB.out]
            rintro e w' ⟨rfl, rfl⟩
            go_wp2
            go_ret
            exact ⟨by rw [H.out]; rfl, rfl⟩
        · have H : Hid (letsOf x p 1 = false) := by show _ = _; unfold letsOf; simp [hl, he]
          have ne : (p == 1) = false := by simpa using he
          clear he
          go_enter Try.func71, Try.ntmps71
          go_wp2
          go_ret
          exact ⟨by rw [H.out]; rfl, rfl⟩
    · have n1 : (t == 1) = false := by simpa using h1
      have H : Hid (letsOf x p t = false) := by show _ = _; unfold letsOf; rw [if_neg h3, if_neg h1]
      clear h3 h1
      go_enter Try.func71, Try.ntmps71
      go_wp2
      go_ret
      exact ⟨by rw [H.out]; rfl, rfl⟩

set_option maxHeartbeats 1000000 in
theorem rlets_any (x : Nat) (p t : Int) (w : World) (hx : x < 18446744073709551616) :
    Calls Try.prog 94 #[.int .u64 (x : Int), .int .i64 p, .int .i64 t] w fun e w' => e = .returned (.bool (letsOf x p t)) ∧ w = w' := by
  by_cases h3 : t = 3
  · subst h3
    by_cases hl : p < 3
    · have H : Hid (letsOf x p 3 = true) := by show _ = _; unfold letsOf; simp [hl]
      go_enter Try.func94, Try.ntmps94
      go_wp2
      go_ret
      exact ⟨by rw [H.out]; rfl, rfl⟩
    · by_cases he : p = 3
      · subst he
        cases hb : x.testBit 3
        all_goals
          have H : Hid (letsOf x 3 3 = _) := (show letsOf x 3 3 = x.testBit 3 from by unfold letsOf; simp)
          rw [hb] at H
          have HB := Lib.hid hb
          clear hb
          go_enter Try.func94, Try.ntmps94
          go_wp2_with fail
          refine (get_at (c := 3) (by omega) at_mie x hx _).mono ?_
          rw [HB.out]
          rintro e w' ⟨rfl, rfl⟩
          go_wp2
          go_ret
          exact ⟨by rw [H.out]; rfl, rfl⟩
      · have H : Hid (letsOf x p 3 = false) := by show _ = _; unfold letsOf; simp [hl, he]
        have ne : (p == 3) = false := by simpa using he
        clear he
        go_enter Try.func94, Try.ntmps94
        go_wp2
        go_ret
        exact ⟨by rw [H.out]; rfl, rfl⟩
  · have n3 : (t == 3) = false := by simpa using h3
    by_cases h1 : t = 1
    · subst h1
      by_cases hl : p < 1
      · have H : Hid (letsOf x p 1 = true) := by show _ = _; unfold letsOf; simp [hl]
        go_enter Try.func94, Try.ntmps94
        go_wp2
        go_ret
        exact ⟨by rw [H.out]; rfl, rfl⟩
      · by_cases he : p = 1
        · subst he
          cases hb : x.testBit 1
          all_goals
            have H : Hid (letsOf x 1 1 = _) := (show letsOf x 1 1 = x.testBit 1 from by unfold letsOf; simp)
            rw [hb] at H
            have HB := Lib.hid hb
            clear hb
            go_enter Try.func94, Try.ntmps94
            go_wp2_with fail
            refine (get_at (c := 1) (by omega) at_sie x hx _).mono ?_
            rw [HB.out]
            rintro e w' ⟨rfl, rfl⟩
            go_wp2
            go_ret
            exact ⟨by rw [H.out]; rfl, rfl⟩
        · have H : Hid (letsOf x p 1 = false) := by show _ = _; unfold letsOf; simp [hl, he]
          have ne : (p == 1) = false := by simpa using he
          clear he
          go_enter Try.func94, Try.ntmps94
          go_wp2
          go_ret
          exact ⟨by rw [H.out]; rfl, rfl⟩
    · have n1 : (t == 1) = false := by simpa using h1
      have H : Hid (letsOf x p t = false) := by show _ = _; unfold letsOf; rw [if_neg h3, if_neg h1]
      clear h3 h1
      go_enter Try.func94, Try.ntmps94
      go_wp2
      go_ret
      exact ⟨by rw [H.out]; rfl, rfl⟩

def hasOf (x : Nat) (l : List UInt8) : Bool := if atOf l = -1 then false else x.testBit (atOf l).toNat
theorem bit1_int (x : Nat) (k : Int) (w : World) (hx : x < 18446744073709551616) (h0 : 0 ≤ k) (hk : k < 64) :
    Calls Try.prog 107 #[.int .u64 (x : Int), .int .u64 k] w fun e w' => e = .returned (.bool (x.testBit k.toNat)) ∧ w = w' := by
  obtain ⟨n, rfl⟩ := Int.eq_ofNat_of_zero_le h0
  exact bit1_any x n w hx (by omega)

set_option maxRecDepth 100000 in
set_option maxHeartbeats 4000000 in
theorem has_any (x : Nat) (s : ByteArray) (w : World) (hx : x < 18446744073709551616) :
    Calls Try.prog 97 #[.int .u64 (x : Int), .string s] w fun e w' => e = .returned (.bool (hasOf x s.toList)) ∧ w = w' := by
  go_enter Try.func97, Try.ntmps97
  go_wp2_with (go_at_call 107; refine (bit1_int x _ _ hx (by decide) (by decide)).mono ?_; rintro e w' ⟨rfl, rfl⟩)
  all_goals
    go_ret
    refine ⟨?_, rfl⟩
    unfold hasOf atOf
    simp only [*]
    rfl

theorem get_gen (x : Nat) (s : ByteArray) (w : World) (hx : x < 18446744073709551616) :
    Calls Try.prog 93 #[.int .u64 (x : Int), .string s] w fun e w' => e = .returned (.int .u64 (bitN x (atOf s.toList) : Nat)) ∧ w = w' := by
  go_enter Try.func93, Try.ntmps93
  go_wp2_with fail
  refine (at_any s _).mono ?_
  rintro e w' ⟨rfl, rfl⟩
  go_wp2_with fail
  refine (bit_any x _ _ hx).mono ?_
  rintro e w' ⟨rfl, rfl⟩
  go_wp2
  go_ret
  exact ⟨rfl, rfl⟩
theorem atOf_bound (l : List UInt8) : atOf l = -1 ∨ (0 ≤ atOf l ∧ atOf l < 64) := by
  unfold atOf
  repeat (split; right; decide)
  left; rfl
theorem has_get (x : Nat) (l : List UInt8) (hx : x < 18446744073709551616) : (((bitN x (atOf l) : Nat) : Int) == 1) = hasOf x l := by
  unfold hasOf
  rcases atOf_bound l with h | ⟨h0, h1⟩
  · rw [h, if_pos rfl]; unfold bitN; rfl
  · rw [if_neg (by omega), bitN_big x hx _ h0]
    cases x.testBit (atOf l).toNat <;> rfl

def five : List (ByteArray × Nat) := [(⟨#[115, 105, 101]⟩, 1), (⟨#[115, 112, 105, 101]⟩, 5), (⟨#[115, 112, 112]⟩, 8), (⟨#[115, 117, 109]⟩, 18), (⟨#[109, 120, 114]⟩, 19)]
def fiveCells : Array Value := (five.map fun r => Value.string r.1).toArray
theorem five_at (k : Nat) (hk : k < 5) : (∀ w, Calls Try.prog 118 #[.string (five.getD k default).1] w fun e w' => e = .returned (.int .i64 ((five.getD k default).2 : Int)) ∧ w = w') ∧ (five.getD k default).2 < 64 ∧ fiveCells[k]? = some (.string (five.getD k default).1) := by
  match k, hk with
  | 0, _ => exact ⟨at_sie, by decide, rfl⟩
  | 1, _ => exact ⟨at_spie, by decide, rfl⟩
  | 2, _ => exact ⟨at_spp, by decide, rfl⟩
  | 3, _ => exact ⟨at_sum, by decide, rfl⟩
  | 4, _ => exact ⟨at_mxr, by decide, rfl⟩
/-- What is gathered of a word when k names are gone through. -/
def viewG (x k : Nat) : Nat := W64 (fun i => (five.take k).any (fun r => r.2 == i) && x.testBit i)
theorem viewG_step (x k : Nat) (hk : k < 5) : setB (viewG x k) (five.getD k default).2 (x.testBit (five.getD k default).2) = viewG x (k + 1) := by
  refine W64_congr fun i hi => ?_
  unfold viewG
  rw [mkW_bit]
  have e : five.take (k + 1) = five.take k ++ [five.getD k default] := by
    have : k < five.length := hk
    rw [List.take_succ_eq_append_getElem this]
    simp [List.getD_eq_getElem?_getD, this]
  rw [e, List.any_append]
  generalize five.getD k default = r
  generalize (five.take k).any (fun r => r.2 == i) = a
  by_cases h : i = r.2
  · subst h; simp
  · have : (r.2 == i) = false := by simp; omega
    simp [h, this, hi]
theorem viewG_zero (x : Nat) : viewG x 0 = 0 := by
  apply Nat.eq_of_testBit_eq
  intro i
  unfold viewG
  rw [mkW_bit]
  simp
theorem viewG_end (x : Nat) (hx : x < 18446744073709551616) : W64 (putF (viewG x 5) (bitN x 33) 33 1) = viewOf x := by
  symm
  refine W64_eq (Nat.lt_of_le_of_lt Nat.and_le_left hx) fun i hi => ?_
  unfold viewOf
  rw [Nat.testBit_and]
  have hm : viewM.testBit i = (decide (i = 1) || decide (i = 5) || decide (i = 8) || decide (i = 18) || decide (i = 19) || decide (i = 33)) := by
    have : ∀ j : Fin 64, viewM.testBit j.1 = (decide (j.1 = 1) || decide (j.1 = 5) || decide (j.1 = 8) || decide (j.1 = 18) || decide (j.1 = 19) || decide (j.1 = 33)) := by decide +kernel
    exact this ⟨i, hi⟩
  rw [hm]
  unfold putF inB
  by_cases h : i = 33
  · subst h
    rw [bitN_big x hx _ (by omega)]
    cases hb : x.testBit (Int.toNat 33) <;> simp at hb <;> simp [hb]
  · rw [if_neg (by simp; omega)]
    unfold viewG
    rw [mkW_bit]
    simp only [five, List.take, List.any_cons, List.any_nil, h, hi, decide_true, decide_false, Bool.true_and, Bool.or_false]
    have c1 : ∀ a : Nat, (a == i) = decide (i = a) := fun a => by rw [Bool.eq_iff_iff]; simp; omega
    rw [c1, c1, c1, c1, c1]
    rw [Bool.and_comm]
    congr 1
    cases decide (i = 1) <;> cases decide (i = 5) <;> cases decide (i = 8) <;> cases decide (i = 18) <;> cases decide (i = 19) <;> rfl
end Go.Proofs.Ythkkfdhgpaonjaa
/- Layer 20: the document's View; StatusViews. -/
namespace Go.Proofs.Ythkkfdhgpaonjaa
open Go.RowKit
set_option linter.unusedSimpArgs false
set_option linter.unusedVariables false

theorem viewG_lt (x k : Nat) : viewG x k < 18446744073709551616 := W64_lt _
theorem heldk {w w' : World} {B b : Nat} {o : Obj} {w0 : World} {a0 : Addr} {v0 : Value} (hb : Below w.heap.size w w') (h : (Fr B w0 w ∧ w.heap[b]? = some o) ∧ w.cell? a0 = some v0) : (Fr B w0 w' ∧ w'.heap[b]? = some o) ∧ w'.cell? a0 = some v0 :=
  ⟨⟨h.1.1.step hb, keepB hb h.1.2⟩, hcell hb h.2⟩

set_option maxRecDepth 100000 in
set_option maxHeartbeats 4000000 in
theorem rview_any (x : Nat) (w : World) (hx : x < 18446744073709551616) :
    Calls Try.prog 49 #[.int .u64 (x : Int)] w fun e w' => e = .returned (.int .u64 (viewOf x : Nat)) ∧ Below w.heap.size w w' := by
  have HE := Lib.hid (viewG_end x hx)
  have b33 : IntB 33 := by unfold IntB; omega
  have b1 : IntB 1 := by unfold IntB; omega
  go_enter Try.func49, Try.ntmps49
  go_wp2_with fail
  obtain ⟨w1, hw1⟩ : ∃ w1, w1 = w.alloc (.cells fiveCells 9) := ⟨_, rfl⟩
  have hf : Fr w.heap.size w w1 := by rw [hw1]; exact (Fr.refl w).alloc _
  have hh : w1.heap[w.heap.size]? = some (.cells fiveCells 9) := by rw [hw1]; exact heap_alloc_new _ _
  simp only [fiveCells, five, List.map_cons, List.map_nil] at hw1
  rw [← hw1]
  clear hw1
  go_loopw [3, 5] (fun y i wr => ∃ k : Nat, k ≤ 5 ∧ i = .int .i64 k ∧ y = .int .u64 (viewG x k : Nat) ∧ Fr w.heap.size w wr ∧ wr.heap[w.heap.size]? = some (.cells fiveCells 9)) (fun _ i _ => 5 - (intOf i).toNat)
  case atStart => exact ⟨0, by omega, rfl, by rw [viewG_zero]; rfl, hf, hh⟩
  case round =>
    obtain ⟨k, hk, rfl, rfl, hfr, hhr⟩ := hrel
    by_cases hlt : k < 5
    · obtain ⟨hat, hc64, hcell⟩ := five_at k hlt
      have HV := viewG_step x k hlt
      have hcw : wr.cell? ⟨w.heap.size, k, none⟩ = some (.string (five.getD k default).1) := by rw [cell_at hhr]; exact hcell
      generalize five.getD k default = r at hat hc64 hcell HV hcw
      obtain ⟨nm, c⟩ := r
      have HAT := Lib.hid hat
      have HHV := Lib.hid HV
      clear hat HV hcell
      go_wp2_with fail
      go_region_held3 (fun w' => (Fr w.heap.size w w' ∧ w'.heap[w.heap.size]? = some (.cells fiveCells 9)) ∧ w'.cell? ⟨w.heap.size, k, none⟩ = some (.string nm))
        (first | exact heldk ‹_› ‹_› | exact ⟨⟨hfr.drew, hhr⟩, hcw⟩ | go_keep)
        (first
          | (go_at_call 93; refine (get_at hc64 HAT.out x hx _).mono ?_; rintro e w' ⟨rfl, rfl⟩)
          | (go_at_call 92; refine (put_at hc64 HAT.out (viewG x k) (viewG_lt x k) _ (x.testBit c) rfl _).mono ?_; rintro e w' ⟨rfl, hb⟩))
      rename_i w2 hS
      obtain ⟨⟨hfr2, hhr2⟩, -⟩ := hS
      go_wp2
      go_roundw
      case rel => exact ⟨k + 1, by omega, by go_num, by rw [← HHV.out], hfr2, hhr2⟩
      case measure => simp [intOf]; omega
    · obtain rfl : k = 5 := by omega
      obtain ⟨y, hy⟩ : ∃ y, bitN x 33 = y := ⟨_, rfl⟩
      have hyl : y < 18446744073709551616 := by rw [← hy]; unfold bitN; split <;> omega
      rw [hy] at HE
      have HY := Lib.hid hy
      clear hy
      go_wp2_with fail
      refine (bit_v HY.out _ hx).mono ?_
      rintro e w' ⟨rfl, rfl⟩
      go_wp2_with fail
      refine (put_any (viewG x 5) y 33 1 _ (viewG_lt x 5) hyl b33 b1).mono ?_
      rw [HE.out]
      rintro e w2 ⟨rfl, hb2⟩
      go_wp2
      go_ret
      exact ⟨rfl, (hfr.step hb2).1⟩

end Go.Proofs.Ythkkfdhgpaonjaa
/- StatusBack: behind a trap and its return the privilege is the one that it came from. -/
namespace Go.Proofs.Ythkkfdhgpaonjaa
open Go.RowKit
set_option linter.unusedSimpArgs false
set_option linter.unusedVariables false

theorem setMpp_bit (x p i : Nat) (hp : p < 4) : (setMpp x p).testBit i = (decide (i < 64) && if i = 11 then p.testBit 0 else if i = 12 then p.testBit 1 else x.testBit i) := by
  unfold setMpp
  rw [mkW_bit]
  by_cases hi : i < 64
  · simp only [hi, decide_true, Bool.true_and]
    unfold putF inB
    by_cases h1 : i = 11
    · subst h1; simp
    · by_cases h2 : i = 12
      · subst h2; simp
      · rw [if_neg h1, if_neg h2, if_neg (by simp; omega)]
  · simp [hi]

theorem back_m (x p : Nat) (hp : p = 0 ∨ p = 1 ∨ p = 3) :
    mppOf (enterM x p) = p ∧ (enterM x p).testBit 3 = false ∧ (leaveOf (enterM x p) 3).testBit 3 = x.testBit 3 := by
  have b : ∀ i, i < 64 → (enterM x p).testBit i = if i = 11 then p.testBit 0 else if i = 12 then p.testBit 1 else if i = 3 then false else if i = 7 then x.testBit 3 else x.testBit i := by
    intro i hi
    unfold enterM
    rw [setMpp_bit _ _ _ (by omega)]
    simp only [hi, decide_true, Bool.true_and]
    by_cases h1 : i = 11
    · rw [if_pos h1, if_pos h1]
    · by_cases h2 : i = 12
      · rw [if_neg h1, if_pos h2, if_neg h1, if_pos h2]
      · rw [if_neg h1, if_neg h2, if_neg h1, if_neg h2, setB_bit, setB_bit]
        simp [hi]
  refine ⟨?_, ?_, ?_⟩
  · unfold mppOf
    rw [b 12 (by omega), b 11 (by omega)]
    rcases hp with rfl | rfl | rfl <;> rfl
  · rw [b 3 (by omega)]; simp
  · have hl : (leaveM (enterM x p)).testBit 3 = x.testBit 3 := by
      unfold leaveM
      rw [setMpp_bit _ _ _ (by omega), setB_bit, setB_bit, b 7 (by omega)]
      simp
    unfold leaveOf
    rw [if_pos rfl]
    split
    · exact hl
    · rw [setB_bit, hl]; simp

theorem back_s (x : Nat) (q : Bool) : (enterS x q).testBit 8 = q ∧ (enterS x q).testBit 1 = false ∧ (leaveOf (enterS x q) 1).testBit 1 = x.testBit 1 := by
  unfold enterS
  refine ⟨?_, ?_, ?_⟩
  · rw [setB_bit]; simp
  · rw [setB_bit, setB_bit]; simp
  · unfold leaveOf leaveS
    rw [if_neg (by omega), if_pos rfl]
    simp only [setB_bit]
    simp

theorem has_mie (x : Nat) : hasOf x [109, 105, 101] = x.testBit 3 := rfl
theorem has_sie (x : Nat) : hasOf x [115, 105, 101] = x.testBit 1 := rfl

theorem viewM_bit (i : Nat) (hi : i < 64) : viewM.testBit i = (Nat.testBit 786722 i || decide (i = 33)) := by
  have : ∀ j : Fin 64, viewM.testBit j.1 = (Nat.testBit 786722 j.1 || decide (j.1 = 33)) := by decide +kernel
  exact this ⟨i, hi⟩

def allOnes : Nat := 18446744073709551615
def bit33 : Nat := 8589934592
theorem bit33_bit (i : Nat) (hi : i < 64) : bit33.testBit i = decide (i = 33) := by
  have : ∀ j : Fin 64, bit33.testBit j.1 = decide (j.1 = 33) := by decide +kernel
  exact this ⟨i, hi⟩
theorem ones_bit (i : Nat) (hi : i < 64) : allOnes.testBit i = true := by
  have : ∀ j : Fin 64, allOnes.testBit j.1 = true := by decide +kernel
  exact this ⟨i, hi⟩
theorem viewOf_lt (y : Nat) (hy : y < 18446744073709551616) : viewOf y < 18446744073709551616 := Nat.lt_of_le_of_lt Nat.and_le_left hy
theorem legal256 (x v : Nat) : legalOf 256 x v = blend x v 786722 := by
  unfold legalOf
  rw [if_neg (by omega), if_neg (by omega), mask256]
theorem blend_bit (x v m i : Nat) (hi : i < 64) : (blend x v m).testBit i = if m.testBit i then v.testBit i else x.testBit i := by
  unfold blend
  rw [mkW_bit]
  simp [hi]
theorem bits_ext {a b : Nat} (ha : a < 18446744073709551616) (hb : b < 18446744073709551616) (h : ∀ i, i < 64 → a.testBit i = b.testBit i) : a = b := by
  apply Nat.eq_of_testBit_eq
  intro i
  by_cases hi : i < 64
  · exact h i hi
  · rw [tb_big a ha i (by omega), tb_big b hb i (by omega)]
theorem view_bit (y i : Nat) : (viewOf y).testBit i = (y.testBit i && viewM.testBit i) := by
  unfold viewOf
  rw [Nat.testBit_and]
theorem view_bit' (y i : Nat) (hi : i < 64) : (viewOf y).testBit i = (y.testBit i && (Nat.testBit 786722 i || decide (i = 33))) := by
  rw [view_bit, viewM_bit i hi]
theorem legal_bit (x v i : Nat) (hi : i < 64) : (legalOf 256 x v).testBit i = (if Nat.testBit 786722 i = true then v.testBit i else x.testBit i) := by
  rw [legal256]
  exact blend_bit _ _ _ _ hi
theorem lay_bool (a b c m : Bool) : ((if m = true then a else b) && (m || c) && !c) = (a && (m || c) && !c) := by cases a <;> cases b <;> cases c <;> cases m <;> rfl
theorem lay_bool2 (a b c m : Bool) : ((if m = true then a else b) && !(true && (m || c))) = (b && !(true && (m || c))) := by cases a <;> cases b <;> cases c <;> cases m <;> rfl
theorem lay1 (x v : Nat) (hx : x < 18446744073709551616) (hv : v < 18446744073709551616) (m33 : Nat) (hm : m33 < 18446744073709551616) (h33 : ∀ i, i < 64 → m33.testBit i = decide (i = 33)) :
    viewOf (legalOf 256 x v) &&& (18446744073709551615 - m33) = viewOf v &&& (18446744073709551615 - m33) := by
  have hl := legalOf_lt 256 x v hx
  refine bits_ext (Nat.lt_of_le_of_lt Nat.and_le_left (viewOf_lt _ hl)) (Nat.lt_of_le_of_lt Nat.and_le_left (viewOf_lt _ hv)) fun i hi => ?_
  rw [Nat.testBit_and, Nat.testBit_and, inv_bit _ i hm hi, h33 i hi]
  rw [view_bit' _ _ hi, view_bit' _ _ hi, legal_bit _ _ _ hi]
  exact lay_bool _ _ _ _
theorem lay2 (x v : Nat) (hx : x < 18446744073709551616) (hv : v < 18446744073709551616) (a1 : Nat) (ha : a1 < 18446744073709551616) (h1 : ∀ i, i < 64 → a1.testBit i = true) :
    legalOf 256 x v &&& (18446744073709551615 - viewOf a1) = x &&& (18446744073709551615 - viewOf a1) := by
  have hl := legalOf_lt 256 x v hx
  refine bits_ext (Nat.lt_of_le_of_lt Nat.and_le_left hl) (Nat.lt_of_le_of_lt Nat.and_le_left hx) fun i hi => ?_
  rw [Nat.testBit_and, Nat.testBit_and, inv_bit _ i (viewOf_lt _ ha) hi]
  rw [view_bit' _ _ hi, h1 i hi, legal_bit _ _ _ hi]
  exact lay_bool2 _ _ _ _
theorem lay1' (x v : Nat) (hx : x < 18446744073709551616) (hv : v < 18446744073709551616) :
    bits BinOp.andNot IntKind.u64 ((viewOf (legalOf 256 x v) : Nat) : Int) ((bit33 : Nat) : Int) = bits BinOp.andNot IntKind.u64 ((viewOf v : Nat) : Int) ((bit33 : Nat) : Int) := by
  have h33 : bit33 < 18446744073709551616 := by unfold bit33; omega
  rw [u64_andNot_nat _ _ (viewOf_lt _ (legalOf_lt 256 x v hx)) h33, u64_andNot_nat _ _ (viewOf_lt _ hv) h33, lay1 x v hx hv bit33 h33 bit33_bit]
theorem lay2' (x v : Nat) (hx : x < 18446744073709551616) (hv : v < 18446744073709551616) :
    bits BinOp.andNot IntKind.u64 ((legalOf 256 x v : Nat) : Int) ((viewOf allOnes : Nat) : Int) = bits BinOp.andNot IntKind.u64 (x : Int) ((viewOf allOnes : Nat) : Int) := by
  have h1 : allOnes < 18446744073709551616 := by unfold allOnes; omega
  rw [u64_andNot_nat _ _ (legalOf_lt 256 x v hx) (viewOf_lt _ h1), u64_andNot_nat _ _ hx (viewOf_lt _ h1), lay2 x v hx hv allOnes h1 ones_bit]
end Go.Proofs.Ythkkfdhgpaonjaa
