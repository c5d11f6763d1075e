/- Layer 20: View, Lay, Data, Lets, Has of both. -/
import Derived.Test.YthkkfdhgpaonjaaCsrC
import Derived.Test.YthkkfdhgpaonjaaStE
namespace Go.Proofs.Ythkkfdhgpaonjaa
open Go.RowKit
set_option linter.unusedSimpArgs false
set_option linter.unusedVariables false

theorem mask256 : mask19 256 = 786722 := by decide +kernel
def viewM : Nat := 8590721314
def viewOf (x : Nat) : Nat := x &&& viewM
theorem view_or : bits BinOp.or IntKind.u64 786722 8589934592 = 8590721314 := by decide +kernel
theorem view_and (x : Nat) (hx : x < 18446744073709551616) : bits BinOp.and IntKind.u64 (x : Int) 8590721314 = ((viewOf x : Nat) : Int) := u64_and_nat x 8590721314 hx (by omega)

theorem view_any (x : Nat) (w : World) (hx : x < 18446744073709551616) :
    Calls Try.prog 70 #[.int .u64 (x : Int)] w fun e w' => e = .returned (.int .u64 (viewOf x : Nat)) ∧ Below w.heap.size w w' := by
  have h1 := view_or
  have h2 := view_and x hx
  have HM := Lib.hid mask256
  go_enter Try.func70, Try.ntmps70
  go_wp2_with fail
  refine (mask_any 256 _).mono ?_
  rw [HM.out]
  rintro e w1 ⟨rfl, hb1⟩
  go_wp2
  go_ret
  exact ⟨rfl, hb1⟩

theorem lay_any (x v : Nat) (w : World) (hx : x < 18446744073709551616) (hv : v < 18446744073709551616) :
    Calls Try.prog 91 #[.int .u64 (x : Int), .int .u64 (v : Int)] w fun e w' => e = .returned (.int .u64 (legalOf 256 x v : Nat)) ∧ Below w.heap.size w w' := by
  go_enter Try.func91, Try.ntmps91
  go_wp2_with fail
  refine (legal_any 256 x v _ hx hv).mono ?_
  rintro e w1 ⟨rfl, hb1⟩
  go_wp2
  go_ret
  exact ⟨rfl, hb1⟩
theorem rlay_any (x v : Nat) (w : World) (hx : x < 18446744073709551616) (hv : v < 18446744073709551616) :
    Calls Try.prog 113 #[.int .u64 (x : Int), .int .u64 (v : Int)] w fun e w' => e = .returned (.int .u64 (legalOf 256 x v : Nat)) ∧ Below w.heap.size w w' := by
  go_enter Try.func113, Try.ntmps113
  go_wp2_with fail
  refine (rlegal_any 256 x v _ hx hv).mono ?_
  rintro e w1 ⟨rfl, hb1⟩
  go_wp2
  go_ret
  exact ⟨rfl, hb1⟩

def letsOf (x : Nat) (p t : Int) : Bool :=
  if t = 3 then decide (p < 3) || (decide (p = 3) && x.testBit 3) else if t = 1 then decide (p < 1) || (decide (p = 1) && x.testBit 1) else false

set_option maxHeartbeats 1000000 in
theorem lets_any (x : Nat) (p t : Int) (w : World) (hx : x < 18446744073709551616) :
    Calls Try.prog 71 #[.int .u64 (x : Int), .int .i64 p, .int .i64 t] w fun e w' => e = .returned (.bool (letsOf x p t)) ∧ w = w' := by
  by_cases h3 : t = 3
  · subst h3
    by_cases hl : p < 3
    · have H : Hid (letsOf x p 3 = true) := by show _ = _; unfold letsOf; simp [hl]
      go_enter Try.func71, Try.ntmps71
      go_wp2
      go_ret
      exact ⟨by rw [H.out]; rfl, rfl⟩
    · by_cases he : p = 3
      · subst he
        cases hb : x.testBit 3
        all_goals
          have H : Hid (letsOf x 3 3 = _) := (show letsOf x 3 3 = x.testBit 3 from by unfold letsOf; simp)
          rw [hb] at H
          have HB := Lib.hid hb
          clear hb
          go_enter Try.func71, Try.ntmps71
          go_wp2_with fail
          refine (bit1_any x 3 _ hx (by omega)).mono ?_
          rw [HB.out]
          rintro e w' ⟨rfl, rfl⟩
          go_wp2
          go_ret
          exact ⟨by rw [H.out]; rfl, rfl⟩
      · have H : Hid (letsOf x p 3 = false) := by show _ = _; unfold letsOf; simp [hl, he]
        have ne : (p == 3) = false := by simpa using he
        clear he
        go_enter Try.func71, Try.ntmps71
        go_wp2
        go_ret
        exact ⟨by rw [H.out]; rfl, rfl⟩
  · have n3 : (t == 3) = false := by simpa using h3
    by_cases h1 : t = 1
    · subst h1
      by_cases hl : p < 1
      · have H : Hid (letsOf x p 1 = true) := by show _ = _; unfold letsOf; simp [hl]
        go_enter Try.func71, Try.ntmps71
        go_wp2
        go_ret
        exact ⟨by rw [H.out]; rfl, rfl⟩
      · by_cases he : p = 1
        · subst he
          cases hb : x.testBit 1
          all_goals
            have H : Hid (letsOf x 1 1 = _) := (show letsOf x 1 1 = x.testBit 1 from by unfold letsOf; simp)
            rw [hb] at H
            have HB := Lib.hid hb
            clear hb
            go_enter Try.func71, Try.ntmps71
            go_wp2_with fail
            refine (bit1_any x 1 _ hx (by omega)).mono ?_
            rw [HB.out]
            rintro e w' ⟨rfl, rfl⟩
            go_wp2
            go_ret
            exact ⟨by rw [H.out]; rfl, rfl⟩
        · have H : Hid (letsOf x p 1 = false) := by show _ = _; unfold letsOf; simp [hl, he]
          have ne : (p == 1) = false := by simpa using he
          clear he
          go_enter Try.func71, Try.ntmps71
          go_wp2
          go_ret
          exact ⟨by rw [H.out]; rfl, rfl⟩
    · have n1 : (t == 1) = false := by simpa using h1
      have H : Hid (letsOf x p t = false) := by show _ = _; unfold letsOf; rw [if_neg h3, if_neg h1]
      clear h3 h1
      go_enter Try.func71, Try.ntmps71
      go_wp2
      go_ret
      exact ⟨by rw [H.out]; rfl, rfl⟩

set_option maxHeartbeats 1000000 in
theorem rlets_any (x : Nat) (p t : Int) (w : World) (hx : x < 18446744073709551616) :
    Calls Try.prog 94 #[.int .u64 (x : Int), .int .i64 p, .int .i64 t] w fun e w' => e = .returned (.bool (letsOf x p t)) ∧ w = w' := by
  by_cases h3 : t = 3
  · subst h3
    by_cases hl : p < 3
    · have H : Hid (letsOf x p 3 = true) := by show _ = _; unfold letsOf; simp [hl]
      go_enter Try.func94, Try.ntmps94
      go_wp2
      go_ret
      exact ⟨by rw [H.out]; rfl, rfl⟩
    · by_cases he : p = 3
      · subst he
        cases hb : x.testBit 3
        all_goals
          have H : Hid (letsOf x 3 3 = _) := (show letsOf x 3 3 = x.testBit 3 from by unfold letsOf; simp)
          rw [hb] at H
          have HB := Lib.hid hb
          clear hb
          go_enter Try.func94, Try.ntmps94
          go_wp2_with fail
          refine (get_at (c := 3) (by omega) at_mie x hx _).mono ?_
          rw [HB.out]
          rintro e w' ⟨rfl, rfl⟩
          go_wp2
          go_ret
          exact ⟨by rw [H.out]; rfl, rfl⟩
      · have H : Hid (letsOf x p 3 = false) := by show _ = _; unfold letsOf; simp [hl, he]
        have ne : (p == 3) = false := by simpa using he
        clear he
        go_enter Try.func94, Try.ntmps94
        go_wp2
        go_ret
        exact ⟨by rw [H.out]; rfl, rfl⟩
  · have n3 : (t == 3) = false := by simpa using h3
    by_cases h1 : t = 1
    · subst h1
      by_cases hl : p < 1
      · have H : Hid (letsOf x p 1 = true) := by show _ = _; unfold letsOf; simp [hl]
        go_enter Try.func94, Try.ntmps94
        go_wp2
        go_ret
        exact ⟨by rw [H.out]; rfl, rfl⟩
      · by_cases he : p = 1
        · subst he
          cases hb : x.testBit 1
          all_goals
            have H : Hid (letsOf x 1 1 = _) := (show letsOf x 1 1 = x.testBit 1 from by unfold letsOf; simp)
            rw [hb] at H
            have HB := Lib.hid hb
            clear hb
            go_enter Try.func94, Try.ntmps94
            go_wp2_with fail
            refine (get_at (c := 1) (by omega) at_sie x hx _).mono ?_
            rw [HB.out]
            rintro e w' ⟨rfl, rfl⟩
            go_wp2
            go_ret
            exact ⟨by rw [H.out]; rfl, rfl⟩
        · have H : Hid (letsOf x p 1 = false) := by show _ = _; unfold letsOf; simp [hl, he]
          have ne : (p == 1) = false := by simpa using he
          clear he
          go_enter Try.func94, Try.ntmps94
          go_wp2
          go_ret
          exact ⟨by rw [H.out]; rfl, rfl⟩
    · have n1 : (t == 1) = false := by simpa using h1
      have H : Hid (letsOf x p t = false) := by show _ = _; unfold letsOf; rw [if_neg h3, if_neg h1]
      clear h3 h1
      go_enter Try.func94, Try.ntmps94
      go_wp2
      go_ret
      exact ⟨by rw [H.out]; rfl, rfl⟩

def hasOf (x : Nat) (l : List UInt8) : Bool := if atOf l = -1 then false else x.testBit (atOf l).toNat
theorem bit1_int (x : Nat) (k : Int) (w : World) (hx : x < 18446744073709551616) (h0 : 0 ≤ k) (hk : k < 64) :
    Calls Try.prog 107 #[.int .u64 (x : Int), .int .u64 k] w fun e w' => e = .returned (.bool (x.testBit k.toNat)) ∧ w = w' := by
  obtain ⟨n, rfl⟩ := Int.eq_ofNat_of_zero_le h0
  exact bit1_any x n w hx (by omega)

set_option maxRecDepth 100000 in
set_option maxHeartbeats 4000000 in
theorem has_any (x : Nat) (s : ByteArray) (w : World) (hx : x < 18446744073709551616) :
    Calls Try.prog 97 #[.int .u64 (x : Int), .string s] w fun e w' => e = .returned (.bool (hasOf x s.toList)) ∧ w = w' := by
  go_enter Try.func97, Try.ntmps97
  go_wp2_with (go_at_call 107; refine (bit1_int x _ _ hx (by decide) (by decide)).mono ?_; rintro e w' ⟨rfl, rfl⟩)
  all_goals
    go_ret
    refine ⟨?_, rfl⟩
    unfold hasOf atOf
    simp only [*]
    rfl

theorem get_gen (x : Nat) (s : ByteArray) (w : World) (hx : x < 18446744073709551616) :
    Calls Try.prog 93 #[.int .u64 (x : Int), .string s] w fun e w' => e = .returned (.int .u64 (bitN x (atOf s.toList) : Nat)) ∧ w = w' := by
  go_enter Try.func93, Try.ntmps93
  go_wp2_with fail
  refine (at_any s _).mono ?_
  rintro e w' ⟨rfl, rfl⟩
  go_wp2_with fail
  refine (bit_any x _ _ hx).mono ?_
  rintro e w' ⟨rfl, rfl⟩
  go_wp2
  go_ret
  exact ⟨rfl, rfl⟩
theorem atOf_bound (l : List UInt8) : atOf l = -1 ∨ (0 ≤ atOf l ∧ atOf l < 64) := by
  unfold atOf
  repeat (split; right; decide)
  left; rfl
theorem has_get (x : Nat) (l : List UInt8) (hx : x < 18446744073709551616) : (((bitN x (atOf l) : Nat) : Int) == 1) = hasOf x l := by
  unfold hasOf
  rcases atOf_bound l with h | ⟨h0, h1⟩
  · rw [h, if_pos rfl]; unfold bitN; rfl
  · rw [if_neg (by omega), bitN_big x hx _ h0]
    cases x.testBit (atOf l).toNat <;> rfl

def five : List (ByteArray × Nat) := [(⟨#[115, 105, 101]⟩, 1), (⟨#[115, 112, 105, 101]⟩, 5), (⟨#[115, 112, 112]⟩, 8), (⟨#[115, 117, 109]⟩, 18), (⟨#[109, 120, 114]⟩, 19)]
def fiveCells : Array Value := (five.map fun r => Value.string r.1).toArray
theorem five_at (k : Nat) (hk : k < 5) : (∀ w, Calls Try.prog 118 #[.string (five.getD k default).1] w fun e w' => e = .returned (.int .i64 ((five.getD k default).2 : Int)) ∧ w = w') ∧ (five.getD k default).2 < 64 ∧ fiveCells[k]? = some (.string (five.getD k default).1) := by
  match k, hk with
  | 0, _ => exact ⟨at_sie, by decide, rfl⟩
  | 1, _ => exact ⟨at_spie, by decide, rfl⟩
  | 2, _ => exact ⟨at_spp, by decide, rfl⟩
  | 3, _ => exact ⟨at_sum, by decide, rfl⟩
  | 4, _ => exact ⟨at_mxr, by decide, rfl⟩
/-- What is gathered of a word when k names are gone through. -/
def viewG (x k : Nat) : Nat := W64 (fun i => (five.take k).any (fun r => r.2 == i) && x.testBit i)
theorem viewG_step (x k : Nat) (hk : k < 5) : setB (viewG x k) (five.getD k default).2 (x.testBit (five.getD k default).2) = viewG x (k + 1) := by
  refine W64_congr fun i hi => ?_
  unfold viewG
  rw [mkW_bit]
  have e : five.take (k + 1) = five.take k ++ [five.getD k default] := by
    have : k < five.length := hk
    rw [List.take_succ_eq_append_getElem this]
    simp [List.getD_eq_getElem?_getD, this]
  rw [e, List.any_append]
  generalize five.getD k default = r
  generalize (five.take k).any (fun r => r.2 == i) = a
  by_cases h : i = r.2
  · subst h; simp
  · have : (r.2 == i) = false := by simp; omega
    simp [h, this, hi]
theorem viewG_zero (x : Nat) : viewG x 0 = 0 := by
  apply Nat.eq_of_testBit_eq
  intro i
  unfold viewG
  rw [mkW_bit]
  simp
theorem viewG_end (x : Nat) (hx : x < 18446744073709551616) : W64 (putF (viewG x 5) (bitN x 33) 33 1) = viewOf x := by
  symm
  refine W64_eq (Nat.lt_of_le_of_lt Nat.and_le_left hx) fun i hi => ?_
  unfold viewOf
  rw [Nat.testBit_and]
  have hm : viewM.testBit i = (decide (i = 1) || decide (i = 5) || decide (i = 8) || decide (i = 18) || decide (i = 19) || decide (i = 33)) := by
    have : ∀ j : Fin 64, viewM.testBit j.1 = (decide (j.1 = 1) || decide (j.1 = 5) || decide (j.1 = 8) || decide (j.1 = 18) || decide (j.1 = 19) || decide (j.1 = 33)) := by decide +kernel
    exact this ⟨i, hi⟩
  rw [hm]
  unfold putF inB
  by_cases h : i = 33
  · subst h
    rw [bitN_big x hx _ (by omega)]
    cases hb : x.testBit (Int.toNat 33) <;> simp at hb <;> simp [hb]
  · rw [if_neg (by simp; omega)]
    unfold viewG
    rw [mkW_bit]
    simp only [five, List.take, List.any_cons, List.any_nil, h, hi, decide_true, decide_false, Bool.true_and, Bool.or_false]
    have c1 : ∀ a : Nat, (a == i) = decide (i = a) := fun a => by rw [Bool.eq_iff_iff]; simp; omega
    rw [c1, c1, c1, c1, c1]
    rw [Bool.and_comm]
    congr 1
    cases decide (i = 1) <;> cases decide (i = 5) <;> cases decide (i = 8) <;> cases decide (i = 18) <;> cases decide (i = 19) <;> rfl
end Go.Proofs.Ythkkfdhgpaonjaa
