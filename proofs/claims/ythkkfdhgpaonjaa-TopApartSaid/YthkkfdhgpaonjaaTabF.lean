/- The contracts of To, First of roebuckref21, and of the accesses. -/
import Derived.Test.YthkkfdhgpaonjaaFr
import Derived.Lib.Hide
import Derived.Test.YthkkfdhgpaonjaaFirst
namespace Go.Proofs.Ythkkfdhgpaonjaa
open Go.RowKit
set_option linter.unusedSimpArgs false
set_option linter.unusedVariables false

theorem bitN_in (x : Nat) (c : Int) (h0 : 0 ≤ c) (h1 : c ≤ 63) : bitN x c = (x.testBit c.toNat).toNat := by
  unfold bitN
  rw [if_pos ⟨h0, h1⟩, Nat.testBit_eq_decide_div_mod_eq]
  generalize x / 2 ^ c.toNat = y
  by_cases h : y % 2 = 1 <;> simp [h] <;> omega
theorem bitN_out (x : Nat) (c : Int) (h : c < 0 ∨ 63 < c) : bitN x c = 0 := by
  unfold bitN
  rw [if_neg (by omega)]
theorem bit_zero (x k : Nat) (hx : x < 18446744073709551616) : (bits BinOp.and IntKind.u64 ((x : Int) / 2 ^ k) 1 == 0) = !x.testBit k := by
  have h := u64_and_nat (x / 2 ^ k) 1 (Nat.lt_of_le_of_lt (Nat.div_le_self _ _) hx) (by omega)
  have e : ((x : Int) / 2 ^ k) = ((x / 2 ^ k : Nat) : Int) := by simp
  rw [e]
  show (bits BinOp.and IntKind.u64 ((x / 2 ^ k : Nat) : Int) ((1 : Nat) : Int) == 0) = _
  rw [h, Nat.and_one_is_mod, Nat.testBit_eq_decide_div_mod_eq]
  generalize x / 2 ^ k = y
  by_cases h : y % 2 = 1
  · simp [h]
  · have : y % 2 = 0 := by omega
    simp [this]

def toOf (i : Bool) (c p : Int) (d e : Nat) : Int := if p ≠ 3 ∧ bitN (if i then e else d) c = 1 then 1 else 3

theorem toOf_f (c p : Int) (d e : Nat) : toOf false c p d e = if p ≠ 3 ∧ bitN d c = 1 then 1 else 3 := by simp [toOf]
theorem toOf_t (c p : Int) (d e : Nat) : toOf true c p d e = if p ≠ 3 ∧ bitN e c = 1 then 1 else 3 := by simp [toOf]
theorem toOf_r (p : Int) (n : Nat) (hp : ¬ p = 3) : (if p ≠ 3 ∧ n = 1 then (1 : Int) else 3) = if ((n : Int) == 1) = true then 1 else 3 := by
  by_cases hb : n = 1
  · subst hb; simp [hp]
  · have : ((n : Int) == 1) = false := by simp; omega
    rw [this]; simp [hb]

set_option maxRecDepth 100000 in
set_option maxHeartbeats 1000000 in
theorem cto_any (i : Bool) (c p : Int) (d e : Nat) (w : World) (hd : d < 18446744073709551616) (he : e < 18446744073709551616) :
    Calls Try.prog 19 #[.agg #[.bool i, .int .i64 c], .int .i64 p, .int .u64 d, .int .u64 e] w fun e' w' => e' = .returned (.int .i64 (toOf i c p d e)) ∧ Below w.heap.size w w' := by
  by_cases hp : p = 3
  · have H : Hid (toOf i c p d e = 3) := by show _ = _; unfold toOf; rw [if_neg (by simp [hp])]
    subst hp
    cases i
    all_goals
      go_enter Try.func19, Try.ntmps19
      go_wp2
      go_ret
      exact ⟨val_i64 (by rw [H.out]), (Below.refl _ _).alloc (Nat.le_refl _) _⟩
  · have hp' : (p == 3) = false := by simpa using hp
    by_cases hc : c < 0 ∨ 63 < c
    · have H : Hid (toOf i c p d e = 3) := by show _ = _; unfold toOf; rw [if_neg (by rw [bitN_out _ _ hc]; simp)]
      rcases hc with hc | hc <;> cases i
      all_goals
        go_enter Try.func19, Try.ntmps19
        go_wp2
        go_ret
        exact ⟨val_i64 (by rw [H.out]), (Below.refl _ _).alloc (Nat.le_refl _) _⟩
    · obtain ⟨h0, h1⟩ : 0 ≤ c ∧ c ≤ 63 := by omega
      cases i
      · have tb := bit_zero d c.toNat hd
        have H : Hid (toOf false c p d e = if d.testBit c.toNat then 1 else 3) := by
          show _ = _; rw [toOf_f, bitN_in _ _ h0 h1]; cases d.testBit c.toNat <;> simp [hp]
        clear hp hc
        cases hb : d.testBit c.toNat
        all_goals
          rw [hb] at tb H
          clear hb
          go_enter Try.func19, Try.ntmps19
          go_wp2
          go_ret
          exact ⟨val_i64 (by rw [H.out]; rfl), (Below.refl _ _).alloc (Nat.le_refl _) _⟩
      · have tb := bit_zero e c.toNat he
        have H : Hid (toOf true c p d e = if e.testBit c.toNat then 1 else 3) := by
          show _ = _; rw [toOf_t, bitN_in _ _ h0 h1]; cases e.testBit c.toNat <;> simp [hp]
        clear hp hc
        cases hb : e.testBit c.toNat
        all_goals
          rw [hb] at tb H
          clear hb
          go_enter Try.func19, Try.ntmps19
          go_wp2
          go_ret
          exact ⟨val_i64 (by rw [H.out]; rfl), (Below.refl _ _).alloc (Nat.le_refl _) _⟩

set_option maxRecDepth 100000 in
set_option maxHeartbeats 1000000 in
theorem rto_any (i : Bool) (c p : Int) (d e : Nat) (w : World) (hd : d < 18446744073709551616) (he : e < 18446744073709551616) :
    Calls Try.prog 99 #[.agg #[.bool i, .int .i64 c], .int .i64 p, .int .u64 d, .int .u64 e] w fun e' w' => e' = .returned (.int .i64 (toOf i c p d e)) ∧ Below w.heap.size w w' := by
  by_cases hp : p = 3
  · have H : Hid (toOf i c p d e = 3) := by show _ = _; unfold toOf; rw [if_neg (by simp [hp])]
    subst hp
    cases i
    all_goals
      go_enter Try.func99, Try.ntmps99
      go_wp2
      go_ret
      exact ⟨val_i64 (by rw [H.out]), (Below.refl _ _).alloc (Nat.le_refl _) _⟩
  · have hp' : (p != 3) = true := by simpa using hp
    cases i
    · have H : Hid (toOf false c p d e = if ((bitN d c : Nat) : Int) == 1 then 1 else 3) := by show _ = _; rw [toOf_f, toOf_r _ _ hp]
      clear hp
      go_enter Try.func99, Try.ntmps99
      go_wp2_with (go_at_call 74; refine (bit_any _ _ _ hd).mono ?_; rintro e' w' ⟨rfl, rfl⟩)
      · have h1 : (((bitN d c : Nat) : Int) == 1) = true := by assumption
        go_ret
        exact ⟨val_i64 (by rw [H.out, if_pos h1]), (Below.refl _ _).alloc (Nat.le_refl _) _⟩
      · have h1 : (((bitN d c : Nat) : Int) == 1) = false := by assumption
        go_ret
        exact ⟨val_i64 (by rw [H.out, if_neg (by rw [h1]; simp)]), (Below.refl _ _).alloc (Nat.le_refl _) _⟩
    · have H : Hid (toOf true c p d e = if ((bitN e c : Nat) : Int) == 1 then 1 else 3) := by show _ = _; rw [toOf_t, toOf_r _ _ hp]
      clear hp
      go_enter Try.func99, Try.ntmps99
      go_wp2_with (go_at_call 74; refine (bit_any _ _ _ he).mono ?_; rintro e' w' ⟨rfl, rfl⟩)
      · have h1 : (((bitN e c : Nat) : Int) == 1) = true := by assumption
        go_ret
        exact ⟨val_i64 (by rw [H.out, if_pos h1]), (Below.refl _ _).alloc (Nat.le_refl _) _⟩
      · have h1 : (((bitN e c : Nat) : Int) == 1) = false := by assumption
        go_ret
        exact ⟨val_i64 (by rw [H.out, if_neg (by rw [h1]; simp)]), (Below.refl _ _).alloc (Nat.le_refl _) _⟩

end Go.Proofs.Ythkkfdhgpaonjaa
