/- The contracts of cause.Word, roebuckref21.Word, and Of. -/
import Derived.Test.YthkkfdhgpaonjaaTabB
import Derived.Test.YthkkfdhgpaonjaaBit
import Derived.Lib.Hide
namespace Go.Proofs.Ythkkfdhgpaonjaa
open Go.RowKit
set_option linter.unusedSimpArgs false
set_option linter.unusedVariables false

def top63 : Nat := 9223372036854775808
def wordOf (i : Bool) (c : Int) : Nat := (if 0 ≤ c ∧ c ≤ 63 then c.toNat else 0) + (if i then top63 else 0)

theorem or_top (c : Int) (h0 : 0 ≤ c) (h1 : c ≤ 63) : bits BinOp.or IntKind.u64 c 9223372036854775808 = c + 9223372036854775808 := by
  obtain ⟨n, rfl⟩ := Int.eq_ofNat_of_zero_le h0
  have h := u64_or_nat n 9223372036854775808 (by omega) (by omega)
  have e : n ||| 9223372036854775808 = n + 9223372036854775808 := by
    have := Nat.two_pow_add_eq_or_of_lt (i := 63) (b := n) (by omega) 1
    rw [Nat.or_comm]
    simpa [Nat.add_comm] using this.symm
  rw [e] at h
  exact h

theorem word_in (i : Bool) (c : Int) (h0 : 0 ≤ c) (h1 : c ≤ 63) : ((wordOf i c : Nat) : Int) = c + if i then 9223372036854775808 else 0 := by
  unfold wordOf top63
  rw [if_pos ⟨h0, h1⟩]
  split <;> omega
theorem word_out (i : Bool) (c : Int) (h : ¬ (0 ≤ c ∧ c ≤ 63)) : ((wordOf i c : Nat) : Int) = if i then 9223372036854775808 else 0 := by
  unfold wordOf top63
  rw [if_neg h]
  split <;> omega

set_option maxRecDepth 100000 in
theorem cword_any (i : Bool) (c : Int) (w : World) :
    Calls Try.prog 65 #[.agg #[.bool i, .int .i64 c]] w fun e w' => e = .returned (.int .u64 (wordOf i c : Nat)) ∧ Below w.heap.size w w' := by
  by_cases h : 0 ≤ c ∧ c ≤ 63
  · obtain ⟨h0, h1⟩ := h
    have hw := Lib.hid (word_in i c h0 h1)
    cases i
    · go_enter Try.func65, Try.ntmps65
      go_wp2
      go_ret
      exact ⟨val_u64 (by rw [hw.out]; simp), (Below.refl _ _).alloc (Nat.le_refl _) _⟩
    · go_enter Try.func65, Try.ntmps65
      go_wp2
      go_ret
      exact ⟨val_u64 (by rw [hw.out, or_top c h0 h1]; simp), (Below.refl _ _).alloc (Nat.le_refl _) _⟩
  · have hw := Lib.hid (word_out i c h)
    have hz : c < 0 ∨ 63 < c := by omega
    clear h
    rcases hz with hz | hz <;> cases i
    all_goals
      go_enter Try.func65, Try.ntmps65
      go_wp2
      go_ret
      exact ⟨val_u64 (by rw [hw.out]; rfl), (Below.refl _ _).alloc (Nat.le_refl _) _⟩

set_option maxRecDepth 100000 in
theorem rword_any (i : Bool) (c : Int) (w : World) :
    Calls Try.prog 101 #[.agg #[.bool i, .int .i64 c]] w fun e w' => e = .returned (.int .u64 (wordOf i c : Nat)) ∧ Below w.heap.size w w' := by
  by_cases h : 0 < c ∧ c < 64
  · obtain ⟨h0, h1⟩ := h
    have hw := Lib.hid (word_in i c (by omega) (by omega))
    cases i
    · go_enter Try.func101, Try.ntmps101
      go_wp2
      go_ret
      exact ⟨val_u64 (by rw [hw.out]; simp), (Below.refl _ _).alloc (Nat.le_refl _) _⟩
    · go_enter Try.func101, Try.ntmps101
      go_wp2
      go_ret
      exact ⟨val_u64 (by rw [hw.out]; simp), (Below.refl _ _).alloc (Nat.le_refl _) _⟩
  · have hw : Hid (((wordOf i c : Nat) : Int) = if i then 9223372036854775808 else 0) := by
      show _ = _
      by_cases hc : c = 0
      · subst hc; rw [word_in i 0 (by omega) (by omega)]; simp
      · exact word_out i c (by omega)
    have hz : c ≤ 0 ∨ 63 < c := by omega
    clear h
    rcases hz with hz | hz <;> cases i
    all_goals
      go_enter Try.func101, Try.ntmps101
      go_wp2
      go_ret
      exact ⟨val_u64 (by rw [hw.out]; rfl), (Below.refl _ _).alloc (Nat.le_refl _) _⟩
end Go.Proofs.Ythkkfdhgpaonjaa
