/- The plic's bits; bit, settle, best. -/
import Derived.Test.YtgelpapjmlbgfaaPlB
import Derived.BigQuiet
namespace Go.Proofs.Ytgelpapjmlbgfaa
open Go.RowKit
set_option linter.unusedSimpArgs false
set_option linter.unusedVariables false
attribute [local simp high] zeroPv sizePv

theorem and_W32 (f g : Nat → Bool) : bits .and .u32 (W32 f : Int) (W32 g : Int) = ((W32 fun i => f i && g i : Nat) : Int) := by
  rw [u32_and_nat _ _ (W32_lt f) (W32_lt g)]
  congr 1
  refine W32_eq (Nat.lt_of_le_of_lt Nat.and_le_left (W32_lt f)) fun i hi => ?_
  rw [Nat.testBit_and, W32_bit, W32_bit]; simp [hi]
theorem or_W32 (f g : Nat → Bool) : bits .or .u32 (W32 f : Int) (W32 g : Int) = ((W32 fun i => f i || g i : Nat) : Int) := by
  rw [u32_or_nat _ _ (W32_lt f) (W32_lt g)]
  congr 1
  refine W32_eq (Nat.or_lt_two_pow (n := 32) (W32_lt f) (W32_lt g)) fun i hi => ?_
  rw [Nat.testBit_or, W32_bit, W32_bit]; simp [hi]
theorem andNot_W32 (f g : Nat → Bool) : bits .andNot .u32 (W32 f : Int) (W32 g : Int) = ((W32 fun i => f i && !g i : Nat) : Int) := by
  rw [u32_andNot_nat _ _ (W32_lt f) (W32_lt g)]
  congr 1
  refine W32_eq (Nat.lt_of_le_of_lt Nat.and_le_left (W32_lt f)) fun i hi => ?_
  have hs : (4294967295 - W32 g).testBit i = (decide (i < 32) && !(W32 g).testBit i) := by
    have := Nat.testBit_two_pow_sub_succ (x := W32 g) (n := 32) (W32_lt g) i
    have e : 2 ^ 32 - (W32 g + 1) = 4294967295 - W32 g := by omega
    rwa [e] at this
  rw [Nat.testBit_and, hs, W32_bit, W32_bit]; simp [hi]
def oneF (i : Nat) : Nat → Bool := fun j => decide (j = i)
theorem one_W32 {i : Nat} (hi : i < 32) : 2 ^ i = W32 (oneF i) := by
  refine W32_eq (Nat.pow_lt_pow_right (a := 2) (by omega) hi) fun j hj => ?_
  rw [Nat.testBit_two_pow]
  unfold oneF
  by_cases e : i = j
  · subst e; simp
  · simp [e, Ne.symm e]
theorem offW (f : Nat → Bool) (i : Nat) : bits .andNot .u32 (W32 f : Int) (W32 (oneF i) : Int) = ((W32 (upN f i false) : Nat) : Int) := by
  rw [andNot_W32]
  congr 1
  refine W32_congr fun j hj => ?_
  unfold oneF upN
  by_cases e : j = i <;> simp [e]
theorem onW (f : Nat → Bool) (i : Nat) : bits .or .u32 (W32 f : Int) (W32 (oneF i) : Int) = ((W32 (upN f i true) : Nat) : Int) := by
  rw [or_W32]
  congr 1
  refine W32_congr fun j hj => ?_
  unfold oneF upN
  by_cases e : j = i <;> simp [e]
theorem bit32 (f : Nat → Bool) {k : Nat} (hk : k < 32) : (bits BinOp.and IntKind.u32 ((W32 f : Int) / 2 ^ k) 1 == 1) = f k := by
  have hx := W32_lt f
  have h := u32_and_nat (W32 f / 2 ^ k) 1 (Nat.lt_of_le_of_lt (Nat.div_le_self _ _) hx) (by omega)
  have e : ((W32 f : Int) / 2 ^ k) = ((W32 f / 2 ^ k : Nat) : Int) := by simp
  have e2 : f k = (W32 f).testBit k := by rw [W32_bit]; simp [hk]
  rw [e, e2]
  show (bits BinOp.and IntKind.u32 ((W32 f / 2 ^ k : Nat) : Int) ((1 : Nat) : Int) == 1) = _
  rw [h, Nat.and_one_is_mod, Nat.testBit_eq_decide_div_mod_eq, Bool.eq_iff_iff]
  generalize W32 f / 2 ^ k % 2 = y
  simp only [beq_iff_eq, decide_eq_true_eq]
  omega

set_option maxRecDepth 100000 in
set_option maxHeartbeats 2000000 in
theorem pbit_any (i : Nat) (w : World) (hi : i < 32) :
    Calls Try.prog 43 #[.int .i64 (i : Int)] w fun e w' => e = .returned (.int .u32 (W32 (oneF i) : Int)) ∧ w' = w := by
  have HP := Lib.hid (one_W32 hi)
  have h0 : (0 : Int) ≤ i := by omega
  have h32 : (i : Int) ≤ 32 := by omega
  have hmin : min i 32 = i := by omega
  have hwk : IntKind.u64.wrap (i : Int) = (i : Int) := by rw [IntKind.wrap_u64]; omega
  have hlt : (2 : Int) ^ i < 4294967296 := by
    have := Nat.pow_lt_pow_right (a := 2) (by omega) hi
    have e : ((2 ^ i : Nat) : Int) = (2 : Int) ^ i := by simp
    rw [← e]; omega
  have hge : (0 : Int) ≤ (2 : Int) ^ i := Int.pow_nonneg (by omega)
  have hw2 : IntKind.u32.wrap ((2 : Int) ^ i) = (2 : Int) ^ i := by rw [IntKind.wrap_u32']; omega
  go_enter Try.func43, Try.ntmps43
  go_wp2
  go_ret
  exact ⟨by rw [← HP.out]; simp, rfl⟩
set_option maxRecDepth 100000 in
set_option maxHeartbeats 2000000 in
theorem settle_any (b : Nat) (s : PS) (w : World) (h : w.heap[b]? = some (.cells (cellsP s) 60)) :
    Calls Try.prog 44 #[.pointer (some ⟨b, 0, none⟩)] w fun e w' => (∃ v, e = .returned v) ∧ w' = (w.setCell ⟨b, 34, none⟩ (.int .u32 ((W32 fun i => s.wa i || (s.wi i && !s.se i) : Nat) : Int))).drew := by
  obtain ⟨c0, c1, c2, c3, cl, cf⟩ := knownP h
  have HW : Hid (bits .or .u32 (W32 s.wa : Int) (bits .andNot .u32 (W32 s.wi : Int) (W32 s.se : Int)) = ((W32 fun i => s.wa i || (s.wi i && !s.se i) : Nat) : Int)) := by
    show _ = _; rw [andNot_W32, or_W32]
  go_enter Try.func44, Try.ntmps44
  go_wp2_with fail
  go_region
  rw [HW.out]
  go_wp2
  all_goals (first | go_end0 | refine bodyPost_ret (results_none rfl _ _ _) rfl ?_)
  all_goals exact ⟨⟨_, rfl⟩, rfl⟩
end Go.Proofs.Ytgelpapjmlbgfaa
