/- The contract of roebuckref01.Bit: it returns the bit of a word, and leaves the world alone. -/
import Derived.Test.YtbboaekfhdeolaaProg
import Derived.WalkKit
import Derived.WalkSpells
import Derived.WalkLawsBesides
namespace Go.Proofs.Ytbboaekfhdeolaa
open Go.RowKit

/-- The bit of a word, as the document's Bit has it. -/
def bitN (x : Nat) (i : Int) : Nat := if 0 ≤ i ∧ i ≤ 63 then x / 2 ^ i.toNat % 2 else 0

theorem val_u64 {a b : Int} (h : a = b) : Ending.returned (.int .u64 a) = .returned (.int .u64 b) := by rw [h]
theorem v_u64 {a b : Int} (h : a = b) : Value.int .u64 a = .int .u64 b := by rw [h]
theorem val_i64 {a b : Int} (h : a = b) : Ending.returned (.int .i64 a) = .returned (.int .i64 b) := by rw [h]
theorem v_i64 {a b : Int} (h : a = b) : Value.int .i64 a = .int .i64 b := by rw [h]

set_option maxHeartbeats 400000 in
theorem bit_in (x : Nat) (i : Int) (w : World) (hx : x < 18446744073709551616) (h0 : 0 ≤ i) (h1 : i ≤ 63) :
    Calls Try.prog 46 #[.int .u64 (x : Int), .int .i64 i] w fun e w' => e = .returned (.int .u64 (bitN x i : Nat)) ∧ w = w' := by
  go_enter Try.func46, Try.ntmps46
  go_wp2
  go_loop [0, 5] (fun z k => ∃ n y : Nat, (n : Int) ≤ i ∧ k = .int .i64 n ∧ z = .int .u64 y ∧ y ≤ x ∧ Hid (y = x / 2 ^ n)) (fun _ k => (i - intOf k).toNat)
  case atStart => exact ⟨0, x, by omega, rfl, rfl, by omega, by simp [Hid]⟩
  case round =>
    obtain ⟨n, y, hn, rfl, rfl, hy, H⟩ := hrel
    by_cases hlt : (n : Int) < i
    · go_wp2
      go_round
      case rel => exact ⟨n + 1, y / 2, by omega, by go_num, by go_num, by omega, by rw [H.out]; simp [Hid, Nat.pow_succ, ← Nat.div_div_eq_div_mul]⟩
      case measure => simp [intOf]; omega
    · go_wp2
      go_ret
      exact ⟨val_u64 (by unfold bitN; rw [if_pos ⟨h0, h1⟩, show i.toNat = n by omega, ← H.out]; omega), rfl⟩

set_option maxHeartbeats 400000 in
theorem bit_out (x : Nat) (i : Int) (w : World) (h : i < 0 ∨ 63 < i) :
    Calls Try.prog 46 #[.int .u64 (x : Int), .int .i64 i] w fun e w' => e = .returned (.int .u64 0) ∧ w = w' := by
  rcases h with h | h
  · go_enter Try.func46, Try.ntmps46
    go_wp2
    go_ret
    exact ⟨rfl, rfl⟩
  · have h2 : ¬ i < 0 := by omega
    go_enter Try.func46, Try.ntmps46
    go_wp2
    go_ret
    exact ⟨rfl, rfl⟩

/-- 'Bit': any word, any place. -/
theorem bit_any (x : Nat) (i : Int) (w : World) (hx : x < 18446744073709551616) :
    Calls Try.prog 46 #[.int .u64 (x : Int), .int .i64 i] w fun e w' => e = .returned (.int .u64 (bitN x i : Nat)) ∧ w = w' := by
  by_cases h : 0 ≤ i ∧ i ≤ 63
  · exact bit_in x i w hx h.1 h.2
  · unfold bitN
    rw [if_neg h]
    exact bit_out x i w (by omega)
end Go.Proofs.Ytbboaekfhdeolaa
