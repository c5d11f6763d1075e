/- The contract of cause.First. -/
import Derived.Test.YthkkfdhgpaonjaaBit
import Derived.Test.YthkkfdhgpaonjaaArr
namespace Go.Proofs.Ythkkfdhgpaonjaa
open Go.RowKit

theorem one_int : one1 Try.prog 3 = true := by kernel_rfl

theorem bit_test (x k : Nat) (hx : x < 18446744073709551616) : (bits BinOp.and IntKind.u64 ((x : Int) / ((2 ^ k : Nat) : Int)) 1 == 1) = x.testBit k := by
  have h := u64_and_nat (x / 2 ^ k) 1 (Nat.lt_of_le_of_lt (Nat.div_le_self _ _) hx) (by omega)
  have e : ((x : Int) / ((2 ^ k : Nat) : Int)) = ((x / 2 ^ k : Nat) : Int) := by simp
  rw [e]
  show (bits BinOp.and IntKind.u64 ((x / 2 ^ k : Nat) : Int) ((1 : Nat) : Int) == 1) = _
  rw [h, Nat.and_one_is_mod, Nat.testBit_eq_decide_div_mod_eq]
  generalize x / 2 ^ k % 2 = y
  rw [Bool.eq_iff_iff]
  simp
  omega

/-- The code of the interrupt that comes first. -/
def firstOf (x : Nat) : Option Int :=
  if x.testBit 11 then some 11 else if x.testBit 3 then some 3 else if x.testBit 7 then some 7 else if x.testBit 9 then some 9 else if x.testBit 1 then some 1 else if x.testBit 5 then some 5 else none
def causeV : Option Int → Value
  | some c => .tuple #[.agg #[.bool true, .int .i64 c], .bool true]
  | none => .tuple #[.agg #[.bool false, .int .i64 0], .bool false]

set_option maxRecDepth 100000 in
set_option maxHeartbeats 1000000 in
theorem cfirst_any (x : Nat) (w : World) (hx : x < 18446744073709551616) :
    Calls Try.prog 72 #[.int .u64 (x : Int)] w fun e w' => e = .returned (causeV (firstOf x)) ∧ Below w.heap.size w w' := by
  have ix := fun (cs : Array Value) (hc : cs.size = 6) k i h0 hn w => run_index_arr (P := Try.prog) Try.underlying161 one_int hc k i h0 hn w
  have t11 : (bits BinOp.and IntKind.u64 ((x : Int) / 2048) 1 == 1) = x.testBit 11 := bit_test x 11 hx
  have t3 : (bits BinOp.and IntKind.u64 ((x : Int) / 8) 1 == 1) = x.testBit 3 := bit_test x 3 hx
  have t7 : (bits BinOp.and IntKind.u64 ((x : Int) / 128) 1 == 1) = x.testBit 7 := bit_test x 7 hx
  have t9 : (bits BinOp.and IntKind.u64 ((x : Int) / 512) 1 == 1) = x.testBit 9 := bit_test x 9 hx
  have t1 : (bits BinOp.and IntKind.u64 ((x : Int) / 2) 1 == 1) = x.testBit 1 := bit_test x 1 hx
  have t5 : (bits BinOp.and IntKind.u64 ((x : Int) / 32) 1 == 1) = x.testBit 5 := bit_test x 5 hx
  go_enter Try.func72, Try.ntmps72
  go_wp2
  refine wp_loop_rounds 7 ?_
  rw [rounds_succ]
  go_wp2
  · have h11 : x.testBit 11 = true := by assumption
    refine bodyPost_ret (v := .tuple #[.agg #[.bool true, .int .i64 11], .bool true]) (by simp [results, Try.results72, go_sem]) rfl ⟨?_, (Below.refl _ _).alloc (Nat.le_refl _) _⟩
    simp [causeV, firstOf, h11]
  have h11 : x.testBit 11 = false := by assumption
  rw [rounds_succ]
  go_wp2
  · have h3 : x.testBit 3 = true := by assumption
    refine bodyPost_ret (v := .tuple #[.agg #[.bool true, .int .i64 3], .bool true]) (by simp [results, Try.results72, go_sem]) rfl ⟨?_, (Below.refl _ _).alloc (Nat.le_refl _) _⟩
    simp [causeV, firstOf, h11, h3]
  have h3 : x.testBit 3 = false := by assumption
  rw [rounds_succ]
  go_wp2
  · have h7 : x.testBit 7 = true := by assumption
    refine bodyPost_ret (v := .tuple #[.agg #[.bool true, .int .i64 7], .bool true]) (by simp [results, Try.results72, go_sem]) rfl ⟨?_, (Below.refl _ _).alloc (Nat.le_refl _) _⟩
    simp [causeV, firstOf, h11, h3, h7]
  have h7 : x.testBit 7 = false := by assumption
  rw [rounds_succ]
  go_wp2
  · have h9 : x.testBit 9 = true := by assumption
    refine bodyPost_ret (v := .tuple #[.agg #[.bool true, .int .i64 9], .bool true]) (by simp [results, Try.results72, go_sem]) rfl ⟨?_, (Below.refl _ _).alloc (Nat.le_refl _) _⟩
    simp [causeV, firstOf, h11, h3, h7, h9]
  have h9 : x.testBit 9 = false := by assumption
  rw [rounds_succ]
  go_wp2
  · have h1 : x.testBit 1 = true := by assumption
    refine bodyPost_ret (v := .tuple #[.agg #[.bool true, .int .i64 1], .bool true]) (by simp [results, Try.results72, go_sem]) rfl ⟨?_, (Below.refl _ _).alloc (Nat.le_refl _) _⟩
    simp [causeV, firstOf, h11, h3, h7, h9, h1]
  have h1 : x.testBit 1 = false := by assumption
  rw [rounds_succ]
  go_wp2
  · have h5 : x.testBit 5 = true := by assumption
    refine bodyPost_ret (v := .tuple #[.agg #[.bool true, .int .i64 5], .bool true]) (by simp [results, Try.results72, go_sem]) rfl ⟨?_, (Below.refl _ _).alloc (Nat.le_refl _) _⟩
    simp [causeV, firstOf, h11, h3, h7, h9, h1, h5]
  have h5 : x.testBit 5 = false := by assumption
  rw [rounds_succ]
  go_wp2
  refine bodyPost_ret (v := .tuple #[.agg #[.bool false, .int .i64 0], .bool false]) (by simp [results, Try.results72, go_sem]) rfl ⟨?_, (Below.refl _ _).alloc (Nat.le_refl _) _⟩
  simp [causeV, firstOf, h11, h3, h7, h9, h1, h5]
end Go.Proofs.Ythkkfdhgpaonjaa
