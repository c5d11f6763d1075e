/- Lines: Get of both. -/
import Derived.Test.YtbboaekfhdeolaaLnC
namespace Go.Proofs.Ytbboaekfhdeolaa
open Go.RowKit
set_option linter.unusedSimpArgs false
set_option linter.unusedVariables false
attribute [local simp high] sizeLL zeroLL sizeLR zeroLR

theorem or_byte (x y : Nat) (hx : x < 72057594037927936) (hy : y < 256) : bits BinOp.or IntKind.u64 ((x : Int) * 256) (y : Int) = ((y + 256 * x : Nat) : Int) := by
  have h := u64_or_nat (x * 256) y (by omega) (by omega)
  have e : ((x * 256 : Nat) : Int) = (x : Int) * 256 := by omega
  rw [e] at h
  rw [h]
  have h2 := Nat.shiftLeft_add_eq_or_of_lt (show y < 2 ^ 8 by omega) x
  rw [Nat.shiftLeft_eq] at h2
  have h3 : x * 256 ||| y = y + 256 * x := by
    rw [show (256 : Nat) = 2 ^ 8 by omega, ← h2]
    omega
  rw [h3]
set_option maxRecDepth 100000 in
set_option maxHeartbeats 2000000 in
theorem lget_yes (g : Nat → Nat) (a n : Nat) (w : World) (ok : OkL g) (h1 : 1 ≤ n) (h8 : n ≤ 8) (ha : a + n ≤ 64) :
    Calls Try.prog 11 #[.agg (cellsL g), .int .i64 (a : Int), .int .i64 (n : Int)] w fun e w' => e = .returned (.tuple #[.int .u64 (numL g a n : Int), .bool true]) ∧ Below w.heap.size w w' := by
  have l3 := size_cellsL
  have hfit : fitB (a : Int) (n : Int) = true := by unfold fitB; simp; omega
  have HF := Lib.hid hfit
  clear hfit
  go_enter Try.func11, Try.ntmps11
  go_wp2_with fail
  refine (lfits_any _ _ _).mono ?_
  rw [HF.out]
  rintro e w1 ⟨rfl, rfl⟩
  have k0 := heap_alloc_new w (.cells (cellsL g) 26)
  have F0 := (Fr.refl w).alloc (.cells (cellsL g) 26)
  go_wp2
  obtain ⟨w1, hw1⟩ : ∃ w1, w1 = w.alloc (.cells (cellsL g) 26) := ⟨_, rfl⟩
  rw [← hw1] at k0 F0 ⊢
  clear hw1
  go_loopw [8, 9] (fun v i wr => ∃ k : Nat, k ≤ n ∧ i = .int .i64 ((k : Int) - 1) ∧ v = .int .u64 (numL g (a + k) (n - k) : Int) ∧ Fr w.heap.size w wr ∧ wr.heap[w.heap.size]? = some (.cells (cellsL g) 26)) (fun v i _ => (intOf i + 1).toNat)
  case atStart => exact ⟨n, by omega, rfl, by rw [Nat.sub_self]; rfl, F0, k0⟩
  case round =>
    clear F0 k0
    obtain ⟨k, hk, rfl, rfl, hfr, hr⟩ := hrel
    cases k with
    | zero =>
      have F1 := Lib.hid hfr.1
      clear hfr hr
      go_wp2
      exact bodyPost_ret (v := .tuple #[.int .u64 (numL g (a + 0) (n - 0) : Int), .bool true]) (by simp [results, Try.results11, go_sem]) rfl ⟨rfl, F1.out⟩
    | succ j =>
      have ej : ((j + 1 : Nat) : Int) - 1 = (j : Int) := by omega
      rw [ej]
      have hj0 : (0 : Int) ≤ j := by omega
      have c0 := knownL hr (i := a + j) (by omega)
      have htn : ((a : Int) + (j : Int)).toNat = a + j := by omega
      have hij0 : (0 : Int) ≤ (a : Int) + j := by omega
      have hij1 : (a : Int) + j < 64 := by omega
      have hx := numL_lt ok (n - (j + 1)) (a + (j + 1))
      have hx7 : 256 ^ (n - (j + 1)) ≤ 256 ^ 7 := Nat.pow_le_pow_right (by omega) (by omega)
      have hb := ok (a + j)
      have hnext : numL g (a + j) (n - j) = g (a + j) + 256 * numL g (a + (j + 1)) (n - (j + 1)) := by
        rw [show n - j = (n - (j + 1)) + 1 by omega]
        rfl
      obtain ⟨x, hxe⟩ : ∃ x, numL g (a + (j + 1)) (n - (j + 1)) = x := ⟨_, rfl⟩
      obtain ⟨y, hye⟩ : ∃ y, g (a + j) = y := ⟨_, rfl⟩
      rw [hxe] at hx hnext ⊢
      rw [hye] at hb c0 hnext
      have hx' : x < 72057594037927936 := Nat.lt_of_lt_of_le hx (by simpa using hx7)
      have hwx : IntKind.u64.wrap ((x : Int) * 256) = (x : Int) * 256 := by rw [IntKind.wrap_u64]; omega
      have hwy : IntKind.u64.wrap (y : Int) = (y : Int) := by rw [IntKind.wrap_u64]; omega
      have hor := or_byte x y hx' hb
      have HN := Lib.hid hnext
      have HS := Lib.hid (And.intro hfr hr)
      clear hx hx7 hx' hb hxe hye hnext
      go_wp2
      go_roundw
      case rel => exact ⟨j, by omega, by go_num, by rw [HN.out, show ((y + 256 * x : Nat) : Int) = (y : Int) + 256 * x by omega], HS.out⟩
      case measure => simp [intOf]
theorem lget_any (g : Nat → Nat) (a n : Int) (w : World) (ok : OkL g) :
    Calls Try.prog 11 #[.agg (cellsL g), .int .i64 a, .int .i64 n] w fun e w' => e = .returned (.tuple #[.int .u64 (getV g a n : Int), .bool (fitB a n)]) ∧ Below w.heap.size w w' := by
  cases hf : fitB a n with
  | true =>
    obtain ⟨h1, h8, h0, ha⟩ := fitB_t hf
    obtain ⟨A, rfl⟩ : ∃ A : Nat, a = A := ⟨a.toNat, by omega⟩
    obtain ⟨N, rfl⟩ : ∃ N : Nat, n = N := ⟨n.toNat, by omega⟩
    have e : getV g A N = numL g A N := by unfold getV; rw [if_pos hf]; rfl
    rw [e]
    exact lget_yes g A N w ok (by omega) (by omega) (by omega)
  | false =>
    have e : getV g a n = 0 := by unfold getV; rw [if_neg (by simp [hf])]
    have H := Lib.hid e
    have HF := Lib.hid hf
    rw [e]
    clear e hf
    have l3 := size_cellsL
    have F0 := Lib.hid ((Fr.refl w).alloc (.cells (cellsL g) 26)).1
    go_enter Try.func11, Try.ntmps11
    go_wp2_with fail
    refine (lfits_any _ _ _).mono ?_
    rw [HF.out]
    rintro e w1 ⟨rfl, rfl⟩
    go_wp2
    exact bodyPost_ret (v := .tuple #[.int .u64 0, .bool false]) (by simp [results, Try.results11, go_sem]) rfl ⟨rfl, F0.out⟩
end Go.Proofs.Ytbboaekfhdeolaa
