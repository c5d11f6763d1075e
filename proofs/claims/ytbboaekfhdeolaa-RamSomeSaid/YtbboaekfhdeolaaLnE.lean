/- Lines: the document's Get; Put of both. -/
import Derived.Test.YtbboaekfhdeolaaLnD
namespace Go.Proofs.Ytbboaekfhdeolaa
open Go.RowKit
set_option linter.unusedSimpArgs false
set_option linter.unusedVariables false
attribute [local simp high] sizeLL zeroLL sizeLR zeroLR

set_option maxRecDepth 100000 in
set_option maxHeartbeats 2000000 in
theorem rget_yes (g : Nat → Nat) (a n : Nat) (w : World) (ok : OkL g) (h1 : 1 ≤ n) (h8 : n ≤ 8) (ha : a + n ≤ 64) :
    Calls Try.prog 12 #[.agg (cellsL g), .int .i64 (a : Int), .int .i64 (n : Int)] w fun e w' => e = .returned (.tuple #[.int .u64 (numL g a n : Int), .bool true]) ∧ Below w.heap.size w w' := by
  have l3 := size_cellsL
  have hfit : fitB (a : Int) (n : Int) = true := by unfold fitB; simp; omega
  have HF := Lib.hid hfit
  clear hfit
  go_enter Try.func12, Try.ntmps12
  go_wp2_with fail
  refine (rfits_any _ _ _).mono ?_
  rw [HF.out]
  rintro e w1 ⟨rfl, rfl⟩
  have k0 := heap_alloc_new w (.cells (cellsL g) 25)
  have F0 := (Fr.refl w).alloc (.cells (cellsL g) 25)
  go_wp2
  obtain ⟨w1, hw1⟩ : ∃ w1, w1 = w.alloc (.cells (cellsL g) 25) := ⟨_, rfl⟩
  rw [← hw1] at k0 F0 ⊢
  clear hw1
  go_loopw [8, 9, 10] (fun v f i wr => ∃ k : Nat, k ≤ n ∧ i = .int .i64 (k : Int) ∧ v = .int .u64 (numL g a k : Int) ∧ f = .int .u64 ((256 ^ k % 18446744073709551616 : Nat) : Int) ∧ Fr w.heap.size w wr ∧ wr.heap[w.heap.size]? = some (.cells (cellsL g) 25)) (fun v f i _ => n - (intOf i).toNat)
  case atStart => exact ⟨0, by omega, rfl, rfl, rfl, F0, k0⟩
  case round =>
    clear F0 k0
    obtain ⟨k, hk, rfl, rfl, rfl, hfr, hr⟩ := hrel
    by_cases hlt : k < n
    · have hj0 : (0 : Int) ≤ k := by omega
      have c0 := knownL hr (i := a + k) (by omega)
      have htn : ((a : Int) + (k : Int)).toNat = a + k := by omega
      have hij0 : (0 : Int) ≤ (a : Int) + k := by omega
      have hij1 : (a : Int) + k < 64 := by omega
      have hp7 : 256 ^ k ≤ 256 ^ 7 := Nat.pow_le_pow_right (by omega) (by omega)
      have hv := numL_64 ok a (m := k) (by omega)
      have hv2 := numL_64 ok a (m := k + 1) (by omega)
      have hup := numL_up g k a
      have hb := ok (a + k)
      have hps : 256 ^ (k + 1) = 256 ^ k * 256 := Nat.pow_succ 256 k
      have hlt' : (k : Int) < n := by omega
      obtain ⟨x, hxe⟩ : ∃ x, numL g a k = x := ⟨_, rfl⟩
      obtain ⟨y, hye⟩ : ∃ y, g (a + k) = y := ⟨_, rfl⟩
      obtain ⟨p, hpe⟩ : ∃ p, 256 ^ k = p := ⟨_, rfl⟩
      obtain ⟨x2, hx2⟩ : ∃ x2, numL g a (k + 1) = x2 := ⟨_, rfl⟩
      rw [hxe, hye, hpe, hx2] at hup
      rw [hye] at hb c0
      rw [hpe] at hp7 hps
      rw [hxe] at hv
      rw [hx2] at hv2
      have hp7' : p ≤ 72057594037927936 := by simpa using hp7
      have hpm : p % 18446744073709551616 = p := Nat.mod_eq_of_lt (by omega)
      have hpy : p * y ≤ 72057594037927936 * 255 := Nat.mul_le_mul hp7' (by omega)
      obtain ⟨z, hz⟩ : ∃ z, p * y = z := ⟨_, rfl⟩
      rw [hz] at hup hpy
      have hwy : IntKind.u64.wrap (y : Int) = (y : Int) := by rw [IntKind.wrap_u64]; omega
      have hzI : (p : Int) * (y : Int) = (z : Int) := by rw [← hz, Int.natCast_mul]
      have hwm : IntKind.u64.wrap ((p : Int) * (y : Int)) = (z : Int) := by rw [hzI, IntKind.wrap_u64]; omega
      have hwa : IntKind.u64.wrap ((x : Int) + (z : Int)) = (x2 : Int) := by rw [IntKind.wrap_u64]; omega
      have hwp : IntKind.u64.wrap ((p : Int) * 256) = ((256 ^ (k + 1) % 18446744073709551616 : Nat) : Int) := by rw [IntKind.wrap_u64, hps]; omega
      obtain ⟨p2, hp2⟩ : ∃ p2, 256 ^ (k + 1) % 18446744073709551616 = p2 := ⟨_, rfl⟩
      rw [hp2] at hwp
      rw [hxe, hpe, hpm]
      have HS := Lib.hid (And.intro hfr hr)
      have HX := Lib.hid hx2
      have HP := Lib.hid hp2
      clear hp7 hv hv2 hup hb hps hxe hye hpe hx2 hp7' hpm hpy hz hzI hp2
      go_wp2
      go_roundw
      case rel => exact ⟨k + 1, by omega, by go_num, by rw [HX.out], by rw [HP.out], HS.out⟩
      case measure => simp [intOf]; omega
    · have e : k = n := by omega
      subst e
      have F1 := Lib.hid hfr.1
      clear hfr hr
      go_wp2
      exact bodyPost_ret (v := .tuple #[.int .u64 (numL g a k : Int), .bool true]) (by simp [results, Try.results12, go_sem]) rfl ⟨rfl, F1.out⟩
theorem rget_any (g : Nat → Nat) (a n : Int) (w : World) (ok : OkL g) :
    Calls Try.prog 12 #[.agg (cellsL g), .int .i64 a, .int .i64 n] w fun e w' => e = .returned (.tuple #[.int .u64 (getV g a n : Int), .bool (fitB a n)]) ∧ Below w.heap.size w w' := by
  cases hf : fitB a n with
  | true =>
    obtain ⟨h1, h8, h0, ha⟩ := fitB_t hf
    obtain ⟨A, rfl⟩ : ∃ A : Nat, a = A := ⟨a.toNat, by omega⟩
    obtain ⟨N, rfl⟩ : ∃ N : Nat, n = N := ⟨n.toNat, by omega⟩
    have e : getV g A N = numL g A N := by unfold getV; rw [if_pos hf]; rfl
    rw [e]
    exact rget_yes g A N w ok (by omega) (by omega) (by omega)
  | false =>
    have e : getV g a n = 0 := by unfold getV; rw [if_neg (by simp [hf])]
    have HF := Lib.hid hf
    rw [e]
    clear e hf
    have l3 := size_cellsL
    have F0 := Lib.hid ((Fr.refl w).alloc (.cells (cellsL g) 25)).1
    go_enter Try.func12, Try.ntmps12
    go_wp2_with fail
    refine (rfits_any _ _ _).mono ?_
    rw [HF.out]
    rintro e w1 ⟨rfl, rfl⟩
    go_wp2
    exact bodyPost_ret (v := .tuple #[.int .u64 0, .bool false]) (by simp [results, Try.results12, go_sem]) rfl ⟨rfl, F0.out⟩
end Go.Proofs.Ytbboaekfhdeolaa
