/- plic.best; bits.Low of 32. -/
import Derived.Test.YtgelpapjmlbgfaaPlC
namespace Go.Proofs.Ytgelpapjmlbgfaa
open Go.RowKit
set_option linter.unusedSimpArgs false
set_option linter.unusedVariables false
attribute [local simp high] zeroPv sizePv

theorem bestU_step (m : Nat → Bool) (pr : Nat → Nat) (a k : Nat) (hk : 1 ≤ k) : bestU m pr a k = if cand m pr a k = true ∧ (bestU m pr a (k - 1) = 0 ∨ pr (bestU m pr a (k - 1)) < pr k) then k else bestU m pr a (k - 1) := by
  obtain ⟨j, rfl⟩ : ∃ j, k = j + 1 := ⟨k - 1, by omega⟩
  rfl
set_option maxRecDepth 100000 in
set_option maxHeartbeats 4000000 in
theorem best_any (b : Nat) (s : PS) (m : Nat → Bool) (a : Nat) (w : World) (ok : OkP s) (ha : a < 256) (h : w.heap[b]? = some (.cells (cellsP s) 60)) :
    Calls Try.prog 42 #[.pointer (some ⟨b, 0, none⟩), .int .u32 (W32 m : Int), .int .u8 (a : Int)] w fun e w' => e = .returned (.int .i64 ((bestU m s.pr a 31 : Nat) : Int)) ∧ ∃ n, w' = w.drewN n := by
  have B0 : bestU m s.pr a 0 = 0 := rfl
  obtain ⟨x, hx⟩ : ∃ x, W32 m = x := ⟨_, rfl⟩
  have hx32 : x < 4294967296 := by rw [← hx]; exact W32_lt m
  have HX := Lib.hid hx
  rw [hx]
  clear hx
  go_enter Try.func42, Try.ntmps42
  go_wp2
  go_loopw [7, 8] (fun o i wr => ∃ k : Nat, 1 ≤ k ∧ k ≤ 32 ∧ i = .int .i64 (k : Int) ∧ o = .int .i64 ((bestU m s.pr a (k - 1) : Nat) : Int) ∧ ∃ n, wr = w.drewN n) (fun _ i _ => 32 - (intOf i).toNat)
  case atStart => exact ⟨1, by omega, by omega, rfl, rfl, 0, rfl⟩
  case round =>
    obtain ⟨k, hk1, hk32, rfl, rfl, nq, hwr⟩ := hrel
    have hkk : (k : Int) ≤ 32 := by omega
    have hr : wr.heap[b]? = some (.cells (cellsP s) 60) := by rw [hwr]; exact h
    have HWR := Lib.hid hwr
    clear hwr
    obtain ⟨o, ho⟩ : ∃ o, bestU m s.pr a (k - 1) = o := ⟨_, rfl⟩
    have hol : o ≤ k - 1 := by rw [← ho]; exact bestU_le _ _ _ _
    rw [ho]
    by_cases hlt : k < 32
    · have hst := bestU_step m s.pr a k hk1
      rw [ho] at hst
      obtain ⟨-, -, -, -, cl, cf⟩ := knownP hr
      have hk0 : (0 : Int) ≤ k := by omega
      have hk3 : (k : Int) < 32 := by omega
      have hmin : min k 32 = k := by omega
      have ho00 : (0 : Int) ≤ o := by omega
      have ho32 : (o : Int) < 32 := by omega
      have hwk : IntKind.u64.wrap (k : Int) = (k : Int) := by rw [IntKind.wrap_u64]; omega
      have co := knownPpr hr (i := o) (by omega)
      have ck := knownPpr hr (i := k) hlt
      have hbt := bit32 m hlt
      rw [HX.out] at hbt
      have hp8 := ok.pr k
      have hq8 := ok.pr o
      obtain ⟨P, hP⟩ : ∃ P, s.pr k = P := ⟨_, rfl⟩
      obtain ⟨Q, hQ⟩ : ∃ Q, s.pr o = Q := ⟨_, rfl⟩
      rw [hP] at ck hp8
      rw [hQ] at co hq8
      obtain ⟨r, hr'⟩ : ∃ r, bestU m s.pr a k = r := ⟨_, rfl⟩
      rw [hr', hP, hQ] at hst
      unfold cand at hst
      rw [hP] at hst
      have HR := Lib.hid hr'
      clear hr' hP hQ ho hr
      cases hm : m k with
      | false =>
        rw [hm] at hbt hst
        have hr0 : r = o := by rw [hst, if_neg (by simp)]
        subst hr0
        clear hst
        go_wp2_with fail
        go_quiet (fail)
        go_wp2
        go_roundw
        case rel => exact ⟨k + 1, by omega, by omega, by go_num, by rw [show k + 1 - 1 = k by omega, HR.out], _, by rw [HWR.out, World.drewN_drewN]⟩
        case measure => simp [intOf]; omega
      | true =>
        rw [hm] at hbt hst
        by_cases hap : a < P
        · by_cases ho0 : o = 0
          · subst ho0
            have hr0 : r = k := by rw [hst, if_pos (by simp [hap])]
            subst hr0
            clear hst
            go_wp2_with fail
            go_quiet (fail)
            go_wp2
            go_roundw
            case rel => exact ⟨r + 1, by omega, by omega, by go_num, by rw [show r + 1 - 1 = r by omega, HR.out], _, by rw [HWR.out, World.drewN_drewN]⟩
            case measure => simp [intOf]; omega
          · by_cases hqp : Q < P
            · have hr0 : r = k := by rw [hst, if_pos (by simp [hap, hqp])]
              subst hr0
              clear hst
              go_wp2_with fail
              go_quiet (fail)
              go_wp2
              go_roundw
              case rel => exact ⟨r + 1, by omega, by omega, by go_num, by rw [show r + 1 - 1 = r by omega, HR.out], _, by rw [HWR.out, World.drewN_drewN]⟩
              case measure => simp [intOf]; omega
            · have hr0 : r = o := by rw [hst, if_neg (by simp [hap, hqp, ho0])]
              subst hr0
              clear hst
              go_wp2_with fail
              go_quiet (fail)
              go_wp2
              go_roundw
              case rel => exact ⟨k + 1, by omega, by omega, by go_num, by rw [show k + 1 - 1 = k by omega, HR.out], _, by rw [HWR.out, World.drewN_drewN]⟩
              case measure => simp [intOf]; omega
        · have hr0 : r = o := by rw [hst, if_neg (by simp [hap])]
          subst hr0
          clear hst
          go_wp2_with fail
          go_quiet (fail)
          go_wp2
          go_roundw
          case rel => exact ⟨k + 1, by omega, by omega, by go_num, by rw [show k + 1 - 1 = k by omega, HR.out], _, by rw [HWR.out, World.drewN_drewN]⟩
          case measure => simp [intOf]; omega
    · have e : k = 32 := by omega
      subst e
      go_wp2
      go_ret
      subst ho
      exact ⟨rfl, nq, HWR.out⟩
theorem best_v {b : Nat} {s : PS} {m : Nat → Bool} {a r : Nat} (hr : bestU m s.pr a 31 = r) (w : World) (ok : OkP s) (ha : a < 256) (h : w.heap[b]? = some (.cells (cellsP s) 60)) :
    Calls Try.prog 42 #[.pointer (some ⟨b, 0, none⟩), .int .u32 (W32 m : Int), .int .u8 (a : Int)] w fun e w' => e = .returned (.int .i64 (r : Int)) ∧ ∃ n, w' = w.drewN n := by
  rw [← hr]; exact best_any b s m a w ok ha h

set_option maxRecDepth 100000 in
set_option maxHeartbeats 4000000 in
theorem span32 (w : World) : Calls Try.prog 50 #[.int .i64 0, .int .i64 32] w fun e w' => e = .returned (.tuple #[.int .i64 0, .int .i64 32]) ∧ Below w.heap.size w w' := by
  go_enter Try.func50, Try.ntmps50
  go_wp2
  go_ret2
  exact ⟨rfl, (Fr.refl w).1⟩
set_option maxRecDepth 100000 in
set_option maxHeartbeats 4000000 in
theorem ones32 (w : World) : Calls Try.prog 49 #[.int .i64 0, .int .i64 32] w fun e w' => e = .returned (.int .u64 4294967295) ∧ Below w.heap.size w w' := by
  go_enter Try.func49, Try.ntmps49
  go_wp2_with fail
  refine (span32 _).mono ?_
  rintro e w1 ⟨rfl, hb⟩
  go_wp2
  go_ret
  exact ⟨rfl, hb⟩
theorem and32w (x : Nat) (hx : x < 4294967296) : bits BinOp.and IntKind.u64 (x : Int) 4294967295 = (x : Int) := by
  have h := u64_and_nat x 4294967295 (by omega) (by omega)
  have e : x &&& 4294967295 = x % 4294967296 := Nat.and_two_pow_sub_one_eq_mod (n := 32) x
  rw [e, Nat.mod_eq_of_lt hx] at h
  exact h
set_option maxRecDepth 100000 in
set_option maxHeartbeats 4000000 in
theorem low32 (x : Nat) (w : World) (hx : x < 4294967296) : Calls Try.prog 40 #[.int .u64 (x : Int), .int .i64 32] w fun e w' => e = .returned (.int .u64 (x : Int)) ∧ Below w.heap.size w w' := by
  have H := Lib.hid (and32w x hx)
  go_enter Try.func40, Try.ntmps40
  go_wp2_with fail
  refine (ones32 _).mono ?_
  rintro e w1 ⟨rfl, hb⟩
  go_wp2
  go_ret
  exact ⟨by rw [H.out]; rfl, hb⟩
end Go.Proofs.Ytgelpapjmlbgfaa
