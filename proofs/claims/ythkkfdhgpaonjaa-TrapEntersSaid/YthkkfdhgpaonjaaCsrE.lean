/- The contracts of csr.May and the document's. -/
import Derived.Test.YthkkfdhgpaonjaaCsrD
namespace Go.Proofs.Ythkkfdhgpaonjaa
open Go.RowKit
set_option linter.unusedSimpArgs false
set_option linter.unusedVariables false

theorem least_v {n m : Int} (h : leastOf n = m) (w : World) : Calls Try.prog 30 #[.int .i64 n] w fun e w' => e = .returned (.int .i64 m) ∧ Below w.heap.size w w' := by
  rw [← h]; exact least_any n w
theorem ro_v {n : Int} {b : Bool} (h : roOf n = b) (w : World) : Calls Try.prog 32 #[.int .i64 n] w fun e w' => e = .returned (.bool b) ∧ Below w.heap.size w w' := by
  rw [← h]; exact ro_any n w
theorem rleast_v {n m : Int} (h : leastOf n = m) (w : World) : Calls Try.prog 31 #[.int .i64 n] w fun e w' => e = .returned (.int .i64 m) ∧ Below w.heap.size w w' := by
  rw [← h]; exact rleast_any n w
theorem rro_v {n : Int} {b : Bool} (h : roOf n = b) (w : World) : Calls Try.prog 33 #[.int .i64 n] w fun e w' => e = .returned (.bool b) ∧ Below w.heap.size w w' := by
  rw [← h]; exact rro_any n w

theorem mayB_unk {n p : Int} {wr : Bool} (h : knownB n = false) : mayB n p wr = false := by unfold mayB; rw [h]; simp
theorem mayB_p {n p : Int} {wr : Bool} (h0 : p ≠ 0) (h1 : p ≠ 1) (h3 : p ≠ 3) : mayB n p wr = false := by unfold mayB; simp [h0, h1, h3]
theorem mayB_less {n p m : Int} {wr : Bool} (hm : leastOf n = m) (h : p < m) : mayB n p wr = false := by
  unfold mayB; rw [hm, show decide (m ≤ p) = false by simp; omega]; simp
theorem mayB_yes {n p m : Int} {wr : Bool} (hp : p = 0 ∨ p = 1 ∨ p = 3) (hk : knownB n = true) (hm : leastOf n = m) (h : m ≤ p) : mayB n p wr = !(wr && roOf n) := by
  unfold mayB; rw [hm, hk, show decide (m ≤ p) = true by simp; omega]
  rcases hp with rfl | rfl | rfl <;> simp

theorem may_p (n p : Int) (wr : Bool) (w : World) (hp : p = 0 ∨ p = 1 ∨ p = 3) :
    Calls Try.prog 34 #[.int .i64 n, .int .i64 p, .bool wr] w fun e w' => e = .returned (.bool (mayB n p wr)) ∧ Below w.heap.size w w' := by
  have hp' := hp
  cases hk : knownB n with
  | false =>
    have H : Hid (mayB n p wr = false) := mayB_unk hk
    have HK := Lib.hid hk
    clear hk hp'
    rcases hp with rfl | rfl | rfl <;>
    · go_enter Try.func34, Try.ntmps34
      go_wp2_with fail
      refine (known_v HK.out _).mono ?_
      rintro e w1 ⟨rfl, hb1⟩
      go_wp2
      go_ret
      exact ⟨by rw [H.out] <;> rfl, hb1⟩
  | true =>
    obtain ⟨m, hm⟩ : ∃ m, leastOf n = m := ⟨_, rfl⟩
    obtain ⟨o, ho⟩ : ∃ o, roOf n = o := ⟨_, rfl⟩
    by_cases hle : m ≤ p
    · have H : Hid (mayB n p wr = !(wr && o)) := by rw [← ho]; exact mayB_yes hp hk hm hle
      have HK := Lib.hid hk
      have HM := Lib.hid hm
      have HO := Lib.hid ho
      clear hk hm ho hp'
      cases wr
      · rcases hp with rfl | rfl | rfl <;>
        · go_enter Try.func34, Try.ntmps34
          go_wp2_with fail
          refine (known_v HK.out _).mono ?_
          rintro e w1 ⟨rfl, hb1⟩
          go_wp2_with fail
          refine (least_v HM.out _).mono ?_
          rintro e w2 ⟨rfl, hb2⟩
          go_wp2
          go_ret
          exact ⟨by rw [H.out]; rfl, (((Fr.refl w).step hb1).step hb2).1⟩
      · rcases hp with rfl | rfl | rfl <;>
        · go_enter Try.func34, Try.ntmps34
          go_wp2_with fail
          refine (known_v HK.out _).mono ?_
          rintro e w1 ⟨rfl, hb1⟩
          go_wp2_with fail
          refine (least_v HM.out _).mono ?_
          rintro e w2 ⟨rfl, hb2⟩
          go_wp2_with fail
          refine (ro_v HO.out _).mono ?_
          rintro e w3 ⟨rfl, hb3⟩
          go_wp2
          go_ret
          exact ⟨by rw [H.out]; simp, ((((Fr.refl w).step hb1).step hb2).step hb3).1⟩
    · have H : Hid (mayB n p wr = false) := mayB_less hm (by omega)
      have HK := Lib.hid hk
      have HM := Lib.hid hm
      clear hk hm ho hp'
      rcases hp with rfl | rfl | rfl <;>
      · go_enter Try.func34, Try.ntmps34
        go_wp2_with fail
        refine (known_v HK.out _).mono ?_
        rintro e w1 ⟨rfl, hb1⟩
        go_wp2_with fail
        refine (least_v HM.out _).mono ?_
        rintro e w2 ⟨rfl, hb2⟩
        go_wp2
        go_ret
        exact ⟨by rw [H.out] <;> rfl, (((Fr.refl w).step hb1).step hb2).1⟩

theorem may19_any (n p : Int) (wr : Bool) (w : World) :
    Calls Try.prog 34 #[.int .i64 n, .int .i64 p, .bool wr] w fun e w' => e = .returned (.bool (mayB n p wr)) ∧ Below w.heap.size w w' := by
  by_cases h0 : p = 0
  · exact may_p n p wr w (Or.inl h0)
  by_cases h1 : p = 1
  · exact may_p n p wr w (Or.inr (Or.inl h1))
  by_cases h3 : p = 3
  · exact may_p n p wr w (Or.inr (Or.inr h3))
  have H : Hid (mayB n p wr = false) := mayB_p h0 h1 h3
  have e0 : (p == 0) = false := by simpa using h0
  have e1 : (p == 1) = false := by simpa using h1
  have e3 : (p == 3) = false := by simpa using h3
  go_enter Try.func34, Try.ntmps34
  go_wp2
  go_ret
  exact ⟨by rw [H.out] <;> rfl, Below.refl _ _⟩

theorem rmay_p (n p : Int) (wr : Bool) (w : World) (hp : p = 0 ∨ p = 1 ∨ p = 3) :
    Calls Try.prog 35 #[.int .i64 n, .int .i64 p, .bool wr] w fun e w' => e = .returned (.bool (mayB n p wr)) ∧ Below w.heap.size w w' := by
  have hf0 := run_field0
  have hp' := hp
  cases hr : row19 n with
  | none =>
    have H : Hid (mayB n p wr = false) := mayB_unk (by unfold knownB; rw [hr]; rfl)
    have HR := Lib.hid hr
    clear hr hp'
    rcases hp with rfl | rfl | rfl <;>
    · go_enter Try.func35, Try.ntmps35
      go_wp2_with fail
      refine (rof_none HR.out _).mono ?_
      rintro e w1 ⟨rfl, hb1⟩
      go_wp2
      go_ret
      exact ⟨by rw [H.out] <;> rfl, hb1⟩
  | some r =>
    have hk : knownB n = true := by unfold knownB; rw [hr]; rfl
    obtain ⟨-, hb0, hb1⟩ := row19_some hr
    have n0 : (n == 0) = false := by simp; omega
    obtain ⟨m, hm⟩ : ∃ m, leastOf n = m := ⟨_, rfl⟩
    obtain ⟨o, ho⟩ : ∃ o, roOf n = o := ⟨_, rfl⟩
    by_cases hle : m ≤ p
    · have H : Hid (mayB n p wr = !(wr && o)) := by rw [← ho]; exact mayB_yes hp hk hm hle
      have HR := Lib.hid hr
      have HM := Lib.hid hm
      have HO := Lib.hid ho
      clear hk hm ho hp' hr
      cases wr
      · rcases hp with rfl | rfl | rfl <;>
        · go_enter Try.func35, Try.ntmps35
          go_wp2_with fail
          refine (rof_some HR.out _).mono ?_
          rintro e w1 ⟨rfl, hb1⟩
          go_wp2_with fail
          refine (rleast_v HM.out _).mono ?_
          rintro e w2 ⟨rfl, hb2⟩
          go_wp2
          go_ret
          exact ⟨by rw [H.out]; rfl, (((Fr.refl w).step hb1).step hb2).1⟩
      · rcases hp with rfl | rfl | rfl <;>
        · go_enter Try.func35, Try.ntmps35
          go_wp2_with fail
          refine (rof_some HR.out _).mono ?_
          rintro e w1 ⟨rfl, hb1⟩
          go_wp2_with fail
          refine (rleast_v HM.out _).mono ?_
          rintro e w2 ⟨rfl, hb2⟩
          go_wp2_with fail
          refine (rro_v HO.out _).mono ?_
          rintro e w3 ⟨rfl, hb3⟩
          go_wp2
          go_ret
          exact ⟨by rw [H.out]; simp, ((((Fr.refl w).step hb1).step hb2).step hb3).1⟩
    · have H : Hid (mayB n p wr = false) := mayB_less hm (by omega)
      have HR := Lib.hid hr
      have HM := Lib.hid hm
      clear hk hm ho hp' hr
      rcases hp with rfl | rfl | rfl <;>
      · go_enter Try.func35, Try.ntmps35
        go_wp2_with fail
        refine (rof_some HR.out _).mono ?_
        rintro e w1 ⟨rfl, hb1⟩
        go_wp2_with fail
        refine (rleast_v HM.out _).mono ?_
        rintro e w2 ⟨rfl, hb2⟩
        go_wp2
        go_ret
        exact ⟨by rw [H.out] <;> rfl, (((Fr.refl w).step hb1).step hb2).1⟩

theorem rmay_any (n p : Int) (wr : Bool) (w : World) :
    Calls Try.prog 35 #[.int .i64 n, .int .i64 p, .bool wr] w fun e w' => e = .returned (.bool (mayB n p wr)) ∧ Below w.heap.size w w' := by
  by_cases h0 : p = 0
  · exact rmay_p n p wr w (Or.inl h0)
  by_cases h1 : p = 1
  · exact rmay_p n p wr w (Or.inr (Or.inl h1))
  by_cases h3 : p = 3
  · exact rmay_p n p wr w (Or.inr (Or.inr h3))
  have H : Hid (mayB n p wr = false) := mayB_p h0 h1 h3
  have e0 : (p != 0) = true := by simpa using h0
  have e1 : (p != 1) = true := by simpa using h1
  have e3 : (p != 3) = true := by simpa using h3
  go_enter Try.func35, Try.ntmps35
  go_wp2
  go_ret
  exact ⟨by rw [H.out] <;> rfl, Below.refl _ _⟩
end Go.Proofs.Ythkkfdhgpaonjaa
