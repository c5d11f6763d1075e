/- Snap: the program's reader: Num, Int, Truth, Raw, Left, Err. -/
import Derived.Test.YtcfbbimahbhgjaaSnH
import Derived.Laws.DeepNot64
namespace Go.Proofs.Ytcfbbimahbhgjaa
open Go.RowKit
set_option linter.unusedSimpArgs false
set_option linter.unusedVariables false

theorem RD.pair {T : TypeId} {w : World} {rb n cap : Nat} {a : Option Addr} {s : RS} (h : RD T w rb a n cap s) (he : s.2 = 0) : RD T w rb a n cap (s.1, 0) := by
  obtain ⟨l, e⟩ := s
  subst he
  exact h
theorem pair_zero {s : RS} (he : s.2 = 0) : s = (s.1, 0) := by
  obtain ⟨l, e⟩ := s
  subst he
  rfl
theorem numS_stop {s : RS} (h : s.2 ≠ 0) : numS s = (0, s) := by unfold numS; rw [if_pos h]
theorem RP.refl {T : TypeId} {w : World} {rb n cap : Nat} {a : Option Addr} {s : RS} (h : RD T w rb a n cap s) : RP T rb s w w := ⟨⟨a, n, cap, h⟩, Wrote.refl _ _⟩
set_option maxRecDepth 100000 in
theorem rnumP_any (rb n cap : Nat) (a : Option Addr) (s : RS) (w : World) (h : RD TR w rb a n cap s) :
    Calls Try.prog 19 #[.pointer (some ⟨rb, 0, none⟩)] w fun ed w' => ed = .returned (.int .u64 ((numS s).1 : Int)) ∧ RP TR rb (numS s).2 w w' := by
  by_cases he : s.2 = 0
  · rw [pair_zero he]
    exact rnumP_go rb n cap a s.1 w (h.pair he)
  · have hq : (s.2 != 0) = true := by simpa using he
    have E : Hid (numS s = (0, s)) := numS_stop he
    have H := Lib.hid h
    clear h he
    go_enter Try.func19, Try.ntmps19
    go_wp2_with fail
    refine (stopped_any rb n cap a s true _ H.out hq).mono ?_
    rintro e w1 ⟨rfl, hw⟩
    rw [hw]
    clear hw w1
    go_wp2_with fail
    go_ret
    rw [E.out]
    exact ⟨rfl, RP.refl H.out⟩
theorem numS_lt (s : RS) (h8 : ∀ x ∈ s.1, x < 256) : (numS s).1 < 18446744073709551616 := by
  unfold numS
  split
  · show 0 < _; omega
  · split
    · rename_i v c hv
      exact (numR_ok 10 0 0 s.1 v c rfl (by decide) h8 hv).1
    · show 0 < _; omega
theorem xor_m1 (a : Nat) (ha : a < 9223372036854775808) : bits .xor .i64 (a : Int) (-1) = -1 - (a : Int) := by
  show IntKind.i64.wrap ((BitVec.ofInt 64 (a : Int) ^^^ BitVec.ofInt 64 (-1)).toNat : Int) = _
  rw [BitVec.xor_comm]
  exact i64_not a ha
theorem xor_0 (a : Nat) (ha : a < 9223372036854775808) : bits .xor .i64 (a : Int) 0 = (a : Int) := by
  show IntKind.i64.wrap ((BitVec.ofInt 64 (a : Int) ^^^ BitVec.ofInt 64 0).toNat : Int) = _
  have h1 : BitVec.ofInt 64 0 = 0#64 := by decide
  rw [h1, BitVec.xor_zero, ofInt_u64 a (by omega)]
  simp [IntKind.wrap, IntKind.bits, IntKind.signed]
  omega
theorem unzig_P {v : Nat} (h : v < 18446744073709551616) : bits .xor .i64 ((v : Int) / 2) (wrap64 (-wrap64 (bits .and .u64 (v : Int) 1))) = unzig v := by
  have e1 : bits .and .u64 (v : Int) 1 = ((v % 2 : Nat) : Int) := by
    have := bits_and_u64_nat v 1 h (by omega)
    rw [Nat.and_one_is_mod] at this
    exact this
  have e2 : ((v : Int) / 2) = ((v / 2 : Nat) : Int) := by omega
  rw [e1, e2]
  unfold unzig
  rcases Nat.mod_two_eq_zero_or_one v with h0 | h0
  · rw [h0, if_pos rfl]
    have e3 : wrap64 (-wrap64 ((0 : Nat) : Int)) = 0 := by decide +kernel
    rw [e3]
    exact xor_0 _ (by omega)
  · rw [h0, if_neg (by decide)]
    have e3 : wrap64 (-wrap64 ((1 : Nat) : Int)) = -1 := by decide +kernel
    rw [e3, xor_m1 _ (by omega)]
    omega
set_option maxRecDepth 100000 in
theorem rintP_any (rb n cap : Nat) (a : Option Addr) (s : RS) (w : World) (h : RD TR w rb a n cap s) :
    Calls Try.prog 20 #[.pointer (some ⟨rb, 0, none⟩)] w fun ed w' => ed = .returned (.int .i64 (unzig (numS s).1)) ∧ RP TR rb (numS s).2 w w' := by
  have hv := numS_lt s h.h8
  go_enter Try.func20, Try.ntmps20
  go_wp2_with fail
  refine (rnumP_any rb n cap a s _ h).mono ?_
  rintro e w1 ⟨rfl, hP⟩
  have HP := Lib.hid hP
  clear hP
  have hz := unzig_P hv
  obtain ⟨z, hz9⟩ : ∃ z, unzig (numS s).1 = z := ⟨_, rfl⟩
  rw [hz9] at hz
  have HZ := Lib.hid hz9
  obtain ⟨v, hv9⟩ : ∃ v, (numS s).1 = v := ⟨_, rfl⟩
  rw [hv9] at hz hv ⊢
  clear hv9 hz9
  go_wp2_with fail
  go_ret
  rw [HZ.out]
  exact ⟨rfl, HP.out⟩
set_option maxRecDepth 100000 in
theorem rtruthP_any (rb n cap : Nat) (a : Option Addr) (s : RS) (w : World) (h : RD TR w rb a n cap s) :
    Calls Try.prog 21 #[.pointer (some ⟨rb, 0, none⟩)] w fun ed w' => ed = .returned (.bool (truthS s).1) ∧ RP TR rb (truthS s).2 w w' := by
  by_cases he : s.2 = 0
  · obtain ⟨l, e⟩ := s
    subst he
    have H := Lib.hid h
    obtain ⟨c0, c1, cf⟩ := h.cells
    have hlen : l.length = n := h.len
    have hbl : BL w a l := h.bl
    have h8 : ∀ x ∈ l, x < 256 := h.h8
    clear h c1
    go_enter Try.func21, Try.ntmps21
    go_wp2_with fail
    refine (stopped_any rb n cap a (l, 0) false _ H.out rfl).mono ?_
    rintro e w1 ⟨rfl, hw⟩
    rw [hw]
    clear hw w1
    cases l with
    | nil =>
      have hn : ((n : Int) == 0) = true := by simp at hlen; simp; omega
      have hn0 : n ≤ 0 := by simp at hlen; omega
      clear hlen hbl
      go_wp2_with fail
      refine (fail_any rb n cap a [] 5 _ H.out).mono ?_
      rintro ed w2 ⟨⟨v2, rfl⟩, hD, hw2⟩
      subst hw2
      go_wp2_with fail
      go_ret
      exact ⟨rfl, ⟨_, _, _, hD⟩, (Wrote.refl _ _).setCell 1 _⟩
    | cons x l =>
      have hn : ((n : Int) == 0) = false := by simp at hlen; simp; omega
      have hn0 : (0 : Int) < n := by simp at hlen; omega
      obtain ⟨ad, e, _, cx⟩ := hbl 0 x rfl
      subst e
      have hx8 := h8 x (List.mem_cons_self ..)
      have HL := Lib.hid hlen
      clear hlen hbl h8
      have z0 : ad.add 0 = ad := by unfold Addr.add; split <;> simp_all
      rw [z0] at cx
      clear z0
      have hrr := run_rest (some ad) n cap 1 (by omega)
      have hDr := Lib.hid (H.out.drop (z := 1) (by omega))
      obtain ⟨a3, ha3⟩ : ∃ a3, restA (some ad) 1 cap = a3 := ⟨_, rfl⟩
      obtain ⟨n3, hn3⟩ : ∃ n3, n - 1 = n3 := ⟨_, rfl⟩
      obtain ⟨c3, hc3⟩ : ∃ c3, cap - 1 = c3 := ⟨_, rfl⟩
      rw [ha3, hn3, hc3] at hDr hrr
      have hrr' : ∀ w, (Instr.slice 29 (.slice (some ad) n cap) (some (.int .i64 1)) none none).run Try.prog w = .ok (.slice a3 n3 c3) w := hrr
      have cf0 := cf 0
      clear ha3 hn3 hc3 hrr
      by_cases h1 : 1 < x
      · have d1 : decide ((1 : Int) < x) = true := by simp; omega
        have E : Hid (truthS (x :: l, 0) = (false, (x :: l, 2))) := by
          show _ = _
          simp [truthS, h1]
        clear h1
        go_wp2_with fail
        refine (fail_any rb n cap (some ad) (x :: l) 2 _ H.out).mono ?_
        rintro ed w2 ⟨⟨v2, rfl⟩, hD, hw2⟩
        subst hw2
        go_wp2_with fail
        go_ret
        rw [E.out]
        exact ⟨rfl, ⟨_, _, _, hD⟩, (Wrote.refl _ _).setCell 1 _⟩
      · have d1 : decide ((1 : Int) < x) = false := by simp; omega
        have E : Hid (truthS (x :: l, 0) = (x == 1, (l, 0))) := by
          show _ = _
          simp [truthS, h1]
        have ex : ((x : Int) == 1) = (x == 1) := by
          by_cases h2 : x = 1
          · subst h2; rfl
          · rw [show (x == 1) = false by simpa using h2]; simp; omega
        obtain ⟨q, hq⟩ : ∃ q, (x == 1) = q := ⟨_, rfl⟩
        rw [hq] at ex E
        clear h1 hq
        go_wp2_with fail
        go_ret
        rw [E.out]
        exact ⟨rfl, ⟨_, _, _, hDr.out⟩, (Wrote.refl _ _).setCell 0 _⟩
  · have hq : (s.2 != 0) = true := by simpa using he
    have E : Hid (truthS s = (false, s)) := by
      show _ = _
      unfold truthS; rw [if_pos he]
    have H := Lib.hid h
    clear h he
    go_enter Try.func21, Try.ntmps21
    go_wp2_with fail
    refine (stopped_any rb n cap a s true _ H.out hq).mono ?_
    rintro e w1 ⟨rfl, hw⟩
    rw [hw]
    clear hw w1
    go_wp2_with fail
    go_ret
    rw [E.out]
    exact ⟨rfl, RP.refl H.out⟩
end Go.Proofs.Ytcfbbimahbhgjaa
