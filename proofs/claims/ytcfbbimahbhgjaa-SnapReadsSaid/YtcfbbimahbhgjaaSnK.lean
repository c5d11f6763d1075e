/- Snap: the document's reader. -/
import Derived.Test.YtcfbbimahbhgjaaSnJ
namespace Go.Proofs.Ytcfbbimahbhgjaa
open Go.RowKit
set_option linter.unusedSimpArgs false
set_option linter.unusedVariables false

abbrev TD : TypeId := 53
theorem dfail_any (rb n cap : Nat) (a : Option Addr) (l : List Nat) (e : Int) (w : World) (h : RD TD w rb a n cap (l, 0)) :
    Calls Try.prog 38 #[.pointer (some ⟨rb, 0, none⟩), .int .i64 e] w fun ed w' => (∃ v, ed = .returned v) ∧ RD TD w' rb a n cap (l, e) ∧ w' = w.setCell ⟨rb, 1, none⟩ (.int .i64 e) := by
  obtain ⟨c0, c1, cf⟩ := h.cells
  have c1' : w.cell? ⟨rb, 1, none⟩ = some (.int .i64 0) := c1
  have cf1 := cf 1
  have H := Lib.hid h
  clear h c1 cf
  go_enter Try.func38, Try.ntmps38
  go_wp2_with fail
  go_end0
  exact ⟨⟨_, rfl⟩, H.out.setE e, rfl⟩
theorem mul_add9 {i F y acc : Nat} (hF : F = 128 ^ i) (hacc : acc < 128 ^ i) (hy : (i ≤ 8 ∧ y < 128) ∨ (i = 9 ∧ y ≤ 1)) :
    ∃ u z : Nat, IntKind.u64.wrap ((F : Int) * (y : Int)) = (u : Int) ∧ IntKind.u64.wrap ((acc : Int) + (u : Int)) = (z : Int) ∧ z = acc + 128 ^ i * y := by
  have hb : F * y ≤ 9223372036854775808 ∧ acc < 9223372036854775808 := by
    rcases hy with ⟨h1, h2⟩ | ⟨h1, h2⟩
    · have h3 : (128 : Nat) ^ i ≤ 128 ^ 8 := Nat.pow_le_pow_right (by omega) (by omega)
      have h4 : (128 : Nat) ^ 8 = 72057594037927936 := by decide
      have h5 : F * y ≤ F * 127 := Nat.mul_le_mul_left _ (by omega)
      omega
    · subst h1
      have h4 : (128 : Nat) ^ 9 = 9223372036854775808 := by decide
      rw [h4] at hF hacc
      have h5 : F * y ≤ F * 1 := Nat.mul_le_mul_left _ h2
      omega
  have hc : ((F : Int) * (y : Int)) = ((F * y : Nat) : Int) := by push_cast; rfl
  refine ⟨F * y, acc + F * y, ?_, ?_, by rw [hF]⟩
  · rw [hc, IntKind.wrap_u64]; omega
  · rw [IntKind.wrap_u64]; omega
theorem mul_128 {i F : Nat} (hF : F = 128 ^ i) (hi : i ≤ 8) : ∃ F2 : Nat, IntKind.u64.wrap ((F : Int) * 128) = (F2 : Int) ∧ F2 = 128 ^ (i + 1) := by
  have h3 : (128 : Nat) ^ i ≤ 128 ^ 8 := Nat.pow_le_pow_right (by omega) (by omega)
  have h4 : (128 : Nat) ^ 8 = 72057594037927936 := by decide
  exact ⟨F * 128, by rw [IntKind.wrap_u64]; omega, by rw [hF, Nat.pow_succ]⟩
set_option maxRecDepth 100000 in
set_option maxHeartbeats 8000000 in
theorem dnum_go (rb n cap : Nat) (a : Option Addr) (l : List Nat) (w : World) (h : RD TD w rb a n cap (l, 0)) :
    Calls Try.prog 26 #[.pointer (some ⟨rb, 0, none⟩)] w fun ed w' => ed = .returned (.int .u64 ((numS (l, 0)).1 : Int)) ∧ RP TD rb (numS (l, 0)).2 w w' := by
  have hlen : l.length = n := h.len
  have hn9 := h.hn
  obtain ⟨c0, c1, cf⟩ := h.cells
  have c1' : w.cell? ⟨rb, 1, none⟩ = some (.int .i64 0) := c1
  have H := Lib.hid h
  have h8 : ∀ x ∈ l, x < 256 := h.h8
  have hbl : BL w a l := h.bl
  clear h c1
  go_enter Try.func26, Try.ntmps26
  go_wp2_with fail
  go_loopw [3, 4, 5] (fun v f t wr => wr = w ∧ ∃ (i acc F : Nat), i ≤ n ∧ i ≤ 9 ∧ t = .int .i64 (i : Int) ∧ v = .int .u64 (acc : Int) ∧ f = .int .u64 (F : Int) ∧ F = 128 ^ i ∧ acc < 128 ^ i ∧ numR 10 0 0 l = numR (10 - i) i acc (l.drop i)) (fun _ _ t _ => n - (intOf t).toNat)
  case atStart => exact ⟨rfl, 0, 0, 1, by omega, by omega, rfl, rfl, rfl, rfl, by omega, rfl⟩
  case round =>
    obtain ⟨rfl, i, acc, F, hi, hi9, rfl, rfl, rfl, hF, hacc, hR⟩ := hrel
    have HR := Lib.hid hR
    have HACC := Lib.hid hacc
    have HF := Lib.hid hF
    clear hR hacc hF
    by_cases hlt : i < n
    · have hi0 : (0 : Int) ≤ i := by omega
      have hin : (i : Int) < n := by omega
      have hi10 : (i : Int) < 10 := by omega
      obtain ⟨ad, x, rfl, hx, cx⟩ := hbl.cell (i := i) (by omega)
      have hx8 := h8 x (List.mem_of_getElem? hx)
      have hat := Lib.hid (numR_at (k := 9 - i) (n := acc) hx)
      clear hx hbl h8
      by_cases hf : i = 9 ∧ 1 < x
      · have d9 : ((i : Int) == 9) = true := by simp; omega
        have d1 : decide ((1 : Int) < x) = true := by simp; omega
        have HE := Lib.hid hf
        clear hf
        go_wp2_with fail
        refine (dfail_any rb n cap (some ad) l 2 _ H.out).mono ?_
        rintro ed w2 ⟨⟨v2, rfl⟩, hD, hw2⟩
        subst hw2
        have E : Hid (numS (l, 0) = (0, (l, 2))) := by
          have e : numR 10 0 0 l = .error 2 := by
            rw [HR.out, show 10 - i = (9 - i) + 1 by omega, hat.out, if_pos (.inl HE.out)]
          show _ = _
          simp [numS, e]
        go_wp2_with fail
        go_ret
        rw [E.out]
        exact ⟨rfl, ⟨_, _, _, hD⟩, (Wrote.refl _ _).setCell 1 _⟩
      · by_cases hg : 0 < i ∧ x = 0
        · have d0 : decide ((0 : Int) < i) = true := by simp; omega
          have dx : ((x : Int) == 0) = true := by simp; omega
          have d1 : decide ((1 : Int) < x) = false := by simp; omega
          have HE := Lib.hid hg
          have h0i : 0 < i := hg.1
          clear hf hg
          cases d9 : ((i : Int) == 9)
          all_goals
            go_wp2_with fail
            refine (dfail_any rb n cap (some ad) l 2 _ H.out).mono ?_
            rintro ed w2 ⟨⟨v2, rfl⟩, hD, hw2⟩
            subst hw2
            have E : Hid (numS (l, 0) = (0, (l, 2))) := by
              have e : numR 10 0 0 l = .error 2 := by
                rw [HR.out, show 10 - i = (9 - i) + 1 by omega, hat.out, if_pos (.inr HE.out)]
              show _ = _
              simp [numS, e]
            go_wp2_with fail
            go_ret
            rw [E.out]
            exact ⟨rfl, ⟨_, _, _, hD⟩, (Wrote.refl _ _).setCell 1 _⟩
        · have HNO : Hid (¬ ((i = 9 ∧ 1 < x) ∨ (0 < i ∧ x = 0))) := fun h => h.elim hf hg
          by_cases h9 : i = 9
          · have d9 : ((i : Int) == 9) = true := by simp; omega
            have d1 : decide ((1 : Int) < x) = false := by simp; omega
            have d0 : decide ((0 : Int) < i) = true := by simp; omega
            have dx : ((x : Int) == 0) = false := by simp; omega
            have h1 : x < 128 := by omega
            have h0i : 0 < i := by omega
            obtain ⟨y, hy⟩ : ∃ y, x % 128 = y := ⟨_, rfl⟩
            have hxm : (x : Int) % 128 = (y : Int) := by omega
            obtain ⟨u, z, hu, hzz, hz⟩ := mul_add9 HF.out HACC.out (y := y) (.inr ⟨h9, by omega⟩)
            have HY := Lib.hid hy
            have HZ := Lib.hid hz
            clear hy hz
            clear hf hg h9
            have d128 : decide ((x : Int) < 128) = true := by simp; omega
            have E : Hid (numS (l, 0) = (z, (l.drop (i + 1), 0))) := by
              have e : numR 10 0 0 l = .ok (z, i + 1) := by
                rw [HR.out, show 10 - i = (9 - i) + 1 by omega, hat.out, if_neg HNO.out, if_pos h1, HZ.out, ← HY.out, Nat.mod_eq_of_lt h1]
              show _ = _
              simp [numS, e]
            have hDr := Lib.hid (H.out.drop (z := i + 1) (by omega))
            obtain ⟨a3, ha3⟩ : ∃ a3, restA (some ad) (i + 1) cap = a3 := ⟨_, rfl⟩
            obtain ⟨n3, hn3⟩ : ∃ n3, n - (i + 1) = n3 := ⟨_, rfl⟩
            obtain ⟨c3, hc3⟩ : ∃ c3, cap - (i + 1) = c3 := ⟨_, rfl⟩
            have hrr : ∀ w, (Instr.slice 29 (.slice (some ad) n cap) (some (.int .i64 ((i : Int) + 1))) none none).run Try.prog w = .ok (.slice a3 n3 c3) w := fun w => by
              have := run_rest (some ad) n cap (i + 1) (by omega) w
              rw [ha3, hn3, hc3] at this
              simpa using this
            rw [ha3, hn3, hc3] at hDr
            have cf0 := cf 0
            have e1w : IntKind.i64.wrap ((i : Int) + 1) = (i : Int) + 1 := by rw [IntKind.wrap_i64]; omega
            clear ha3 hn3 hc3 
            go_wp2_with fail
            go_ret
            rw [E.out]
            exact ⟨rfl, ⟨_, _, _, hDr.out⟩, (Wrote.refl _ _).setCell 0 _⟩
          · have d9 : ((i : Int) == 9) = false := by simp; omega
            obtain ⟨y, hy⟩ : ∃ y, x % 128 = y := ⟨_, rfl⟩
            have hxm : (x : Int) % 128 = (y : Int) := by omega
            obtain ⟨u, z, hu, hzz, hz⟩ := mul_add9 HF.out HACC.out (y := y) (.inl ⟨by omega, by omega⟩)
            have HY := Lib.hid hy
            have HZ := Lib.hid hz
            clear hy hz
            by_cases h0 : 0 < i
            · have d0 : decide ((0 : Int) < i) = true := by simp; omega
              have dx : ((x : Int) == 0) = false := by simp; omega
              by_cases h1 : x < 128
              · have d128 : decide ((x : Int) < 128) = true := by simp; omega
                have E : Hid (numS (l, 0) = (z, (l.drop (i + 1), 0))) := by
                  have e : numR 10 0 0 l = .ok (z, i + 1) := by
                    rw [HR.out, show 10 - i = (9 - i) + 1 by omega, hat.out, if_neg HNO.out, if_pos h1, HZ.out, ← HY.out, Nat.mod_eq_of_lt h1]
                  show _ = _
                  simp [numS, e]
                have hDr := Lib.hid (H.out.drop (z := i + 1) (by omega))
                obtain ⟨a3, ha3⟩ : ∃ a3, restA (some ad) (i + 1) cap = a3 := ⟨_, rfl⟩
                obtain ⟨n3, hn3⟩ : ∃ n3, n - (i + 1) = n3 := ⟨_, rfl⟩
                obtain ⟨c3, hc3⟩ : ∃ c3, cap - (i + 1) = c3 := ⟨_, rfl⟩
                have hrr : ∀ w, (Instr.slice 29 (.slice (some ad) n cap) (some (.int .i64 ((i : Int) + 1))) none none).run Try.prog w = .ok (.slice a3 n3 c3) w := fun w => by
                  have := run_rest (some ad) n cap (i + 1) (by omega) w
                  rw [ha3, hn3, hc3] at this
                  simpa using this
                rw [ha3, hn3, hc3] at hDr
                have cf0 := cf 0
                have e1w : IntKind.i64.wrap ((i : Int) + 1) = (i : Int) + 1 := by rw [IntKind.wrap_i64]; omega
                clear ha3 hn3 hc3 hf hg
                go_wp2_with fail
                go_ret
                rw [E.out]
                exact ⟨rfl, ⟨_, _, _, hDr.out⟩, (Wrote.refl _ _).setCell 0 _⟩
              · have d128 : decide ((x : Int) < 128) = false := by simp; omega
                have E : Hid (numR 10 0 0 l = numR (10 - (i + 1)) (i + 1) z (l.drop (i + 1))) := by
                  show _ = _
                  rw [HR.out, show 10 - i = (9 - i) + 1 by omega, hat.out, if_neg HNO.out, if_neg h1, HZ.out, ← HY.out, show 10 - (i + 1) = 9 - i by omega]
                have HZ2 : Hid (z < 128 ^ (i + 1)) := by
                  show _ < _
                  have h9 : 128 ^ i * y ≤ 128 ^ i * 127 := Nat.mul_le_mul_left _ (by have := HY.out; omega)
                  have h10 := HACC.out
                  rw [HZ.out, Nat.pow_succ]; omega
                obtain ⟨F2, hF2, hF3⟩ := mul_128 HF.out (show i ≤ 8 by omega)
                have HF2 := Lib.hid hF3
                clear hF3 hf hg
                go_wp2
                exact ⟨⟨by first | rfl | trivial, i + 1, z, F2, by omega, by omega, by go_num, by go_num, by go_num, HF2.out, HZ2.out, E.out⟩, by simp [intOf]; omega⟩
            · have d0 : decide ((0 : Int) < i) = false := by simp; omega
              have h0b : ¬ 0 < i := h0
              by_cases h1 : x < 128
              · have d128 : decide ((x : Int) < 128) = true := by simp; omega
                have E : Hid (numS (l, 0) = (z, (l.drop (i + 1), 0))) := by
                  have e : numR 10 0 0 l = .ok (z, i + 1) := by
                    rw [HR.out, show 10 - i = (9 - i) + 1 by omega, hat.out, if_neg HNO.out, if_pos h1, HZ.out, ← HY.out, Nat.mod_eq_of_lt h1]
                  show _ = _
                  simp [numS, e]
                have hDr := Lib.hid (H.out.drop (z := i + 1) (by omega))
                obtain ⟨a3, ha3⟩ : ∃ a3, restA (some ad) (i + 1) cap = a3 := ⟨_, rfl⟩
                obtain ⟨n3, hn3⟩ : ∃ n3, n - (i + 1) = n3 := ⟨_, rfl⟩
                obtain ⟨c3, hc3⟩ : ∃ c3, cap - (i + 1) = c3 := ⟨_, rfl⟩
                have hrr : ∀ w, (Instr.slice 29 (.slice (some ad) n cap) (some (.int .i64 ((i : Int) + 1))) none none).run Try.prog w = .ok (.slice a3 n3 c3) w := fun w => by
                  have := run_rest (some ad) n cap (i + 1) (by omega) w
                  rw [ha3, hn3, hc3] at this
                  simpa using this
                rw [ha3, hn3, hc3] at hDr
                have cf0 := cf 0
                have e1w : IntKind.i64.wrap ((i : Int) + 1) = (i : Int) + 1 := by rw [IntKind.wrap_i64]; omega
                clear ha3 hn3 hc3 hf hg
                go_wp2_with fail
                go_ret
                rw [E.out]
                exact ⟨rfl, ⟨_, _, _, hDr.out⟩, (Wrote.refl _ _).setCell 0 _⟩
              · have d128 : decide ((x : Int) < 128) = false := by simp; omega
                have E : Hid (numR 10 0 0 l = numR (10 - (i + 1)) (i + 1) z (l.drop (i + 1))) := by
                  show _ = _
                  rw [HR.out, show 10 - i = (9 - i) + 1 by omega, hat.out, if_neg HNO.out, if_neg h1, HZ.out, ← HY.out, show 10 - (i + 1) = 9 - i by omega]
                have HZ2 : Hid (z < 128 ^ (i + 1)) := by
                  show _ < _
                  have h9 : 128 ^ i * y ≤ 128 ^ i * 127 := Nat.mul_le_mul_left _ (by have := HY.out; omega)
                  have h10 := HACC.out
                  rw [HZ.out, Nat.pow_succ]; omega
                obtain ⟨F2, hF2, hF3⟩ := mul_128 HF.out (show i ≤ 8 by omega)
                have HF2 := Lib.hid hF3
                clear hF3 hf hg
                go_wp2
                exact ⟨⟨by first | rfl | trivial, i + 1, z, F2, by omega, by omega, by go_num, by go_num, by go_num, HF2.out, HZ2.out, E.out⟩, by simp [intOf]; omega⟩
    · have e9 : i = n := by omega
      have hlt2 : ¬ (i : Int) < n := by omega
      have hR9 : Hid (numS (l, 0) = (0, (l, 5))) := by
        have e : numR 10 0 0 l = .error 5 := by rw [HR.out]; exact numR_end (by omega)
        show _ = _
        simp [numS, e]
      clear e9
      go_wp2_with fail
      refine (dfail_any rb n cap a l 5 _ H.out).mono ?_
      rintro ed w2 ⟨⟨v2, rfl⟩, hD, hw2⟩
      subst hw2
      go_wp2_with fail
      go_ret
      rw [hR9.out]
      exact ⟨rfl, ⟨_, _, _, hD⟩, (Wrote.refl _ _).setCell 1 _⟩
end Go.Proofs.Ytcfbbimahbhgjaa
