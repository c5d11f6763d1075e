/- Snap: the program's reader: a number. -/
import Derived.Test.YtcfbbimahbhgjaaSnG
import Derived.Laws.Bits64b
namespace Go.Proofs.Ytcfbbimahbhgjaa
open Go.RowKit
set_option linter.unusedSimpArgs false
set_option linter.unusedVariables false

abbrev TR : TypeId := 75
theorem fail_any (rb n cap : Nat) (a : Option Addr) (l : List Nat) (e : Int) (w : World) (h : RD TR w rb a n cap (l, 0)) :
    Calls Try.prog 37 #[.pointer (some ⟨rb, 0, none⟩), .int .i64 e] w fun ed w' => (∃ v, ed = .returned v) ∧ RD TR w' rb a n cap (l, e) ∧ w' = w.setCell ⟨rb, 1, none⟩ (.int .i64 e) := by
  obtain ⟨c0, c1, cf⟩ := h.cells
  have c1' : w.cell? ⟨rb, 1, none⟩ = some (.int .i64 0) := c1
  have cf1 := cf 1
  have H := Lib.hid h
  clear h c1 cf
  go_enter Try.func37, Try.ntmps37
  go_wp2_with fail
  go_end0
  exact ⟨⟨_, rfl⟩, H.out.setE e, rfl⟩
theorem stopped_any (rb n cap : Nat) (a : Option Addr) (s : RS) (q : Bool) (w : World) (h : RD TR w rb a n cap s) (hq : (s.2 != 0) = q) :
    Calls Try.prog 36 #[.pointer (some ⟨rb, 0, none⟩)] w fun ed w' => ed = .returned (.bool q) ∧ w' = w := by
  obtain ⟨c0, c1, cf⟩ := h.cells
  clear h cf
  go_enter Try.func36, Try.ntmps36
  go_wp2_with fail
  go_ret
  exact ⟨by rw [← hq]; rfl, rfl⟩
theorem stopped_nil (w : World) : Calls Try.prog 36 #[.pointer none] w fun ed w' => ed = .returned (.bool true) ∧ w' = w := by
  go_enter Try.func36, Try.ntmps36
  go_wp2_with fail
  go_ret
  exact ⟨rfl, rfl⟩
theorem or_shl {a y k : Nat} (h : a < 2 ^ k) : a ||| y <<< k = a + y * 2 ^ k := by
  rw [Nat.or_comm, ← Nat.shiftLeft_add_eq_or_of_lt h, Nat.shiftLeft_eq, Nat.add_comm]
theorem and_127_all : ∀ x : Fin 256, bits .and .u8 ((x.1 : Nat) : Int) 127 = ((x.1 % 128 : Nat) : Int) := by decide +kernel
theorem and_127 {x : Nat} (h : x < 256) : bits .and .u8 (x : Int) 127 = ((x % 128 : Nat) : Int) := and_127_all ⟨x, h⟩
theorem pow_128 (i : Nat) : (128 : Nat) ^ i = 2 ^ (7 * i) := by rw [Nat.pow_mul]
theorem shl_or {i s y acc : Nat} (hs : 7 * i = s) (hacc : acc < 128 ^ i) (hy : (i ≤ 8 ∧ y < 128) ∨ (i = 9 ∧ y ≤ 1)) :
    ∃ u z : Nat, IntKind.u64.wrap ((y : Int) * 2 ^ s) = (u : Int) ∧ bits .or .u64 (acc : Int) (u : Int) = (z : Int) ∧ z = acc + 128 ^ i * y := by
  have hp : (128 : Nat) ^ i = 2 ^ s := by rw [pow_128, hs]
  rw [hp] at hacc ⊢
  have hb : y * 2 ^ s ≤ 9223372036854775808 ∧ acc < 9223372036854775808 := by
    rcases hy with ⟨h1, h2⟩ | ⟨h1, h2⟩
    · have h3 : (2 : Nat) ^ s ≤ 2 ^ 56 := Nat.pow_le_pow_right (by omega) (by omega)
      have h4 : (2 : Nat) ^ 56 = 72057594037927936 := by decide
      have h5 : y * 2 ^ s ≤ 127 * 2 ^ s := Nat.mul_le_mul_right _ (by omega)
      omega
    · have h3 : s = 63 := by omega
      subst h3
      have h4 : (2 : Nat) ^ 63 = 9223372036854775808 := by decide
      rw [h4] at hacc ⊢
      have h5 : y * 9223372036854775808 ≤ 1 * 9223372036854775808 := Nat.mul_le_mul_right _ h2
      omega
  have hc : ((y : Int) * 2 ^ s) = ((y * 2 ^ s : Nat) : Int) := by push_cast; rfl
  refine ⟨y * 2 ^ s, acc + 2 ^ s * y, ?_, ?_, rfl⟩
  · rw [hc, IntKind.wrap_u64]; omega
  · rw [bits_or_u64_nat _ _ (by omega) (by omega), ← Nat.shiftLeft_eq, or_shl hacc, Nat.mul_comm]
set_option maxRecDepth 100000 in
set_option maxHeartbeats 8000000 in
theorem rnumP_go (rb n cap : Nat) (a : Option Addr) (l : List Nat) (w : World) (h : RD TR w rb a n cap (l, 0)) :
    Calls Try.prog 19 #[.pointer (some ⟨rb, 0, none⟩)] w fun ed w' => ed = .returned (.int .u64 ((numS (l, 0)).1 : Int)) ∧ RP TR rb (numS (l, 0)).2 w w' := by
  obtain ⟨m, hm⟩ : ∃ m, min 10 n = m := ⟨_, rfl⟩
  have hm1 : m ≤ 10 := by omega
  have hm2 : m ≤ n := by omega
  have hmi : min (10 : Int) (n : Int) = (m : Int) := by omega
  have hm3 : m = 10 ∨ m = n := by omega
  have hlen : l.length = n := h.len
  obtain ⟨c0, c1, cf⟩ := h.cells
  have H := Lib.hid h
  have h8 : ∀ x ∈ l, x < 256 := h.h8
  have hbl : BL w a l := h.bl
  clear h hm c1
  go_enter Try.func19, Try.ntmps19
  go_wp2_with fail
  refine (stopped_any rb n cap a (l, 0) false _ H.out rfl).mono ?_
  rintro e w1 ⟨rfl, hw⟩
  rw [hw]
  clear hw w1
  go_wp2_with fail
  all_goals
    clear hmi
    first
      | (have hmn : (n : Int) = (m : Int) := by omega
         rw [hmn]; clear hmn)
      | (have hmn : (10 : Int) = (m : Int) := by omega
         rw [hmn]; clear hmn)
    go_loopw [3, 4, 5, 14] (fun v u z t wr => wr = w ∧ ∃ (i acc : Nat), i ≤ m ∧ t = .int .i64 (i : Int) ∧ v = .int .u64 (acc : Int) ∧ acc < 128 ^ i ∧ numR 10 0 0 l = numR (10 - i) i acc (l.drop i)) (fun _ _ _ t _ => m - (intOf t).toNat)
    case atStart => exact ⟨rfl, 0, 0, by omega, rfl, rfl, by omega, rfl⟩
    case round =>
      obtain ⟨rfl, i, acc, hi, rfl, rfl, hacc, hR⟩ := hrel
      have HR := Lib.hid hR
      have HACC := Lib.hid hacc
      clear hR hacc
      by_cases hlt : i < m
      · have hlt' : (i : Int) < m := by omega
        have hi0 : (0 : Int) ≤ i := by omega
        have hin : (i : Int) < n := by omega
        obtain ⟨ad, x, rfl, hx, cx⟩ := hbl.cell (i := i) (by omega)
        have hx8 := h8 x (List.mem_of_getElem? hx)
        have hat := Lib.hid (numR_at (k := 9 - i) (n := acc) hx)
        clear hx hbl h8
        obtain ⟨y, hy⟩ : ∃ y, x % 128 = y := ⟨_, rfl⟩
        obtain ⟨s, hs⟩ : ∃ s, 7 * i = s := ⟨_, rfl⟩
        have hand : bits .and .u8 (x : Int) 127 = (y : Int) := by rw [and_127 hx8, hy]
        have e7 : IntKind.i64.wrap (7 * (i : Int)) = (s : Int) := by rw [IntKind.wrap_i64]; omega
        have HY := Lib.hid hy
        have HS := Lib.hid hs
        have hs64 : (s : Int) ≤ 64 := by omega
        have hs0 : (0 : Int) ≤ s := by omega
        have hsm : min (s : Int) 64 = s := by omega
        have hsw : IntKind.u64.wrap (s : Int) = s := by rw [IntKind.wrap_u64]; omega
        have hyw : IntKind.u64.wrap (y : Int) = y := by rw [IntKind.wrap_u64]; omega
        clear hs hy
        by_cases h9 : i = 9
        · have d9 : ((i : Int) == 9) = true := by simp; omega
          by_cases hx1 : 1 < x
          · have d1 : decide ((1 : Int) < x) = true := by simp; omega
            have HE := Lib.hid (And.intro h9 hx1)
            clear h9 hx1
            go_wp2_with fail
            refine (fail_any rb n cap (some ad) l 2 _ H.out).mono ?_
            rintro ed w2 ⟨⟨v2, rfl⟩, hD, hw2⟩
            subst hw2
            have E : Hid (numS (l, 0) = (0, (l, 2))) := by
              have e : numR 10 0 0 l = .error 2 := by
                rw [HR.out, show 10 - i = (9 - i) + 1 by have := HE.out; omega, hat.out, if_pos (.inl HE.out)]
              show _ = _
              simp [numS, e]
            go_wp2_with fail
            go_ret
            rw [E.out]
            exact ⟨rfl, ⟨_, _, _, hD⟩, (Wrote.refl _ _).setCell 1 _⟩
          · have d1 : decide ((1 : Int) < x) = false := by simp; omega
            obtain ⟨u, z, hu, hor, hz⟩ := shl_or (y := y) HS.out HACC.out (.inr ⟨h9, by have := HY.out; omega⟩)
            have h1 : x < 128 := by omega
            have H9 := Lib.hid h9
            have h9b : 0 < i := by omega
            clear h9
            by_cases h2 : x = 0 ∧ 0 < i
            · have H2 := Lib.hid h2
              have h2a : x ≤ 0 := by omega
              have h2b : 0 < i := h2.2
              clear h2
              have d0 : ((x : Int) == 0) = true := by simp; omega
              have di : decide ((0 : Int) < i) = true := by simp; omega
              have d128 : decide ((x : Int) < 128) = true := by simp; omega
              go_wp2_with fail
              refine (fail_any rb n cap (some ad) l 2 _ H.out).mono ?_
              rintro ed w2 ⟨⟨v2, rfl⟩, hD, hw2⟩
              subst hw2
              have E : Hid (numS (l, 0) = (0, (l, 2))) := by
                have e : numR 10 0 0 l = .error 2 := by
                  rw [HR.out, show 10 - i = (9 - i) + 1 by omega, hat.out, if_pos (.inr ⟨h2b, H2.out.1⟩)]
                show _ = _
                simp [numS, e]
              go_wp2_with fail
              go_ret
              rw [E.out]
              exact ⟨rfl, ⟨_, _, _, hD⟩, (Wrote.refl _ _).setCell 1 _⟩
            · have hx0 : ¬ x = 0 := by omega
              have d0 : ((x : Int) == 0) = false := by simp; omega
              have d128 : decide ((x : Int) < 128) = true := by simp; omega
              have hno : ¬ ((i = 9 ∧ 1 < x) ∨ (0 < i ∧ x = 0)) := by omega
              have E : Hid (numS (l, 0) = (z, (l.drop (i + 1), 0))) := by
                have e : numR 10 0 0 l = .ok (z, i + 1) := by
                  rw [HR.out, show 10 - i = (9 - i) + 1 by omega, hat.out, if_neg hno, if_pos h1, hz, ← HY.out, Nat.mod_eq_of_lt h1]
                show _ = _
                simp [numS, e]
              have hDr := Lib.hid (H.out.drop (z := i + 1) (by omega))
              obtain ⟨a3, ha3⟩ : ∃ a3, restA (some ad) (i + 1) cap = a3 := ⟨_, rfl⟩
              obtain ⟨n3, hn3⟩ : ∃ n3, n - (i + 1) = n3 := ⟨_, rfl⟩
              obtain ⟨c3, hc3⟩ : ∃ c3, cap - (i + 1) = c3 := ⟨_, rfl⟩
              have hrr : ∀ w, (Instr.slice 29 (.slice (some ad) n cap) (some (.int .i64 ((i : Int) + 1))) none none).run Try.prog w = .ok (.slice a3 n3 c3) w := fun w => by
                have := run_rest (some ad) n cap (i + 1) (by omega) w
                rw [ha3, hn3, hc3] at this
                simpa using this
              rw [ha3, hn3, hc3] at hDr
              have cf0 := cf 0
              clear ha3 hn3 hc3 hno hz
              have e1w : IntKind.i64.wrap ((i : Int) + 1) = (i : Int) + 1 := by rw [IntKind.wrap_i64]; omega
              go_wp2_with fail
              go_ret
              rw [E.out]
              exact ⟨rfl, ⟨_, _, _, hDr.out⟩, (Wrote.refl _ _).setCell 0 _⟩
        · have d9 : ((i : Int) == 9) = false := by simp; omega
          obtain ⟨u, z, hu, hor, hz⟩ := shl_or (y := y) HS.out HACC.out (.inl ⟨by omega, by have := HY.out; omega⟩)
          by_cases h1 : x < 128
          · by_cases h2 : x = 0 ∧ 0 < i
            · have H2 := Lib.hid h2
              have h2a : x ≤ 0 := by omega
              have h2b : 0 < i := h2.2
              clear h2
              have d0 : ((x : Int) == 0) = true := by simp; omega
              have di : decide ((0 : Int) < i) = true := by simp; omega
              have d128 : decide ((x : Int) < 128) = true := by simp; omega
              go_wp2_with fail
              refine (fail_any rb n cap (some ad) l 2 _ H.out).mono ?_
              rintro ed w2 ⟨⟨v2, rfl⟩, hD, hw2⟩
              subst hw2
              have E : Hid (numS (l, 0) = (0, (l, 2))) := by
                have e : numR 10 0 0 l = .error 2 := by
                  rw [HR.out, show 10 - i = (9 - i) + 1 by omega, hat.out, if_pos (.inr ⟨h2b, H2.out.1⟩)]
                show _ = _
                simp [numS, e]
              go_wp2_with fail
              go_ret
              rw [E.out]
              exact ⟨rfl, ⟨_, _, _, hD⟩, (Wrote.refl _ _).setCell 1 _⟩
            · by_cases hx0 : x = 0
              · have hx0a : x ≤ 0 := by omega
                have hx0b : i ≤ 0 := by omega
                clear hx0
                have d0 : ((x : Int) == 0) = true := by simp; omega
                have di : decide ((0 : Int) < i) = false := by simp; omega
                have d128 : decide ((x : Int) < 128) = true := by simp; omega
                have hno : ¬ ((i = 9 ∧ 1 < x) ∨ (0 < i ∧ x = 0)) := by omega
                have E : Hid (numS (l, 0) = (z, (l.drop (i + 1), 0))) := by
                  have e : numR 10 0 0 l = .ok (z, i + 1) := by
                    rw [HR.out, show 10 - i = (9 - i) + 1 by omega, hat.out, if_neg hno, if_pos h1, hz, ← HY.out, Nat.mod_eq_of_lt h1]
                  show _ = _
                  simp [numS, e]
                have hDr := Lib.hid (H.out.drop (z := i + 1) (by omega))
                obtain ⟨a3, ha3⟩ : ∃ a3, restA (some ad) (i + 1) cap = a3 := ⟨_, rfl⟩
                obtain ⟨n3, hn3⟩ : ∃ n3, n - (i + 1) = n3 := ⟨_, rfl⟩
                obtain ⟨c3, hc3⟩ : ∃ c3, cap - (i + 1) = c3 := ⟨_, rfl⟩
                have hrr : ∀ w, (Instr.slice 29 (.slice (some ad) n cap) (some (.int .i64 ((i : Int) + 1))) none none).run Try.prog w = .ok (.slice a3 n3 c3) w := fun w => by
                  have := run_rest (some ad) n cap (i + 1) (by omega) w
                  rw [ha3, hn3, hc3] at this
                  simpa using this
                rw [ha3, hn3, hc3] at hDr
                have cf0 := cf 0
                clear ha3 hn3 hc3 hno hz
                have e1w : IntKind.i64.wrap ((i : Int) + 1) = (i : Int) + 1 := by rw [IntKind.wrap_i64]; omega
                go_wp2_with fail
                go_ret
                rw [E.out]
                exact ⟨rfl, ⟨_, _, _, hDr.out⟩, (Wrote.refl _ _).setCell 0 _⟩
              · have d0 : ((x : Int) == 0) = false := by simp; omega
                have d128 : decide ((x : Int) < 128) = true := by simp; omega
                have hno : ¬ ((i = 9 ∧ 1 < x) ∨ (0 < i ∧ x = 0)) := by omega
                have E : Hid (numS (l, 0) = (z, (l.drop (i + 1), 0))) := by
                  have e : numR 10 0 0 l = .ok (z, i + 1) := by
                    rw [HR.out, show 10 - i = (9 - i) + 1 by omega, hat.out, if_neg hno, if_pos h1, hz, ← HY.out, Nat.mod_eq_of_lt h1]
                  show _ = _
                  simp [numS, e]
                have hDr := Lib.hid (H.out.drop (z := i + 1) (by omega))
                obtain ⟨a3, ha3⟩ : ∃ a3, restA (some ad) (i + 1) cap = a3 := ⟨_, rfl⟩
                obtain ⟨n3, hn3⟩ : ∃ n3, n - (i + 1) = n3 := ⟨_, rfl⟩
                obtain ⟨c3, hc3⟩ : ∃ c3, cap - (i + 1) = c3 := ⟨_, rfl⟩
                have hrr : ∀ w, (Instr.slice 29 (.slice (some ad) n cap) (some (.int .i64 ((i : Int) + 1))) none none).run Try.prog w = .ok (.slice a3 n3 c3) w := fun w => by
                  have := run_rest (some ad) n cap (i + 1) (by omega) w
                  rw [ha3, hn3, hc3] at this
                  simpa using this
                rw [ha3, hn3, hc3] at hDr
                have cf0 := cf 0
                clear ha3 hn3 hc3 hno hz
                have e1w : IntKind.i64.wrap ((i : Int) + 1) = (i : Int) + 1 := by rw [IntKind.wrap_i64]; omega
                go_wp2_with fail
                go_ret
                rw [E.out]
                exact ⟨rfl, ⟨_, _, _, hDr.out⟩, (Wrote.refl _ _).setCell 0 _⟩
          · have d128 : decide ((x : Int) < 128) = false := by simp; omega
            have E : Hid (numR 10 0 0 l = numR (10 - (i + 1)) (i + 1) z (l.drop (i + 1))) := by
              show _ = _
              rw [HR.out, show 10 - i = (9 - i) + 1 by omega, hat.out, if_neg (by omega), if_neg h1, hz, ← HY.out, show 10 - (i + 1) = 9 - i by omega]
            have hz2 : z < 128 ^ (i + 1) := by
              have h9 : 128 ^ i * y ≤ 128 ^ i * 127 := Nat.mul_le_mul_left _ (by have := HY.out; omega)
              have h10 := HACC.out
              rw [hz, Nat.pow_succ]; omega
            have HZ2 := Lib.hid hz2
            clear hz hz2
            go_wp2
            exact ⟨⟨by first | rfl | trivial, i + 1, z, by omega, by go_num, by go_num, HZ2.out, E.out⟩, by simp [intOf]; omega⟩
      · have hEnd : Hid (numS (l, 0) = (0, (l, 5))) := by
          have e : numR 10 0 0 l = .error 5 := by rw [HR.out]; exact numR_end (by omega)
          show _ = _
          simp [numS, e]
        go_wp2_with fail
        refine (fail_any rb n cap a l 5 _ H.out).mono ?_
        rintro ed w2 ⟨⟨v2, rfl⟩, hD, hw2⟩
        subst hw2
        go_wp2_with fail
        go_ret
        rw [hEnd.out]
        exact ⟨rfl, ⟨_, _, _, hD⟩, (Wrote.refl _ _).setCell 1 _⟩
end Go.Proofs.Ytcfbbimahbhgjaa
