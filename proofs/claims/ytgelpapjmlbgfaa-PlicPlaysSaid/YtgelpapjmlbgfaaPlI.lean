/- The document's At of the plic. -/
import Derived.Test.YtgelpapjmlbgfaaPlP
import Derived.Test.YtgelpapjmlbgfaaPlB
namespace Go.Proofs.Ytgelpapjmlbgfaa
open Go.RowKit
set_option linter.unusedSimpArgs false
set_option linter.unusedVariables false

theorem sp_prio (n : Int) (off k : Nat) (h0 : n ≠ 0) (hk : 1 ≤ k) (hk2 : k < 32) (e : off = 4 * k) : spotP n off 4 = (1, k) := by
  unfold spotP
  rw [if_neg (by omega), if_pos (by omega), show off / 4 = k by omega]
theorem sp_wait (n : Int) (h0 : n ≠ 0) : spotP n 4096 4 = (2, 0) := by
  unfold spotP
  rw [if_neg (by omega), if_neg (by omega), if_pos rfl]
theorem sp_on (n : Int) (off c : Nat) (h0 : 1 ≤ n) (h8 : n ≤ 8) (hc : (c : Int) < 2 * n) (e : off = 8192 + 128 * c) : spotP n off 4 = (3, c) := by
  unfold spotP
  rw [if_neg (by omega), if_neg (by omega), if_neg (by omega), if_pos (by omega), show (off - 8192) / 128 = c by omega]
theorem sp_lv (n : Int) (off c : Nat) (h0 : 1 ≤ n) (h8 : n ≤ 8) (hc : (c : Int) < 2 * n) (e : off = 2097152 + 4096 * c) : spotP n off 4 = (4, c) := by
  unfold spotP
  rw [if_neg (by omega), if_neg (by omega), if_neg (by omega), if_neg (by omega), if_pos (by omega), show (off - 2097152) / 4096 = c by omega]
theorem sp_cl (n : Int) (off c : Nat) (h0 : 1 ≤ n) (h8 : n ≤ 8) (hc : (c : Int) < 2 * n) (e : off = 2097156 + 4096 * c) : spotP n off 4 = (5, c) := by
  unfold spotP
  rw [if_neg (by omega), if_neg (by omega), if_neg (by omega), if_neg (by omega), if_neg (by omega), if_pos (by omega), show (off - 2097152) / 4096 = c by omega]
theorem sp_miss (n : Int) (off : Nat) (h0 : 1 ≤ n) (h8 : n ≤ 8) (h1 : ∀ j, 1 ≤ j → j < 32 → off ≠ 4 * j) (h2 : off ≠ 4096) (h3 : ∀ c : Nat, (c : Int) < 2 * n → off ≠ 8192 + 128 * c ∧ off ≠ 2097152 + 4096 * c ∧ off ≠ 2097156 + 4096 * c) : spotP n off 4 = (0, 0) := by
  unfold spotP
  by_cases hm : off % 4 = 0
  · rw [if_neg (by omega)]
    rw [if_neg (by rintro ⟨a, b⟩; exact h1 (off / 4) (by omega) (by omega) (by omega))]
    rw [if_neg h2]
    rw [if_neg (by rintro ⟨a, b, c⟩; exact (h3 ((off - 8192) / 128) (by omega)).1 (by omega))]
    rw [if_neg (by rintro ⟨a, b, c⟩; exact (h3 ((off - 2097152) / 4096) (by omega)).2.1 (by omega))]
    rw [if_neg (by rintro ⟨a, b, c⟩; exact (h3 ((off - 2097152) / 4096) (by omega)).2.2 (by omega))]
  · rw [if_pos (Or.inr (Or.inl hm))]
set_option maxRecDepth 100000 in
set_option maxHeartbeats 4000000 in
theorem at_no (n : Int) (off : Nat) (size : Int) (w : World) (h : size ≠ 4 ∨ n = 0) :
    Calls Try.prog 26 #[.int .i64 n, .int .u64 (off : Int), .int .i64 size] w fun e w' => e = .returned (findW (0, 0)) ∧ w' = w := by
  by_cases h4 : size = 4
  · have hn : n = 0 := by omega
    subst hn h4
    go_enter Try.func26, Try.ntmps26
    go_wp2
    go_ret2
    exact ⟨rfl, rfl⟩
  · go_enter Try.func26, Try.ntmps26
    go_wp2
    go_ret2
    exact ⟨rfl, rfl⟩
set_option maxRecDepth 100000 in
set_option maxHeartbeats 4000000 in
theorem at_yes (n : Nat) (off : Nat) (w : World) (hoff : off < 18446744073709551616) (h0 : 1 ≤ n) (h8 : n ≤ 8) :
    Calls Try.prog 26 #[.int .i64 (n : Int), .int .u64 (off : Int), .int .i64 4] w fun e w' => e = .returned (findW (spotP (n : Int) off 4)) ∧ w' = w := by
  have hn0 : (1 : Int) ≤ n := by omega
  have hn8 : (n : Int) ≤ 8 := by omega
  have d1 : decide ((n : Int) < 1) = false := by simp; omega
  have d2 : decide (8 < (n : Int)) = false := by simp; omega
  go_enter Try.func26, Try.ntmps26
  go_wp2
  go_loopw [8] (fun i wr => ∃ k : Nat, 1 ≤ k ∧ k ≤ 32 ∧ i = .int .i64 (k : Int) ∧ Hid (∀ j, 1 ≤ j → j < k → off ≠ 4 * j) ∧ wr = w) (fun i _ => 32 - (intOf i).toNat)
  case atStart => exact ⟨1, by omega, by omega, rfl, (by show ∀ j, 1 ≤ j → j < 1 → off ≠ 4 * j; intro j a b; omega), rfl⟩
  case round =>
    obtain ⟨k, hk1, hk32, rfl, HN, rfl⟩ := hrel
    have hkk : (k : Int) ≤ 32 := by omega
    by_cases hlt : k < 32
    · have hlt' : (k : Int) < 32 := by omega
      by_cases he : off = 4 * k
      · have HE := Lib.hid (sp_prio n off k (by omega) hk1 hlt he)
        have he' : (off : Int) = 4 * (k : Int) := by omega
        have hbe : ((off : Int) == 4 * (k : Int)) = true := by simp; omega
        go_wp2
        go_ret2
        exact ⟨by rw [HE.out]; rfl, rfl⟩
      · have hne : ((off : Int) == 4 * (k : Int)) = false := by simp; omega
        go_wp2
        go_roundw
        case rel => exact ⟨k + 1, by omega, by omega, by go_num, (by show ∀ j, 1 ≤ j → j < k + 1 → off ≠ 4 * j; intro j a b; by_cases e : j = k; subst e; exact he; exact HN.out j a (by omega)), by trivial⟩
        case measure => simp [intOf]; omega
    · have e32 : k = 32 := by omega
      subst e32
      by_cases he : off = 4096
      · subst he
        have HE := Lib.hid (sp_wait n (by omega))
        go_wp2
        go_ret2
        exact ⟨by rw [HE.out]; rfl, rfl⟩
      · have hne : ((off : Int) == 4096) = false := by simp; omega
        go_wp2
        go_loopw [9] (fun i wr2 => ∃ c : Nat, c ≤ 2 * n ∧ i = .int .i64 (c : Int) ∧ Hid (∀ d, d < c → off ≠ 8192 + 128 * d ∧ off ≠ 2097152 + 4096 * d ∧ off ≠ 2097156 + 4096 * d) ∧ wr2 = wr) (fun i _ => 2 * n - (intOf i).toNat)
        case atStart => exact ⟨0, by omega, rfl, (by show ∀ d, d < 0 → _; intro d a; omega), rfl⟩
        case round =>
          obtain ⟨c, hc, rfl, HM, rfl⟩ := hrel
          have hcc : (c : Int) ≤ 2 * (n : Int) := by omega
          by_cases hl : c < 2 * n
          · have hl' : (c : Int) < 2 * (n : Int) := by omega
            have hc16 : (c : Int) < 16 := by omega
            by_cases e1 : off = 8192 + 128 * c
            · have HE := Lib.hid (sp_on n off c (by omega) (by omega) (by omega) e1)
              have hb1 : ((off : Int) == 8192 + 128 * (c : Int)) = true := by simp; omega
              go_wp2
              go_ret2
              exact ⟨by rw [HE.out]; rfl, rfl⟩
            · have hb1 : ((off : Int) == 8192 + 128 * (c : Int)) = false := by simp; omega
              by_cases e2 : off = 2097152 + 4096 * c
              · have HE := Lib.hid (sp_lv n off c (by omega) (by omega) (by omega) e2)
                have hb2 : ((off : Int) == 2097152 + 4096 * (c : Int)) = true := by simp; omega
                go_wp2
                go_ret2
                exact ⟨by rw [HE.out]; rfl, rfl⟩
              · have hb2 : ((off : Int) == 2097152 + 4096 * (c : Int)) = false := by simp; omega
                by_cases e3 : off = 2097156 + 4096 * c
                · have HE := Lib.hid (sp_cl n off c (by omega) (by omega) (by omega) e3)
                  have hb3 : ((off : Int) == 2097156 + 4096 * (c : Int)) = true := by simp; omega
                  go_wp2
                  go_ret2
                  exact ⟨by rw [HE.out]; rfl, rfl⟩
                · have hb3 : ((off : Int) == 2097156 + 4096 * (c : Int)) = false := by simp; omega
                  go_wp2
                  go_roundw
                  case rel => exact ⟨c + 1, by omega, by go_num, (by show ∀ d, d < c + 1 → _; intro d a; by_cases e : d = c; subst e; exact ⟨e1, e2, e3⟩; exact HM.out d (by omega)), by trivial⟩
                  case measure => simp [intOf]; omega
          · have ec : c = 2 * n := by omega
            have HE := Lib.hid (sp_miss n off (by omega) (by omega) HN.out he (fun d hd => HM.out d (by omega)))
            subst ec
            go_wp2
            go_ret2
            exact ⟨by rw [HE.out]; rfl, rfl⟩
theorem at_any (n : Int) (off : Nat) (size : Int) (w : World) (hoff : off < 18446744073709551616) (h0 : 0 ≤ n) (h8 : n ≤ 8) :
    Calls Try.prog 26 #[.int .i64 n, .int .u64 (off : Int), .int .i64 size] w fun e w' => e = .returned (findW (spotP n off size)) ∧ w' = w := by
  by_cases h : size ≠ 4 ∨ n = 0
  · have e : spotP n off size = (0, 0) := by unfold spotP; rw [if_pos (by omega)]
    rw [e]
    exact at_no n off size w h
  · obtain ⟨k, rfl⟩ := Int.eq_ofNat_of_zero_le h0
    have e4 : size = 4 := by omega
    subst e4
    exact at_yes k off w hoff (by omega) (by omega)
theorem at_v {n : Int} {off : Nat} {size : Int} {sp : Nat × Nat} (hs : spotP n off size = sp) (w : World) (hoff : off < 18446744073709551616) (h0 : 0 ≤ n) (h8 : n ≤ 8) :
    Calls Try.prog 26 #[.int .i64 n, .int .u64 (off : Int), .int .i64 size] w fun e w' => e = .returned (findW sp) ∧ w' = w := by
  rw [← hs]; exact at_any n off size w hoff h0 h8
end Go.Proofs.Ytgelpapjmlbgfaa
