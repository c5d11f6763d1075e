/- The document's At. -/
import Derived.Test.YtgelpapjmlbgfaaClF
namespace Go.Proofs.Ytgelpapjmlbgfaa
open Go.RowKit
set_option linter.unusedSimpArgs false
set_option linter.unusedVariables false

def atV : Sp → Value
  | .no => .tuple #[.int .i64 0, .int .i64 0, .int .i64 0]
  | .soft h => .tuple #[.int .i64 1, .int .i64 (h : Int), .int .i64 0]
  | .cmp h k => .tuple #[.int .i64 2, .int .i64 (h : Int), .int .i64 (k : Int)]
  | .time k => .tuple #[.int .i64 3, .int .i64 0, .int .i64 (k : Int)]

set_option maxRecDepth 100000 in
set_option maxHeartbeats 2000000 in
theorem at_other (n size : Int) (off : Nat) (w : World) (hoff : off < 18446744073709551616) (hn0 : 0 ≤ n) (hn8 : n ≤ 8) (h4 : size ≠ 4) (h8 : size ≠ 8) :
    Calls Try.prog 17 #[.int .i64 n, .int .u64 (off : Int), .int .i64 size] w fun e w' => e = .returned (atV .no) ∧ w' = w := by
  have e4 : (size == 4) = false := by simpa using h4
  have e8 : (size == 8) = false := by simpa using h8
  go_enter Try.func17, Try.ntmps17
  go_wp2
  go_loop [9] (fun i => ∃ k : Nat, (k : Int) ≤ n ∧ i = .int .i64 k) (fun i => 8 - (intOf i).toNat)
  case atStart => exact ⟨0, by omega, rfl⟩
  case round =>
    obtain ⟨k, hk, rfl⟩ := hrel
    by_cases hlt : (k : Int) < n
    · go_wp2
      go_round
      case rel => exact ⟨k + 1, by omega, by go_num⟩
      case measure => simp [intOf]; omega
    · have hkn : (k : Int) = n := by omega
      by_cases h0 : 0 < n
      · go_wp2
        exact bodyPost_ret (v := .tuple #[.int .i64 0, .int .i64 0, .int .i64 0]) (by simp [results, Try.results17]) rfl ⟨rfl, rfl⟩
      · go_wp2
        exact bodyPost_ret (v := .tuple #[.int .i64 0, .int .i64 0, .int .i64 0]) (by simp [results, Try.results17]) rfl ⟨rfl, rfl⟩

theorem spot8_cmp (n : Int) (k : Nat) (hk : (k : Int) < n) (h8 : n ≤ 8) : spot n (16384 + 8 * k) 8 = .cmp k 0 := by
  rw [spot_cmp n (16384 + 8 * k) 8 (by omega) (by omega) (by omega)]
  unfold kOf
  rw [if_pos rfl]
  congr 1; omega
theorem spot8_end (n : Int) (off : Nat) (hn : 0 ≤ n) (hno : ∀ j : Nat, (j : Int) < n → off ≠ 16384 + 8 * j) : spot n off 8 = (if 0 < n ∧ off = 49144 then .time 0 else .no) := by
  by_cases h8 : off % 8 = 0
  · by_cases ht : 0 < n ∧ off = 49144
    · rw [if_pos ht, spot_time n off 8 (by omega) (by omega)]; rfl
    · rw [if_neg ht, spot_none n off 8 (by omega) (by omega)]
      intro hc
      exact hno ((off - 16384) / 8) (by omega) (by omega)
  · rw [if_neg (by omega), spot_odd n off 8 (by omega) (fun _ => h8)]

set_option maxRecDepth 100000 in
set_option maxHeartbeats 2000000 in
theorem at_8 (n : Int) (off : Nat) (w : World) (hoff : off < 18446744073709551616) (hn0 : 0 ≤ n) (hn8 : n ≤ 8) :
    Calls Try.prog 17 #[.int .i64 n, .int .u64 (off : Int), .int .i64 8] w fun e w' => e = .returned (atV (spot n off 8)) ∧ w' = w := by
  go_enter Try.func17, Try.ntmps17
  go_wp2
  go_loop [9] (fun i => ∃ k : Nat, (k : Int) ≤ n ∧ i = .int .i64 k ∧ Hid (∀ j : Nat, j < k → off ≠ 16384 + 8 * j)) (fun i => 8 - (intOf i).toNat)
  case atStart => exact ⟨0, by omega, rfl, Lib.hid (by omega)⟩
  case round =>
    obtain ⟨k, hk, rfl, H⟩ := hrel
    by_cases hlt : (k : Int) < n
    · by_cases hm : off = 16384 + 8 * k
      · have HS := Lib.hid (spot8_cmp n k hlt hn8)
        have e1 : ((off : Int) == 16384 + 8 * (k : Int)) = true := by simp; omega
        go_wp2
        exact bodyPost_ret (v := .tuple #[.int .i64 2, .int .i64 (k : Int), .int .i64 0]) (by simp [results, Try.results17]) rfl ⟨by rw [HS.out]; rfl, rfl⟩
      · have e1 : ((off : Int) == 16384 + 8 * (k : Int)) = false := by simp; omega
        go_wp2
        go_round
        case rel => exact ⟨k + 1, by omega, by go_num, Lib.hid (fun j hj => by
          by_cases hjk : j = k
          · subst hjk; exact hm
          · exact H.out j (by omega))⟩
        case measure => simp [intOf]; omega
    · have hkn : (k : Int) = n := by omega
      have HE := Lib.hid (spot8_end n off hn0 (fun j hj => H.out j (by omega)))
      by_cases h0 : 0 < n
      · by_cases ho : off = 49144
        · subst ho
          go_wp2
          exact bodyPost_ret (v := .tuple #[.int .i64 3, .int .i64 0, .int .i64 0]) (by simp [results, Try.results17]) rfl ⟨by rw [HE.out, if_pos (by simp [h0])]; rfl, rfl⟩
        · have e1 : ((off : Int) == 49144) = false := by simp; omega
          go_wp2
          exact bodyPost_ret (v := .tuple #[.int .i64 0, .int .i64 0, .int .i64 0]) (by simp [results, Try.results17]) rfl ⟨by rw [HE.out, if_neg (by omega)]; rfl, rfl⟩
      · go_wp2
        exact bodyPost_ret (v := .tuple #[.int .i64 0, .int .i64 0, .int .i64 0]) (by simp [results, Try.results17]) rfl ⟨by rw [HE.out, if_neg (by omega)]; rfl, rfl⟩

theorem spot4_soft (n : Int) (k : Nat) (hk : (k : Int) < n) : spot n (4 * k) 4 = .soft k := by
  rw [spot_soft n (4 * k) (by omega) (by omega)]
  congr 1; omega
theorem spot4_lo (n : Int) (k : Nat) (hk : (k : Int) < n) (h8 : n ≤ 8) : spot n (16384 + 8 * k) 4 = .cmp k 1 := by
  rw [spot_cmp n (16384 + 8 * k) 4 (by omega) (by omega) (by omega)]
  unfold kOf
  rw [if_neg (by omega), if_pos (by omega)]
  congr 1; omega
theorem spot4_hi (n : Int) (k : Nat) (hk : (k : Int) < n) (h8 : n ≤ 8) : spot n (16384 + 8 * k + 4) 4 = .cmp k 2 := by
  rw [spot_cmp n (16384 + 8 * k + 4) 4 (by omega) (by omega) (by omega)]
  unfold kOf
  rw [if_neg (by omega), if_neg (by omega)]
  congr 1; omega
theorem spot4_end (n : Int) (off : Nat) (hn : 0 ≤ n) (hn8 : n ≤ 8) (hno : ∀ j : Nat, (j : Int) < n → off ≠ 4 * j ∧ off ≠ 16384 + 8 * j ∧ off ≠ 16384 + 8 * j + 4) : spot n off 4 = (if 0 < n ∧ off = 49144 then .time 1 else if 0 < n ∧ off = 49148 then .time 2 else .no) := by
  by_cases h4 : off % 4 = 0
  · have hsoft : n ≤ ((off / 4 : Nat) : Int) := by
      rcases Int.lt_or_le ((off / 4 : Nat) : Int) n with h | h
      · exact absurd (hno (off / 4) h).1 (by omega)
      · exact h
    by_cases ht : 0 < n ∧ off = 49144
    · rw [if_pos ht, spot_time n off 4 (by omega) (by omega)]
      unfold kOf
      rw [if_neg (by omega), if_pos (by omega)]
    · rw [if_neg ht]
      by_cases ht2 : 0 < n ∧ off = 49148
      · rw [if_pos ht2, spot_time n off 4 (by omega) (by omega)]
        unfold kOf
        rw [if_neg (by omega), if_neg (by omega)]
      · rw [if_neg ht2, spot_none n off 4 (by omega) (by omega)]
        intro hc
        have := hno ((off - off % 8 - 16384) / 8) (by omega)
        omega
  · rw [if_neg (by omega), if_neg (by omega), spot_odd n off 4 (fun _ => h4) (by omega)]

set_option maxRecDepth 100000 in
set_option maxHeartbeats 2000000 in
theorem at_4 (n : Int) (off : Nat) (w : World) (hoff : off < 18446744073709551616) (hn0 : 0 ≤ n) (hn8 : n ≤ 8) :
    Calls Try.prog 17 #[.int .i64 n, .int .u64 (off : Int), .int .i64 4] w fun e w' => e = .returned (atV (spot n off 4)) ∧ w' = w := by
  go_enter Try.func17, Try.ntmps17
  go_wp2
  go_loop [9] (fun i => ∃ k : Nat, (k : Int) ≤ n ∧ i = .int .i64 k ∧ Hid (∀ j : Nat, j < k → off ≠ 4 * j ∧ off ≠ 16384 + 8 * j ∧ off ≠ 16384 + 8 * j + 4)) (fun i => 8 - (intOf i).toNat)
  case atStart => exact ⟨0, by omega, rfl, Lib.hid (by omega)⟩
  case round =>
    obtain ⟨k, hk, rfl, H⟩ := hrel
    by_cases hlt : (k : Int) < n
    · by_cases hm : off = 4 * k
      · have HS := Lib.hid (spot4_soft n k hlt)
        have e1 : ((off : Int) == 4 * (k : Int)) = true := by simp; omega
        go_wp2
        exact bodyPost_ret (v := .tuple #[.int .i64 1, .int .i64 (k : Int), .int .i64 0]) (by simp [results, Try.results17]) rfl ⟨by rw [HS.out]; rfl, rfl⟩
      · have e1 : ((off : Int) == 4 * (k : Int)) = false := by simp; omega
        by_cases hm2 : off = 16384 + 8 * k
        · have HS := Lib.hid (spot4_lo n k hlt hn8)
          have e2 : ((off : Int) == 16384 + 8 * (k : Int)) = true := by simp; omega
          go_wp2
          exact bodyPost_ret (v := .tuple #[.int .i64 2, .int .i64 (k : Int), .int .i64 1]) (by simp [results, Try.results17]) rfl ⟨by rw [HS.out]; rfl, rfl⟩
        · have e2 : ((off : Int) == 16384 + 8 * (k : Int)) = false := by simp; omega
          by_cases hm3 : off = 16384 + 8 * k + 4
          · have HS := Lib.hid (spot4_hi n k hlt hn8)
            have e3 : ((off : Int) == 16384 + 8 * (k : Int) + 4) = true := by simp; omega
            go_wp2
            exact bodyPost_ret (v := .tuple #[.int .i64 2, .int .i64 (k : Int), .int .i64 2]) (by simp [results, Try.results17]) rfl ⟨by rw [HS.out]; rfl, rfl⟩
          · have e3 : ((off : Int) == 16384 + 8 * (k : Int) + 4) = false := by simp; omega
            go_wp2
            go_round
            case rel => exact ⟨k + 1, by omega, by go_num, Lib.hid (fun j hj => by
              by_cases hjk : j = k
              · subst hjk; exact ⟨hm, hm2, hm3⟩
              · exact H.out j (by omega))⟩
            case measure => simp [intOf]; omega
    · have hkn : (k : Int) = n := by omega
      have HE := Lib.hid (spot4_end n off hn0 hn8 (fun j hj => H.out j (by omega)))
      by_cases h0 : 0 < n
      · by_cases ho : off = 49144
        · subst ho
          go_wp2
          exact bodyPost_ret (v := .tuple #[.int .i64 3, .int .i64 0, .int .i64 1]) (by simp [results, Try.results17]) rfl ⟨by rw [HE.out, if_pos (by simp [h0])]; rfl, rfl⟩
        · have e1 : ((off : Int) == 49144) = false := by simp; omega
          by_cases ho2 : off = 49148
          · subst ho2
            go_wp2
            exact bodyPost_ret (v := .tuple #[.int .i64 3, .int .i64 0, .int .i64 2]) (by simp [results, Try.results17]) rfl ⟨by rw [HE.out, if_neg (by omega), if_pos (by simp [h0])]; rfl, rfl⟩
          · have e2 : ((off : Int) == 49148) = false := by simp; omega
            go_wp2
            exact bodyPost_ret (v := .tuple #[.int .i64 0, .int .i64 0, .int .i64 0]) (by simp [results, Try.results17]) rfl ⟨by rw [HE.out, if_neg (by omega), if_neg (by omega)]; rfl, rfl⟩
      · go_wp2
        exact bodyPost_ret (v := .tuple #[.int .i64 0, .int .i64 0, .int .i64 0]) (by simp [results, Try.results17]) rfl ⟨by rw [HE.out, if_neg (by omega), if_neg (by omega)]; rfl, rfl⟩

theorem at_any (n size : Int) (off : Nat) (w : World) (hoff : off < 18446744073709551616) (hn0 : 0 ≤ n) (hn8 : n ≤ 8) :
    Calls Try.prog 17 #[.int .i64 n, .int .u64 (off : Int), .int .i64 size] w fun e w' => e = .returned (atV (spot n off size)) ∧ w' = w := by
  by_cases h8 : size = 8
  · subst h8; exact at_8 n off w hoff hn0 hn8
  · by_cases h4 : size = 4
    · subst h4; exact at_4 n off w hoff hn0 hn8
    · rw [spot_other n off size h4 h8]; exact at_other n size off w hoff hn0 hn8 h4 h8
end Go.Proofs.Ytgelpapjmlbgfaa
