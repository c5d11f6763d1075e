/- Lines: the document's Of; fits of both; Get of both. -/
import Derived.Test.YtbboaekfhdeolaaLnB
namespace Go.Proofs.Ytbboaekfhdeolaa
open Go.RowKit
set_option linter.unusedSimpArgs false
set_option linter.unusedVariables false
attribute [local simp high] sizeLL zeroLL sizeLR zeroLR

theorem ofL_step (b : Nat → Nat) (k : Nat) (hk : k < 64) : updL (ofL b k) k (b k) = ofL b (k + 1) := by
  funext j
  unfold updL ofL
  by_cases h : j = k
  · subst h; rw [if_pos rfl, if_pos (by omega)]
  · rw [if_neg h]
    by_cases h2 : j < k ∧ j < 64
    · rw [if_pos h2, if_pos (by omega)]
    · rw [if_neg h2, if_neg (by omega)]
theorem ofL_end (b : Nat → Nat) (k len : Nat) (hk : k ≤ len) (h : k = len ∨ 64 ≤ k) : ofL b k = ofL b len := by
  funext j
  unfold ofL
  by_cases h2 : j < k ∧ j < 64
  · rw [if_pos h2, if_pos (by omega)]
  · rw [if_neg h2, if_neg (by omega)]
theorem Fr.bytes {w w' : World} {a : Option Addr} {len : Nat} {b : Nat → Nat} (h : Bytes w a len b) (hf : Fr w.heap.size w w') : Bytes w' a len b := h.keep hf.1
set_option maxRecDepth 100000 in
set_option maxHeartbeats 2000000 in
theorem rof_any (a : Option Addr) (len cap : Nat) (b : Nat → Nat) (w : World) (hb : Bytes w a len b) (hlen : len ≤ 9223372036854775807) :
    Calls Try.prog 10 #[.slice a len cap] w fun e w' => e = .returned (.agg (cellsL (ofL b len))) ∧ Below w.heap.size w w' := by
  have l3 := size_cellsL
  have HB := Lib.hid hb
  clear hb
  go_enter Try.func10, Try.ntmps10
  go_wp2
  obtain ⟨w1, hw1⟩ : ∃ w1, w1 = (w.alloc (.cells (cellsL fun _ => 0) 25)).alloc (.cells (cellsL fun _ => 0) 25) := ⟨_, rfl⟩
  have hf : Fr w.heap.size w w1 := by rw [hw1]; exact ((Fr.refl w).alloc _).alloc _
  have h0 : w1.heap[w.heap.size]? = some (.cells (cellsL fun _ => 0) 25) := by rw [hw1]; exact keep_alloc (heap_alloc_new _ _) _
  have h1 : w1.heap[w.heap.size + 1]? = some (.cells (cellsL (ofL b 0)) 25) := by rw [hw1, ofL_zero]; simpa using heap_alloc_new (w.alloc (.cells (cellsL fun _ => 0) 25)) (.cells (cellsL fun _ => 0) 25)
  rw [← hw1]
  clear hw1
  go_loopw [4] (fun i wr => ∃ k : Nat, k ≤ len ∧ k ≤ 64 ∧ i = .int .i64 k ∧ Fr w.heap.size w wr ∧ wr.heap[w.heap.size]? = some (.cells (cellsL fun _ => 0) 25) ∧ wr.heap[w.heap.size + 1]? = some (.cells (cellsL (ofL b k)) 25)) (fun i _ => 64 - (intOf i).toNat)
  case atStart => exact ⟨0, by omega, by omega, rfl, hf, h0, h1⟩
  case round =>
    clear hf h0 h1
    obtain ⟨k, hk, hk6, rfl, hfr, hr0, hr1⟩ := hrel
    by_cases hlt : k < len
    · by_cases h64 : k < 64
      · obtain ⟨ad, rfl, hbl, hc⟩ := hfr.bytes HB.out k hlt
        have d1 : decide ((k : Int) < len) = true := by simp; omega
        have d2 : decide ((k : Int) < 64) = true := by simp; omega
        have hk0 : (0 : Int) ≤ k := by omega
        have c1 := knownL hr1 h64
        have hlt1 := lt_of_at hr1
        have hfz : ∀ o, wr.frozen? ⟨w.heap.size + 1, o, none⟩ = false := fun o => by simp [World.frozen?, hr1]
        have e1 := setL hr1 h64 (b k)
        rw [ofL_step b k h64] at e1
        have e0 := keep_setCell hr0 (p := ⟨w.heap.size + 1, k, none⟩) (by simp) (.int .u8 (b k : Int))
        have ef := hfr.setCell (p := ⟨w.heap.size + 1, k, none⟩) (by simp) (.int .u8 (b k : Int))
        have E := Lib.hid (And.intro ef (And.intro e0 e1))
        clear e0 e1 ef hr0 hr1 hfr
        go_wp2
        go_roundw
        case rel => exact ⟨k + 1, by omega, by omega, by go_num, E.out⟩
        case measure => simp [intOf]; omega
      · have d1 : decide ((k : Int) < len) = true := by simp; omega
        have d2 : decide ((k : Int) < 64) = false := by simp; omega
        have ld := ld_rowL (P := Try.prog) hr1
        have st := st_rowL Try.prog hr0 (ofL b k)
        have e0 := row_at hr0 (cellsL (ofL b k))
        go_wp2
        refine bodyPost_ret (v := .agg (cellsL (ofL b k))) (by simp [results, Try.results10, asAddr, lvLR e0]) rfl ⟨by rw [ofL_end b k len hk (Or.inr (by omega))], (hfr.row (Nat.le_refl _) _).1⟩
    · have d1 : decide ((k : Int) < len) = false := by simp; omega
      have ld := ld_rowL (P := Try.prog) hr1
      have st := st_rowL Try.prog hr0 (ofL b k)
      have e0 := row_at hr0 (cellsL (ofL b k))
      go_wp2
      refine bodyPost_ret (v := .agg (cellsL (ofL b k))) (by simp [results, Try.results10, asAddr, lvLR e0]) rfl ⟨by rw [ofL_end b k len hk (Or.inl (by omega))], (hfr.row (Nat.le_refl _) _).1⟩

theorem lfits_any (a n : Int) (w : World) :
    Calls Try.prog 44 #[.int .i64 a, .int .i64 n] w fun e w' => e = .returned (.bool (fitB a n)) ∧ w' = w := by
  by_cases h1 : 1 ≤ n
  · by_cases h2 : n ≤ 8
    · by_cases h3 : 0 ≤ a
      · by_cases h4 : a + n ≤ 64
        · have H : Hid (fitB a n = true) := by show _ = _; simp [fitB, h1, h2, h3, h4]
          have d4 : decide (a ≤ 64 - n) = true := by simp; omega
          go_enter Try.func44, Try.ntmps44
          go_wp2
          go_ret
          exact ⟨by rw [H.out] <;> rfl, rfl⟩
        · have H : Hid (fitB a n = false) := by show _ = _; exact fitB_f (by omega)
          have d4 : decide (a ≤ 64 - n) = false := by simp; omega
          go_enter Try.func44, Try.ntmps44
          go_wp2
          go_ret
          exact ⟨by rw [H.out] <;> rfl, rfl⟩
      · have H : Hid (fitB a n = false) := by show _ = _; exact fitB_f (by omega)
        have d3 : decide (0 ≤ a) = false := by simp; omega
        go_enter Try.func44, Try.ntmps44
        go_wp2
        go_ret
        exact ⟨by rw [H.out] <;> rfl, rfl⟩
    · have H : Hid (fitB a n = false) := by show _ = _; exact fitB_f (by omega)
      have d3 : decide (n ≤ 8) = false := by simp; omega
      go_enter Try.func44, Try.ntmps44
      go_wp2
      go_ret
      exact ⟨by rw [H.out] <;> rfl, rfl⟩
  · have H : Hid (fitB a n = false) := by show _ = _; exact fitB_f (by omega)
    have d3 : decide (1 ≤ n) = false := by simp; omega
    go_enter Try.func44, Try.ntmps44
    go_wp2
    go_ret
    exact ⟨by rw [H.out] <;> rfl, rfl⟩
theorem rfits_any (a n : Int) (w : World) :
    Calls Try.prog 45 #[.int .i64 a, .int .i64 n] w fun e w' => e = .returned (.bool (fitB a n)) ∧ w' = w := by
  by_cases h1 : 1 ≤ n
  · by_cases h2 : n ≤ 8
    · by_cases h3 : 0 ≤ a
      · by_cases h5 : a ≤ 63
        · have d1 : decide (n < 1) = false := by simp; omega
          have d2 : decide (8 < n) = false := by simp; omega
          have d3 : decide (a < 0) = false := by simp; omega
          have d5 : decide (63 < a) = false := by simp; omega
          by_cases h4 : a + n ≤ 64
          · have H : Hid (fitB a n = true) := by show _ = _; simp [fitB, h1, h2, h3, h4]
            go_enter Try.func45, Try.ntmps45
            go_wp2
            go_ret
            exact ⟨by rw [H.out] <;> rfl, rfl⟩
          · have H : Hid (fitB a n = false) := by show _ = _; exact fitB_f (by omega)
            have d4 : decide (a + n ≤ 64) = false := by simp; omega
            go_enter Try.func45, Try.ntmps45
            go_wp2
            go_ret
            exact ⟨by rw [H.out] <;> rfl, rfl⟩
        · have H : Hid (fitB a n = false) := by show _ = _; exact fitB_f (by omega)
          have d1 : decide (n < 1) = false := by simp; omega
          have d2 : decide (8 < n) = false := by simp; omega
          have d3 : decide (a < 0) = false := by simp; omega
          have d5 : decide (63 < a) = true := by simp; omega
          go_enter Try.func45, Try.ntmps45
          go_wp2
          go_ret
          exact ⟨by rw [H.out] <;> rfl, rfl⟩
      · have H : Hid (fitB a n = false) := by show _ = _; exact fitB_f (by omega)
        have d1 : decide (n < 1) = false := by simp; omega
        have d2 : decide (8 < n) = false := by simp; omega
        have d3 : decide (a < 0) = true := by simp; omega
        go_enter Try.func45, Try.ntmps45
        go_wp2
        go_ret
        exact ⟨by rw [H.out] <;> rfl, rfl⟩
    · have H : Hid (fitB a n = false) := by show _ = _; exact fitB_f (by omega)
      have d1 : decide (n < 1) = false := by simp; omega
      have d2 : decide (8 < n) = true := by simp; omega
      go_enter Try.func45, Try.ntmps45
      go_wp2
      go_ret
      exact ⟨by rw [H.out] <;> rfl, rfl⟩
  · have H : Hid (fitB a n = false) := by show _ = _; exact fitB_f (by omega)
    have d1 : decide (n < 1) = true := by simp; omega
    go_enter Try.func45, Try.ntmps45
    go_wp2
    go_ret
    exact ⟨by rw [H.out] <;> rfl, rfl⟩
end Go.Proofs.Ytbboaekfhdeolaa
