/- RamPlays: the ways that do not play. -/
import Derived.Test.YtbboaekfhdeolaaRpL
namespace Go.Proofs.Ytbboaekfhdeolaa
open Go.RowKit
set_option linter.unusedSimpArgs false
set_option linter.unusedVariables false
attribute [local simp high] sizeLL zeroLL sizeLR zeroLR

/-- A deed as a value. -/
def deedA (kd : Int) (addr : Nat) (n : Int) (v : Nat) (a : Option Addr) (len cap : Nat) : Value := .agg #[.int .i64 kd, .int .u64 (addr : Int), .int .i64 n, .int .u64 (v : Int), .slice a len cap]
theorem sameG_eqB {g g' : Nat → Nat → Nat} {L : Nat} (hS : Supp L g) (hS' : Supp L g') (hL : L ≤ 4096) : SameG g' g ↔ eqB (fl g) (fl g') (64 * L) = true := by
  rw [eqB_iff]
  constructor
  · intro h i hi
    have := h (i / 64) (by omega)
    exact (cells_inj this (i % 64) (by omega)).symm
  · intro h i hi
    by_cases hl : i < L
    · refine cellsL_ext fun j hj => ?_
      have := h (64 * i + j) (by omega)
      rw [fl_at _ _ _ hj, fl_at _ _ _ hj] at this
      exact this.symm
    · rw [hS i (by omega) hi, hS' i (by omega) hi]
theorem rcopy_v {c cap L : Nat} {g : Nat → Nat → Nat} (w : World) (h1 : 1 ≤ L) (hL : L ≤ 4096) (hX : XB w c (64 * L) (fl g)) :
    Calls Try.prog 35 #[.agg #[.slice (some ⟨c, 0, none⟩) (64 * L) cap]] w fun e w' => ∃ c' cap', e = .returned (.agg #[.slice (some ⟨c', 0, none⟩) (64 * L) cap']) ∧ XB w' c' (64 * L) (fl g) ∧ w.heap.size ≤ c' ∧ Below w.heap.size w w' := rcopy_any c cap L (fl g) w h1 hL hX
theorem rnew_v (L : Nat) (w : World) (h1 : 1 ≤ L) (hL : L ≤ 4096) :
    Calls Try.prog 32 #[.int .i64 (L : Int)] w fun e w' => ∃ c, e = .returned (.agg #[.slice (some ⟨c, 0, none⟩) (64 * L) (64 * L)]) ∧ XB w' c (64 * L) (fl z10) ∧ w.heap.size ≤ c ∧ Below w.heap.size w w' := rnew_any L w h1 hL
set_option maxRecDepth 100000 in
set_option maxHeartbeats 8000000 in
theorem rplays_no (lines : Int) (a : Option Addr) (len cap : Nat) (kd : Int) (addr : Nat) (n : Int) (v : Nat) (a' : Option Addr) (l' c' : Nat) (w : World) (hn : ¬ (1 ≤ lines ∧ lines ≤ 4096)) :
    Calls Try.prog 7 #[.int .i64 lines, .slice a len cap, deedA kd addr n v a' l' c'] w fun e w' => e = .returned (.bool true) ∧ Below w.heap.size w w' := by
  unfold deedA
  have HN := Lib.hid hn
  have F0 := (Fr.refl w).alloc (.cells #[.int .i64 kd, .int .u64 (addr : Int), .int .i64 n, .int .u64 (v : Int), .slice a' l' c'] 63)
  go_enter Try.func7, Try.ntmps7
  go_wp2_with fail
  refine (ramnew_no lines _ HN.out).mono ?_
  rintro e w1 ⟨rfl, hb1⟩
  have F1 := F0.step hb1
  clear F0 hb1
  by_cases h1 : lines < 1
  · have d1 : decide (lines < 1) = true := by simp; omega
    clear hn
    go_wp2_with fail
    refine (live10_any _).mono ?_
    rintro e w2 ⟨rfl, hb2⟩
    have F2 := Lib.hid (F1.step hb2)
    go_wp2_with fail
    go_ret
    exact ⟨rfl, F2.out.1⟩
  · have d1 : decide (lines < 1) = false := by simp; omega
    have d2 : decide (4096 < lines) = true := by simp; omega
    clear hn
    go_wp2_with fail
    refine (live10_any _).mono ?_
    rintro e w2 ⟨rfl, hb2⟩
    have F2 := Lib.hid (F1.step hb2)
    go_wp2_with fail
    go_ret
    exact ⟨rfl, F2.out.1⟩
set_option maxRecDepth 100000 in
set_option maxHeartbeats 8000000 in
theorem rplays_many (L : Nat) (a : Option Addr) (len cap : Nat) (kd : Int) (addr : Nat) (n : Int) (v : Nat) (a' : Option Addr) (l' c' : Nat) (w : World) (h1 : 1 ≤ L) (hL : L ≤ 4096) (hl : len ≤ 9223372036854775807) (hl' : l' ≤ 9223372036854775807) (hD : RDeeds w a len)
    (hq : 30 < L ∨ 60 < len ∨ ¬ Few w a len ∨ 500 < l') :
    Calls Try.prog 7 #[.int .i64 (L : Int), .slice a len cap, deedA kd addr n v a' l' c'] w fun e w' => e = .returned (.bool true) ∧ Below w.heap.size w w' := by
  unfold deedA
  have HD := Lib.hid hD
  have HQ := Lib.hid hq
  clear hD hq
  have F0 := (Fr.refl w).alloc (.cells #[.int .i64 kd, .int .u64 (addr : Int), .int .i64 n, .int .u64 (v : Int), .slice a' l' c'] 63)
  have k0 := heap_alloc_new w (.cells #[.int .i64 kd, .int .u64 (addr : Int), .int .i64 n, .int .u64 (v : Int), .slice a' l' c'] 63)
  have d1 : decide ((L : Int) < 1) = false := by simp; omega
  have d2 : decide ((4096 : Int) < L) = false := by simp; omega
  go_enter Try.func7, Try.ntmps7
  go_wp2_with fail
  refine (ramnew_yes L _ h1 hL).mono ?_
  rintro e w1 ⟨rfl, hR1, hb1⟩
  have F1 := F0.step hb1
  have k1 := keepB hb1 k0
  clear F0 hb1 k0
  by_cases h3 : 30 < L
  · have d3 : decide ((30 : Int) < L) = true := by simp; omega
    go_wp2_with fail
    refine (live10_any _).mono ?_
    rintro e w2 ⟨rfl, hb2⟩
    have F2 := Lib.hid (F1.step hb2)
    go_wp2_with fail
    go_ret
    exact ⟨rfl, F2.out.1⟩
  · have d3 : decide ((30 : Int) < L) = false := by simp; omega
    have DD := Lib.hid (rdeeds_keep HD.out F1.1)
    go_wp2_with fail
    refine (great_any a len cap _ hl DD.out).mono ?_
    rintro e w2 ⟨q, rfl, hq, hqt, rfl⟩
    clear hqt
    cases q with
    | true =>
      clear hq
      go_wp2_with fail
      refine (live10_any _).mono ?_
      rintro e w2 ⟨rfl, hb2⟩
      have F2 := Lib.hid (F1.step hb2)
      go_wp2_with fail
      go_ret
      exact ⟨rfl, F2.out.1⟩
    | false =>
      have hq' := hq rfl
      have h5 : 500 < l' := by
        rcases HQ.out with h | h | h | h
        · exact absurd h h3
        · omega
        · exact absurd (few_back HD.out F1.1 hq'.2) h
        · exact h
      clear hq hq'
      have c4 : w2.cell? ⟨w.heap.size, 4, none⟩ = some (.slice a' l' c') := by rw [cell_at k1]; rfl
      have d5 : decide ((500 : Int) < l') = true := by simp; omega
      go_wp2_with fail
      refine (live10_any _).mono ?_
      rintro e w3 ⟨rfl, hb2⟩
      have F2 := Lib.hid (F1.step hb2)
      go_wp2_with fail
      go_ret
      exact ⟨rfl, F2.out.1⟩
end Go.Proofs.Ytbboaekfhdeolaa
