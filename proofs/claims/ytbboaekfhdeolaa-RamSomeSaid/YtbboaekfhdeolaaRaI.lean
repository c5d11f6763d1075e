/- RamKeeps: the walk. -/
import Derived.Test.YtbboaekfhdeolaaRaN
import Derived.Test.YtbboaekfhdeolaaLnL
namespace Go.Proofs.Ytbboaekfhdeolaa
open Go.RowKit
set_option linter.unusedSimpArgs false
set_option linter.unusedVariables false
attribute [local simp high] sizeLL zeroLL

theorem storeR_supp {g : Nat → Nat → Nat} {L : Nat} (h : Supp L g) (addr : Nat) (n : Int) (v : Nat) : Supp L (storeR g L addr n v).1 := by
  unfold storeR
  split
  · rename_i hq
    obtain ⟨a1, a2, a3⟩ := has_t hq.2
    intro i hi h6
    rw [← h i hi h6]
    refine cellsL_ext fun j hj => ?_
    show storeG g _ _ _ i j = _
    unfold storeG putL
    rw [if_pos hj, if_neg (by omega), fl_at _ _ _ hj]
  · exact h
theorem supp_zero (L : Nat) : Supp L z10 := fun i _ _ => rfl
theorem clone_v (b m k L : Nat) (g : Nat → Nat → Nat) (w : World) (hS : Supp L g) (hL : L ≤ 4096) (hk : k < 1000000) (hR : RamAt w b m k L g) :
    Calls Try.prog 27 #[.pointer (some ⟨b, 0, none⟩)] w fun e w' => ∃ b' m' k', e = .returned (.pointer (some ⟨b', 0, none⟩)) ∧ RamAt w' b' m' k' L g ∧ Below w.heap.size w w' ∧ w.heap.size ≤ b' ∧ w.heap.size ≤ m' ∧ k' < 1000000 :=
  callsIn_wide.1 (clone_any b m k L g w hS hL hk hR)
theorem same_v {b m k b' m' k' L : Nat} {g g' : Nat → Nat → Nat} {q : Bool} (hq : q = true ↔ SameG g g') (w : World) (okg : ∀ i, OkL (g i)) (okg' : ∀ i, OkL (g' i)) (hS : Supp L g) (hL : L ≤ 4096) (hR : RamAt w b m k L g) (hR' : RamAt w b' m' k' L g') :
    Calls Try.prog 28 #[.pointer (some ⟨b, 0, none⟩), .pointer (some ⟨b', 0, none⟩)] w fun e w' => e = .returned (.bool q) ∧ Below w.heap.size w w' :=
  callsIn_wide.1 (same_any b m k b' m' k' L g g' q w okg okg' hS hL hR hR' hq)
theorem fl_store (g : Nat → Nat → Nat) (f n v : Nat) : fl (storeG g f n v) = putL (fl g) f n v := by
  funext p; exact fl_storeG g f n v p
theorem load_stored {g g2 : Nat → Nat → Nat} {L addr N v : Nat} (h : storeR g L addr (N : Int) v = (g2, true)) : loadR g2 L addr (N : Int) = (v % 256 ^ N, true) := by
  unfold storeR at h
  split at h
  · rename_i hq
    cases h
    unfold loadR
    rw [if_pos hq, Int.toNat_natCast, fl_store, put_get]
  · cases h
theorem store_false {g g2 : Nat → Nat → Nat} {L addr v : Nat} {n : Int} (h : storeR g L addr n v = (g2, false)) : g2 = g ∧ ¬ (n ≤ 8 ∧ hasR L addr n = true) := by
  unfold storeR at h
  split at h
  · cases h
  · rename_i hq; cases h; exact ⟨rfl, hq⟩
theorem load_byte {g g1 : Nat → Nat → Nat} {L o bb was : Nat} {q : Bool} (hb : bb < 256) (h : storeR g L o 1 bb = (g1, q)) (h2 : loadR g1 L o 1 = (was, true)) : was = bb := by
  unfold loadR at h2
  split at h2
  · rename_i hq
    unfold storeR at h
    rw [if_pos hq] at h
    cases h
    rw [fl_store] at h2
    have := put_get (fl g) (o - 2147483648) 1 bb
    simp only [Prod.mk.injEq, and_true] at h2
    rw [show (1 : Int).toNat = 1 from rfl, this] at h2
    omega
  · cases h2
theorem load_other {g g2 : Nat → Nat → Nat} {L addr o N v was : Nat} (h : storeR g L addr (N : Int) v = (g2, true)) (h2 : loadR g L o 1 = (was, true)) (hd : (N : Int) ≤ IntKind.u64.wrap ((o : Int) - addr)) (hao : addr < 18446744073709551616) (hoo : o < 18446744073709551616) : loadR g2 L o 1 = (was, true) := by
  unfold storeR at h
  split at h
  · rename_i hq
    cases h
    unfold loadR at h2 ⊢
    split at h2
    · rename_i hq1
      rw [if_pos hq1]
      simp only [Prod.mk.injEq, and_true] at h2 ⊢
      rw [← h2, fl_store, show (1 : Int).toNat = 1 from rfl, Int.toNat_natCast]
      obtain ⟨a1, a2, a3⟩ := has_t hq.2
      obtain ⟨b1, b2, b3⟩ := has_t hq1.2
      show putL (fl g) (addr - 2147483648) N v (o - 2147483648) + 256 * numL _ _ 0 = fl g (o - 2147483648) + 256 * numL _ _ 0
      have : putL (fl g) (addr - 2147483648) N v (o - 2147483648) = fl g (o - 2147483648) := by
        unfold putL
        rw [if_neg]
        rw [IntKind.wrap_u64] at hd
        rintro ⟨c1, c2⟩
        omega
      rw [this]
      simp only [numL]
    · cases h2
  · cases h
theorem mask_low (v N : Nat) (hv : v < 18446744073709551616) (h8 : N < 8) : bits BinOp.and IntKind.u64 (v : Int) ((2 ^ (8 * N) - 1 : Nat) : Int) = ((v % 256 ^ N : Nat) : Int) := by
  have hp : (256 : Nat) ^ N = 2 ^ (8 * N) := by rw [Nat.pow_mul]
  have hl : 2 ^ (8 * N) < 18446744073709551616 := by
    have := Nat.pow_lt_pow_right (a := 2) (by omega) (show 8 * N < 64 by omega)
    simpa using this
  rw [u64_and_nat _ _ hv (by omega), hp, Nat.and_two_pow_sub_one_eq_mod]
theorem mask_all (v : Nat) (hv : v < 18446744073709551616) : bits BinOp.and IntKind.u64 (v : Int) 18446744073709551615 = (v : Int) := by
  have h := u64_and_nat v 18446744073709551615 hv (by omega)
  have e : v &&& 18446744073709551615 = v % 18446744073709551616 := Nat.and_two_pow_sub_one_eq_mod (n := 64) v
  rw [e, Nat.mod_eq_of_lt hv] at h
  exact h
set_option maxRecDepth 100000 in
set_option maxHeartbeats 8000000 in
theorem ramkeeps_any (addr v o : Nat) (n : Int) (bb : Nat) (w : World) (ha : addr < 18446744073709551616) (hv : v < 18446744073709551616) (ho : o < 18446744073709551616) (hn1 : n ≤ 9223372036854775807) (hn0 : -9223372036854775808 ≤ n) (hb : bb < 256) :
    Calls Try.prog 6 #[.int .u64 (addr : Int), .int .u64 (v : Int), .int .u64 (o : Int), .int .i64 n, .int .u8 (bb : Int)] w fun e w' => e = .returned (.bool true) ∧ Below w.heap.size w w' := by
  obtain ⟨g1, q1, hg1⟩ : ∃ g q, storeR z10 3 o 1 bb = (g, q) := ⟨_, _, rfl⟩
  have o1 : ∀ i, OkL (g1 i) := by have := storeR_ok z10_ok 3 o 1 bb; rw [hg1] at this; exact this
  obtain ⟨was, there, hl1⟩ : ∃ x q, loadR g1 3 o 1 = (x, q) := ⟨_, _, rfl⟩
  obtain ⟨g2, q2, hg2⟩ : ∃ g q, storeR g1 3 addr n v = (g, q) := ⟨_, _, rfl⟩
  have o2 : ∀ i, OkL (g2 i) := by have := storeR_ok o1 3 addr n v; rw [hg2] at this; exact this
  have S1 : Hid (Supp 3 g1) := Lib.hid (by have := storeR_supp (supp_zero 3) o 1 bb; rw [hg1] at this; exact this)
  have S2 : Hid (Supp 3 g2) := Lib.hid (by have := storeR_supp S1.out addr n v; rw [hg2] at this; exact this)
  have G1 := Lib.hid hg1
  have G2 := Lib.hid hg2
  have L1 := Lib.hid hl1
  have O1 := Lib.hid o1
  have O2 := Lib.hid o2
  have O0 := Lib.hid z10_ok
  have HA := Lib.hid ha
  have HO := Lib.hid ho
  have HV := Lib.hid hv
  have HN := Lib.hid (And.intro hn0 hn1)
  have HB := Lib.hid hb
  have hbw : IntKind.u64.wrap (bb : Int) = (bb : Int) := by rw [IntKind.wrap_u64]; omega
  have hb0 : (0 : Int) ≤ bb := by omega
  have hb1' : (bb : Int) < 256 := by omega
  clear hg1 hl1 hg2 o1 o2 ha hv ho hn0 hn1 hb
  go_enter Try.func6, Try.ntmps6
  go_wp2_with fail
  refine (ramnew_yes 3 _ (by omega) (by omega)).mono ?_
  rintro e w1 ⟨rfl, hR1, hb1⟩
  have F1 := (Fr.refl w).step hb1
  obtain ⟨B, hB⟩ : ∃ B, w.heap.size + 1 = B := ⟨_, rfl⟩
  obtain ⟨M, hM⟩ : ∃ M, w.heap.size = M := ⟨_, rfl⟩
  have HM := Lib.hid hM
  rw [hB] at hR1 ⊢
  have hMle : w.heap.size ≤ M := by omega
  rw [hM] at hR1
  clear hB hM
  go_wp2_with fail
  refine (ramstore_v G1.out _ O0.out HO.out (by have := HB.out; omega) (by omega) (by omega) (by omega) hR1).mono ?_
  rintro e w2 ⟨rfl, hR2, W2⟩
  have F2 := W2.1 _ _ hMle F1
  go_wp2_with fail
  refine (ramload_v L1.out _ O1.out HO.out (by omega) (by omega) hR2).mono ?_
  rintro e w3 ⟨rfl, hb3⟩
  have hR3 := hR2.keep hb3
  have F3 := F2.step hb3
  go_wp2_with fail
  refine (clone_v _ _ _ _ _ _ S1.out (by omega) (by omega) hR3).mono ?_
  rintro e w4 ⟨b', m', k', rfl, hRc, hb4, hb'le, hm'le, hk'⟩
  have hR4 := hR3.keep hb4
  have F4 := F3.step hb4
  have hMlt : M < w3.heap.size := hR3.2.lt
  have hBlt : B < w3.heap.size := lt_of_at hR3.1
  go_wp2_with fail
  refine (ramstore_v G2.out _ O1.out HA.out HV.out HN.out.2 (by omega) (by omega) hR4).mono ?_
  rintro e w5 ⟨rfl, hR5, W5⟩
  have hRc5 := hRc.wrote W5 (by omega) (by omega)
  have F5 := W5.1 _ _ hMle F4
  clear W2 W5 hb3 hb4 F2 F3 F4 hR2 hR3 hR4 hRc F1
  cases q2 with
  | false =>
    obtain ⟨rfl, hno⟩ := store_false G2.out
    have hno' := Lib.hid hno
    clear hno
    go_wp2_with fail
    refine (same_v (q := true) ⟨fun _ _ _ => rfl, fun _ => rfl⟩ _ O2.out O2.out S2.out (by omega) hR5 hRc5).mono ?_
    rintro e w6 ⟨rfl, hb6⟩
    have F6 := F5.step hb6
    have hR6 := hR5.keep hb6
    clear hR5 hRc5 F5
    by_cases h1 : 1 ≤ n
    · have d1 : decide (1 ≤ n) = true := by simp [h1]
      by_cases h8 : n ≤ 8
      · have d8 : decide (n ≤ 8) = true := by simp [h8]
        have hh : hasR 3 addr n = false := by
          cases e : hasR 3 addr n with
          | false => rfl
          | true => exact absurd ⟨h8, e⟩ hno'.out
        go_wp2_with fail
        refine (ramhas_v hh _ HA.out HN.out.2 (by omega) hR6).mono ?_
        rintro e w7 ⟨rfl, rfl⟩
        go_wp2_with fail
        refine (live10_any _).mono ?_
        rintro e w8 ⟨rfl, hb8⟩
        have F8 := Lib.hid (F6.step hb8)
        go_wp2_with fail
        go_ret
        exact ⟨rfl, F8.out.1⟩
      · have d8 : decide (n ≤ 8) = false := by simp; omega
        go_wp2_with fail
        refine (live10_any _).mono ?_
        rintro e w8 ⟨rfl, hb8⟩
        have F8 := Lib.hid (F6.step hb8)
        go_wp2_with fail
        go_ret
        exact ⟨rfl, F8.out.1⟩
    · have d1 : decide (1 ≤ n) = false := by simp; omega
      go_wp2_with fail
      refine (live10_any _).mono ?_
      rintro e w8 ⟨rfl, hb8⟩
      have F8 := Lib.hid (F6.step hb8)
      go_wp2_with fail
      go_ret
      exact ⟨rfl, F8.out.1⟩
  | true =>
    obtain ⟨h8, hh⟩ : n ≤ 8 ∧ hasR 3 addr n = true := by
      have := G2.out
      unfold storeR at this
      split at this
      · assumption
      · cases this
    have h1 := (has_t hh).1
    obtain ⟨N, rfl⟩ : ∃ N : Nat, n = (N : Int) := ⟨n.toNat, by omega⟩
    clear hh
    have hNw : IntKind.u64.wrap (N : Int) = (N : Int) := by rw [IntKind.wrap_u64]; omega
    obtain ⟨x, mk, hx, hmk, hM⟩ : ∃ (x : Nat) (mk : Int), v % 256 ^ N = x ∧ (if (N : Int) < 8 then mk = IntKind.u64.wrap (IntKind.u64.wrap (2 ^ (8 * N)) - 1) else mk = 18446744073709551615) ∧ bits BinOp.and IntKind.u64 (v : Int) mk = (x : Int) := by
      by_cases h : N < 8
      · refine ⟨_, _, rfl, by rw [if_pos (by omega)], ?_⟩
        have e : IntKind.u64.wrap (IntKind.u64.wrap (2 ^ (8 * N)) - 1) = ((2 ^ (8 * N) - 1 : Nat) : Int) := by
          have hl : 2 ^ (8 * N) < 18446744073709551616 := by
            have := Nat.pow_lt_pow_right (a := 2) (by omega) (show 8 * N < 64 by omega)
            simpa using this
          have h0 : 0 < 2 ^ (8 * N) := Nat.pow_pos (by omega)
          have e2 : ((2 : Int) ^ (8 * N)) = ((2 ^ (8 * N) : Nat) : Int) := by simp
          rw [e2]
          generalize 2 ^ (8 * N) = y at hl h0
          rw [IntKind.wrap_u64, IntKind.wrap_u64]
          omega
        rw [e]
        exact mask_low v N HV.out h
      · have e8 : N = 8 := by omega
        subst e8
        refine ⟨_, _, rfl, by rw [if_neg (by omega)], ?_⟩
        rw [mask_all v HV.out, Nat.mod_eq_of_lt (by have := HV.out; simpa using this)]
    have LS := Lib.hid (load_stored G2.out)
    rw [hx] at LS
    have LO : Hid (∀ was, loadR g1 3 o 1 = (was, true) → (N : Int) ≤ IntKind.u64.wrap ((o : Int) - addr) → loadR g2 3 o 1 = (was, true)) := fun was h hd => load_other G2.out h hd HA.out HO.out
    have LB : Hid (there = true → was = bb) := fun h => load_byte HB.out G1.out (by rw [← h]; exact L1.out)
    clear hx
    go_wp2_with fail
    refine (ramload_v LS.out _ O2.out HA.out (by omega) (by omega) hR5).mono ?_
    rintro e w6 ⟨rfl, hb6⟩
    have F6 := F5.step hb6
    have hR6 := hR5.keep hb6
    clear hR5 hRc5 F5 hb6
    by_cases h : (N : Int) < 8
    · rw [if_pos h] at hmk
      subst hmk
      have dh : decide ((N : Int) < 8) = true := by simp; omega
      cases there with
      | false =>
        go_wp2_with fail
        refine (live10_any _).mono ?_
        rintro e w8 ⟨rfl, hb8⟩
        have F8 := Lib.hid (F6.step hb8)
        go_wp2_with fail
        go_ret
        exact ⟨rfl, F8.out.1⟩
      | true =>
        obtain rfl := LB.out rfl
        by_cases hd : (N : Int) ≤ IntKind.u64.wrap ((o : Int) - addr)
        · have dd : decide ((N : Int) ≤ IntKind.u64.wrap ((o : Int) - addr)) = true := by simp [hd]
          have LO2 := LO.out _ L1.out hd
          go_wp2_with fail
          refine (ramload_v LO2 _ O2.out HO.out (by omega) (by omega) hR6).mono ?_
          rintro e w7 ⟨rfl, hb7⟩
          have F7 := F6.step hb7
          go_wp2_with fail
          refine (live10_any _).mono ?_
          rintro e w8 ⟨rfl, hb8⟩
          have F8 := Lib.hid (F7.step hb8)
          go_wp2_with fail
          go_ret
          exact ⟨rfl, F8.out.1⟩
        · have dd : decide ((N : Int) ≤ IntKind.u64.wrap ((o : Int) - addr)) = false := by simp [hd]
          go_wp2_with fail
          refine (live10_any _).mono ?_
          rintro e w8 ⟨rfl, hb8⟩
          have F8 := Lib.hid (F6.step hb8)
          go_wp2_with fail
          go_ret
          exact ⟨rfl, F8.out.1⟩
    · rw [if_neg h] at hmk
      subst hmk
      have dh : decide ((N : Int) < 8) = false := by simp; omega
      cases there with
      | false =>
        go_wp2_with fail
        refine (live10_any _).mono ?_
        rintro e w8 ⟨rfl, hb8⟩
        have F8 := Lib.hid (F6.step hb8)
        go_wp2_with fail
        go_ret
        exact ⟨rfl, F8.out.1⟩
      | true =>
        obtain rfl := LB.out rfl
        by_cases hd : (N : Int) ≤ IntKind.u64.wrap ((o : Int) - addr)
        · have dd : decide ((N : Int) ≤ IntKind.u64.wrap ((o : Int) - addr)) = true := by simp [hd]
          have LO2 := LO.out _ L1.out hd
          go_wp2_with fail
          refine (ramload_v LO2 _ O2.out HO.out (by omega) (by omega) hR6).mono ?_
          rintro e w7 ⟨rfl, hb7⟩
          have F7 := F6.step hb7
          go_wp2_with fail
          refine (live10_any _).mono ?_
          rintro e w8 ⟨rfl, hb8⟩
          have F8 := Lib.hid (F7.step hb8)
          go_wp2_with fail
          go_ret
          exact ⟨rfl, F8.out.1⟩
        · have dd : decide ((N : Int) ≤ IntKind.u64.wrap ((o : Int) - addr)) = false := by simp [hd]
          go_wp2_with fail
          refine (live10_any _).mono ?_
          rintro e w8 ⟨rfl, hb8⟩
          have F8 := Lib.hid (F6.step hb8)
          go_wp2_with fail
          go_ret
          exact ⟨rfl, F8.out.1⟩
end Go.Proofs.Ytbboaekfhdeolaa
