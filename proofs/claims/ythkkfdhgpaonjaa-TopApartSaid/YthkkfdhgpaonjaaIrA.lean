/- Layer 24: the document's share; what waits, what is taken. -/
import Derived.Test.YthkkfdhgpaonjaaCfH
import Derived.Test.YthkkfdhgpaonjaaMSv
import Derived.Test.YthkkfdhgpaonjaaTabG
import Derived.Test.YthkkfdhgpaonjaaTrA
namespace Go.Proofs.Ythkkfdhgpaonjaa
open Go.RowKit
set_option linter.unusedSimpArgs false
set_option linter.unusedVariables false

def shareF (a b c r : Nat) (k : Nat) : Bool := (a.testBit k && b.testBit k) && decide ((c.testBit k).toNat = r)
set_option maxRecDepth 100000 in
set_option maxHeartbeats 4000000 in
theorem share_any (a b c r : Nat) (w : World) (ha : a < 18446744073709551616) (hb : b < 18446744073709551616) (hc : c < 18446744073709551616) (hr : r ≤ 1) :
    Calls Try.prog 96 #[.int .u64 (a : Int), .int .u64 (b : Int), .int .u64 (c : Int), .int .u64 (r : Int)] w fun e w' => e = .returned (.int .u64 ((W64 (shareF a b c r) : Nat) : Int)) ∧ Below w.heap.size w w' := by
  obtain ⟨i0, hi, hz0, hz1, hz2⟩ := info_parts info_u64
  go_enter Try.func96, Try.ntmps96
  go_wp2
  go_loopw [9, 10] (fun v i wr => ∃ k : Nat, k ≤ 64 ∧ i = .int .i64 k ∧ wr.ownsRow w.heap.size 25 1 v k ((List.range k).map fun j => Value.int .u64 ((shareF a b c r j).toNat : Nat)) ∧ Fr w.heap.size w wr) (fun _ i _ => 64 - (intOf i).toNat)
  case atStart => exact ⟨0, by omega, rfl, World.ownsRow_nil _ _ _ _, Fr.refl w⟩
  case round =>
    obtain ⟨k, hk, rfl, hown, hfr⟩ := hrel
    by_cases hlt : k < 64
    · have HA := bitv a k ha hlt
      have HB := bitv b k hb hlt
      have HC := bitv c k hc hlt
      obtain ⟨t, ht⟩ : ∃ t, (shareF a b c r k).toNat = t := ⟨_, rfl⟩
      have HP := Lib.hid (own_push' ht)
      have hyes : (c.testBit k).toNat = r → IntKind.u64.wrap ((((a.testBit k).toNat : Nat) : Int) * (((b.testBit k).toNat : Nat) : Int)) = (t : Int) := by
        intro e
        rw [← ht]; unfold shareF; simp only [e, decide_true, Bool.and_true]; cases a.testBit k <;> cases b.testBit k <;> rfl
      have hno : (c.testBit k).toNat ≠ r → t = 0 := by
        intro e
        rw [← ht]; unfold shareF; simp [e]
      obtain ⟨p, hp⟩ : ∃ p, (a.testBit k).toNat = p := ⟨_, rfl⟩
      obtain ⟨q, hq⟩ : ∃ q, (b.testBit k).toNat = q := ⟨_, rfl⟩
      obtain ⟨u, hu⟩ : ∃ u, (c.testBit k).toNat = u := ⟨_, rfl⟩
      rw [hp] at HA hyes
      rw [hq] at HB hyes
      rw [hu] at HC hyes hno
      have p1 : p ≤ 1 := by rw [← hp]; cases a.testBit k <;> decide
      have q1 : q ≤ 1 := by rw [← hq]; cases b.testBit k <;> decide
      have u1 : u ≤ 1 := by rw [← hu]; cases c.testBit k <;> decide
      have HHA := Lib.hid HA
      have HHB := Lib.hid HB
      have HHC := Lib.hid HC
      clear HA HB HC ht hp hq hu
      by_cases hur : u = r
      · have HM := Lib.hid (hyes hur)
        clear hyes hno
        subst hur
        go_wp2_with fail
        refine (bit_v HHA.out _ ha).mono ?_
        rintro e w' ⟨rfl, rfl⟩
        go_wp2_with fail
        refine (bit_v HHB.out _ hb).mono ?_
        rintro e w' ⟨rfl, rfl⟩
        go_wp2_with (first | (rw [HM.out]))
        refine (bit_v HHC.out _ hc).mono ?_
        rintro e w' ⟨rfl, rfl⟩
        go_wp2_with (first
          | (rw [HM.out])
          | (at_builtin; refine wpList_append_own _ rfl _ _ 87 rfl w.heap.size 25 i0 (.int .u64 0) 1 8 Try.underlying87 hi hz0 hz1 hz2 rfl (by decide) _ _ _ rfl (hown.alloc _) ⟨wr.heap.size, 0, none⟩ 1 1 [.int .u64 (t : Int)] rfl rfl (one_new _ _ _) (one_cell _) (by unfold maxLen; omega) (by omega) (by have := hfr.2; simp; omega) ?_; intro v' w1 hown1 hgrow1 _; rw [← HP.out] at hown1; have hfr1 := Fr.grown (hfr.alloc _) hgrow1 (own_ge hown)))
        go_roundw
        case rel => exact ⟨k + 1, by omega, by go_num, hown1, hfr1⟩
        case measure => simp [intOf]; omega
      · obtain rfl := hno hur
        clear hyes hno
        have hur1 : ((u : Int) != (r : Int)) = true := by simp; omega
        go_wp2_with fail
        refine (bit_v HHA.out _ ha).mono ?_
        rintro e w' ⟨rfl, rfl⟩
        go_wp2_with fail
        refine (bit_v HHB.out _ hb).mono ?_
        rintro e w' ⟨rfl, rfl⟩
        go_wp2_with fail
        refine (bit_v HHC.out _ hc).mono ?_
        rintro e w' ⟨rfl, rfl⟩
        go_wp2_with (first
          | (at_builtin; refine wpList_append_own _ rfl _ _ 87 rfl w.heap.size 25 i0 (.int .u64 0) 1 8 Try.underlying87 hi hz0 hz1 hz2 rfl (by decide) _ _ _ rfl (hown.alloc _) ⟨wr.heap.size, 0, none⟩ 1 1 [.int .u64 ((0 : Nat) : Int)] rfl rfl (one_new _ _ _) (one_cell _) (by unfold maxLen; omega) (by omega) (by have := hfr.2; simp; omega) ?_; intro v' w1 hown1 hgrow1 _; rw [← HP.out] at hown1; have hfr1 := Fr.grown (hfr.alloc _) hgrow1 (own_ge hown)))
        go_roundw
        case rel => exact ⟨k + 1, by omega, by go_num, hown1, hfr1⟩
        case measure => simp [intOf]; omega
    · obtain rfl : k = 64 := by omega
      obtain ⟨g, cap, rfl, hg, hcells⟩ := own_cells hown (by omega)
      obtain ⟨y, hy⟩ : ∃ y, W64 (shareF a b c r) = y := ⟨_, rfl⟩
      have hy64 : y < 18446744073709551616 := by rw [← hy]; exact W64_lt _
      have hc : ∀ k, k < 64 → wr.cell? ⟨g, k, none⟩ = some (.int .u64 ((y.testBit k).toNat : Nat)) := fun k hk => by
        rw [hcells k hk, ← hy]
        simp [hk, W64, mkW_bit]
      have hc' := Lib.hid hc
      have hcells' := Lib.hid hcells
      have HY := Lib.hid hy
      clear hc hcells hy
      go_wp2_with fail
      refine (of_any _ hy64 g cap _ hc'.out).mono ?_
      rintro e w' ⟨rfl, rfl⟩
      go_wp2
      go_ret
      exact ⟨by rw [HY.out]; rfl, hfr.1⟩
theorem ones_sub (d i : Nat) (hd : d < 18446744073709551616) : (18446744073709551615 - d).testBit i = (decide (i < 64) && !d.testBit i) := by
  have h := Nat.testBit_two_pow_sub_succ (n := 64) (x := d) (by omega) i
  rw [show 18446744073709551615 - d = 2 ^ 64 - (d + 1) from by omega, h]
theorem share0 (a b d : Nat) (ha : a < 18446744073709551616) : W64 (shareF a b d 0) = a &&& b &&& (18446744073709551615 - d) ∨ ¬ d < 18446744073709551616 := by
  by_cases hd : d < 18446744073709551616
  · left
    refine (W64_eq (Nat.lt_of_le_of_lt Nat.and_le_left (and_lt ha)) fun i hi => ?_).symm
    rw [Nat.testBit_and, Nat.testBit_and, ones_sub _ _ hd]
    unfold shareF
    cases d.testBit i <;> simp [hi]
  · right; exact hd
theorem share1 (a b d : Nat) (ha : a < 18446744073709551616) : W64 (shareF a b d 1) = a &&& b &&& d := by
  refine (W64_eq (Nat.lt_of_le_of_lt Nat.and_le_left (and_lt ha)) fun i hi => ?_).symm
  rw [Nat.testBit_and, Nat.testBit_and]
  unfold shareF
  cases d.testBit i <;> simp
theorem share00 (a b : Nat) (ha : a < 18446744073709551616) : W64 (shareF a b 0 0) = a &&& b := by
  refine (W64_eq (and_lt ha) fun i hi => ?_).symm
  rw [Nat.testBit_and]
  unfold shareF
  simp
theorem own772 : ownIx 772 = some 10 := by decide +kernel
def waitOf (s : FS) (L : Nat) : Nat := getOf s 836 L &&& s.g 10
def machOf (s : FS) (L : Nat) : Nat := waitOf s L &&& (18446744073709551615 - s.g 9)
def supOf (s : FS) (L : Nat) : Nat := waitOf s L &&& s.g 9
def supN (s : FS) (p : Int) (L : Nat) : Option Int := if letsOf (s.g 7) p 1 = true then firstOf (supOf s L) else none
def nextOf (s : FS) (p : Int) (L : Nat) : Option Int := if letsOf (s.g 7) p 3 = true ∧ (firstOf (machOf s L)).isSome = true then firstOf (machOf s L) else supN s p L
end Go.Proofs.Ythkkfdhgpaonjaa
