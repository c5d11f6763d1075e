/- ram's of, Lines, Has, split, New. -/
import Derived.Test.YtdeheoaeagoidaaTwB
import Derived.Test.YtdeheoaeagoidaaHeld
namespace Go.Proofs.Ytdeheoaeagoidaa
open Go.RowKit
set_option linter.unusedSimpArgs false
set_option linter.unusedVariables false
attribute [local simp high] sizeLL zeroLL

/-- Block b of w is a ram of L lines; its map is block m. -/
def RamAt (w : World) (b m n L : Nat) (g : Nat → Nat → Nat) : Prop := w.heap[b]? = some (.cells #[.int .i64 (L : Int), .map (some m)] 90) ∧ MemAt w m n g
theorem RamAt.keep {w w' : World} {b m n L : Nat} {g : Nat → Nat → Nat} (h : RamAt w b m n L g) (hb : Below w.heap.size w w') : RamAt w' b m n L g := ⟨keepB hb h.1, h.2.keep hb⟩
theorem RamAt.cells {w : World} {b m n L : Nat} {g : Nat → Nat → Nat} (h : RamAt w b m n L g) : w.cell? ⟨b, 0, none⟩ = some (.int .i64 (L : Int)) ∧ w.cell? ⟨b, 1, none⟩ = some (.map (some m)) ∧ b < w.heap.size := by
  refine ⟨by rw [cell_at h.1]; rfl, by rw [cell_at h.1]; rfl, lt_of_at h.1⟩
set_option maxRecDepth 100000 in
set_option maxHeartbeats 2000000 in
theorem ramof_any (i : Nat) (w : World) (hi : i < 65536) :
    Calls Try.prog 85 #[.int .i64 (i : Int)] w fun e w' => e = .returned (keyV i) ∧ Below w.heap.size w w' := by
  have hk : Hid (keyV i = .agg #[.int .i64 ((i : Int) % 16), .int .i64 ((i : Int) / 16)]) := by
    show _ = _
    unfold keyV
    congr 2
  have hi0 : (0 : Int) ≤ i := by omega
  have hi1 : (i : Int) < 65536 := by omega
  go_enter Try.func85, Try.ntmps85
  go_wp2
  refine bodyPost_ret (v := .agg #[.int .i64 ((i : Int) % 16), .int .i64 ((i : Int) / 16)]) (by simp [results, Try.results85, go_sem]) rfl ⟨by rw [hk.out], ((Fr.refl w).alloc _).1⟩
set_option maxRecDepth 100000 in
set_option maxHeartbeats 2000000 in
theorem ramlines_any (b m n L : Nat) (g : Nat → Nat → Nat) (w : World) (h : RamAt w b m n L g) :
    Calls Try.prog 67 #[.pointer (some ⟨b, 0, none⟩)] w fun e w' => e = .returned (.int .i64 (L : Int)) ∧ w' = w := by
  obtain ⟨c0, c1, cl⟩ := h.cells
  go_enter Try.func67, Try.ntmps67
  go_wp2
  go_ret
  exact ⟨rfl, rfl⟩
/-- Are n bytes at an address there? -/
def hasR (L : Nat) (addr : Nat) (n : Int) : Bool := decide (1 ≤ n) && decide (2147483648 ≤ addr) && decide (((addr : Int) - 2147483648) + n ≤ 64 * (L : Int))
set_option maxRecDepth 100000 in
set_option maxHeartbeats 4000000 in
theorem ramhas_any (b m k L : Nat) (g : Nat → Nat → Nat) (addr : Nat) (n : Int) (w : World) (ha : addr < 18446744073709551616) (hn1 : n ≤ 9223372036854775807) (hL : L ≤ 4096) (h : RamAt w b m k L g) :
    Calls Try.prog 35 #[.pointer (some ⟨b, 0, none⟩), .int .u64 (addr : Int), .int .i64 n] w fun e w' => e = .returned (.bool (hasR L addr n)) ∧ w' = w := by
  obtain ⟨q, hq⟩ : ∃ q, hasR L addr n = q := ⟨_, rfl⟩
  rw [hq]
  unfold hasR at hq
  have HQ := Lib.hid hq
  clear hq
  by_cases h1 : n < 1
  · have hq0 : q = false := by rw [← HQ.out]; have : ¬ 1 ≤ n := by omega
                               simp [this]
    subst hq0
    have d1 : decide (n < 1) = true := by simp; omega
    go_enter Try.func35, Try.ntmps35
    go_wp2
    go_ret
    exact ⟨rfl, rfl⟩
  · have d1 : decide (n < 1) = false := by simp; omega
    by_cases h2 : addr < 2147483648
    · have hq0 : q = false := by rw [← HQ.out]; have : ¬ 2147483648 ≤ addr := by omega
                                 simp [this]
      subst hq0
      have d2 : decide ((addr : Int) < 2147483648) = true := by simp; omega
      go_enter Try.func35, Try.ntmps35
      go_wp2
      go_ret
      exact ⟨rfl, rfl⟩
    · obtain ⟨f, hf⟩ : ∃ f : Nat, (addr : Int) - 2147483648 = f := ⟨addr - 2147483648, by omega⟩
      have hf64 : f < 18446744073709551616 := by omega
      have hwr : IntKind.u64.wrap ((addr : Int) - 2147483648) = (f : Int) := by rw [IntKind.wrap_u64]; omega
      have HF := Lib.hid hf
      have d2 : decide ((addr : Int) < 2147483648) = false := by simp; omega
      have hL2 : (L : Int) ≤ 4096 := by omega
      have hL0 : (0 : Int) ≤ L := by omega
      by_cases h3 : f < 64 * L
      · have d3 : (f : Int) < (L : Int) * 64 := by omega
        have h4 : decide (n ≤ (L : Int) * 64 - f) = q := by
          rw [← HQ.out, HF.out]
          have a1 : decide (1 ≤ n) = true := by simp; omega
          have a2 : decide (2147483648 ≤ addr) = true := by simp; omega
          rw [a1, a2, Bool.eq_iff_iff]
          simp
          omega
        have hwn : IntKind.u64.wrap n = n := by rw [IntKind.wrap_u64]; omega
        have hw0 : IntKind.u64.wrap ((L : Int) * 64) = (L : Int) * 64 := by rw [IntKind.wrap_u64]; omega
        have hwl : IntKind.u64.wrap (L : Int) = (L : Int) := by rw [IntKind.wrap_u64]; omega
        have hws : IntKind.u64.wrap ((L : Int) * 64 - f) = (L : Int) * 64 - f := by rw [IntKind.wrap_u64]; omega
        clear hf ha hf64 hn1
        go_enter Try.func35, Try.ntmps35
        go_wp2_with fail
        refine (ramlines_any b m k L g _ h).mono ?_
        rintro e w1 ⟨rfl, hw⟩
        rw [hw]
        clear hw w1
        go_wp2
        go_ret
        exact ⟨by simp [h4], rfl⟩
      · have hq0 : q = false := by
          rw [← HQ.out, HF.out]
          have : ¬ ((f : Int) + n ≤ 64 * (L : Int)) := by omega
          simp [this]
        subst hq0
        have d3 : ¬ (f : Int) < (L : Int) * 64 := by omega
        have d4 : decide ((f : Int) < (L : Int) * 64) = false := by simp; omega
        have hwn : IntKind.u64.wrap n = n := by rw [IntKind.wrap_u64]; omega
        have hw0 : IntKind.u64.wrap ((L : Int) * 64) = (L : Int) * 64 := by rw [IntKind.wrap_u64]; omega
        have hwl : IntKind.u64.wrap (L : Int) = (L : Int) := by rw [IntKind.wrap_u64]; omega
        clear hf ha hf64 hn1
        go_enter Try.func35, Try.ntmps35
        go_wp2_with fail
        refine (ramlines_any b m k L g _ h).mono ?_
        rintro e w1 ⟨rfl, hw⟩
        rw [hw]
        clear hw w1
        go_wp2
        go_ret
        exact ⟨rfl, rfl⟩
theorem ramhas_v {b m k L : Nat} {g : Nat → Nat → Nat} {addr : Nat} {n : Int} {q : Bool} (hq : hasR L addr n = q) (w : World) (ha : addr < 18446744073709551616) (hn1 : n ≤ 9223372036854775807) (hL : L ≤ 4096) (h : RamAt w b m k L g) :
    Calls Try.prog 35 #[.pointer (some ⟨b, 0, none⟩), .int .u64 (addr : Int), .int .i64 n] w fun e w' => e = .returned (.bool q) ∧ w' = w := by
  rw [← hq]; exact ramhas_any b m k L g addr n w ha hn1 hL h
set_option maxRecDepth 100000 in
set_option maxHeartbeats 4000000 in
theorem ramsplit_any (f n : Nat) (w : World) (hf : f < 262144) (hn : (n : Int) ≤ 9223372036854775807) :
    Calls Try.prog 69 #[.int .u64 ((2147483648 + f : Nat) : Int), .int .i64 (n : Int)] w fun e w' => e = .returned (.tuple #[.int .i64 ((f / 64 : Nat) : Int), .int .i64 ((f % 64 : Nat) : Int), .int .i64 ((min n (64 - f % 64) : Nat) : Int)]) ∧ w' = w := by
  have ha : ((2147483648 + f : Nat) : Int) - 2147483648 = (f : Int) := by omega
  obtain ⟨addr, haddr⟩ : ∃ a, 2147483648 + f = a := ⟨_, rfl⟩
  rw [haddr] at ha ⊢
  have hb : addr < 18446744073709551616 := by omega
  have hb2 : (2147483648 : Int) ≤ addr := by omega
  have hwr : IntKind.u64.wrap ((addr : Int) - 2147483648) = (f : Int) := by rw [IntKind.wrap_u64]; omega
  have hw3 : IntKind.i64.wrap ((addr : Int) - 2147483648) = (f : Int) := by rw [IntKind.wrap_i64]; omega
  have hw4 : wrap64 ((addr : Int) - 2147483648) = (f : Int) := by unfold wrap64; omega
  have hbi : (addr : Int) < 18446744073709551616 := by omega
  clear haddr ha hb
  have hf0 : (0 : Int) ≤ f := by omega
  have hf1 : (f : Int) < 262144 := by omega
  obtain ⟨x, hx⟩ : ∃ x, f / 64 = x := ⟨_, rfl⟩
  obtain ⟨y, hy⟩ : ∃ y, f % 64 = y := ⟨_, rfl⟩
  obtain ⟨z, hz⟩ : ∃ z, min n (64 - y) = z := ⟨_, rfl⟩
  rw [hx, hy, hz]
  have hxi : (f : Int) / 64 = (x : Int) := by omega
  have hyi : (f : Int) % 64 = (y : Int) := by omega
  have hxt : Int.tdiv (f : Int) 64 = (x : Int) := by rw [Int.tdiv_eq_ediv_of_nonneg hf0]; exact hxi
  have hyt : Int.tmod (f : Int) 64 = (y : Int) := by rw [Int.tmod_eq_emod_of_nonneg hf0]; exact hyi
  have hy0 : (0 : Int) ≤ y := by omega
  have hy64 : (y : Int) < 64 := by omega
  have hwf : IntKind.i64.wrap (f : Int) = (f : Int) := by rw [IntKind.wrap_i64]; omega
  have hws : IntKind.i64.wrap (64 - (y : Int)) = 64 - (y : Int) := by rw [IntKind.wrap_i64]; omega
  have HZ := Lib.hid hz
  clear hf hx hy hz
  by_cases hm : 64 - (y : Int) < (n : Int)
  · have hz1 : (z : Int) = 64 - (y : Int) := by have := HZ.out; omega
    have HZ1 := Lib.hid hz1
    clear hz1
    go_enter Try.func69, Try.ntmps69
    go_wp2
    refine bodyPost_ret (v := .tuple #[.int .i64 (x : Int), .int .i64 (y : Int), .int .i64 (64 - (y : Int))]) (by simp [results, Try.results69, go_sem]) rfl ⟨by rw [HZ1.out], rfl⟩
  · have hz1 : (z : Int) = (n : Int) := by have := HZ.out; omega
    have HZ1 := Lib.hid hz1
    clear hz1
    go_enter Try.func69, Try.ntmps69
    go_wp2
    refine bodyPost_ret (v := .tuple #[.int .i64 (x : Int), .int .i64 (y : Int), .int .i64 (n : Int)]) (by simp [results, Try.results69, go_sem]) rfl ⟨by rw [HZ1.out], rfl⟩
end Go.Proofs.Ytdeheoaeagoidaa
