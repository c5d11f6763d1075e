/- The document's Load. -/
import Derived.Test.YtbboaekfhdeolaaRpA
namespace Go.Proofs.Ytbboaekfhdeolaa
open Go.RowKit
set_option linter.unusedSimpArgs false
set_option linter.unusedVariables false
attribute [local simp high] sizeLL zeroLL

theorem rhas_v {c cap L T addr : Nat} {n : Int} {q : Bool} (hT : 64 * L = T) (hq : hasR L addr n = q) (w : World) (ha : addr < 18446744073709551616) (hn1 : n ≤ 9223372036854775807) (hL : L ≤ 4096) :
    Calls Try.prog 56 #[.agg #[.slice (some ⟨c, 0, none⟩) T cap], .int .u64 (addr : Int), .int .i64 n] w fun e w' => e = .returned (.bool q) ∧ Below w.heap.size w w' := by
  rw [← hq, ← hT]; exact rhas_any c cap L addr n w ha hn1 hL
theorem Fr.xb {w w' : World} {c n : Nat} {x : Nat → Nat} (h : XB w c n x) (hf : Fr w.heap.size w w') : XB w' c n x := h.keep hf.1
set_option maxRecDepth 100000 in
set_option maxHeartbeats 4000000 in
theorem rload_yes (c cap L f n addr : Nat) (x : Nat → Nat) (w : World) (hA : Hid (2147483648 + f = addr)) (ok : OkL x) (hf : f + n ≤ 64 * L) (h1 : 1 ≤ n) (h8 : n ≤ 8) (hL : L ≤ 4096) (hX : XB w c (64 * L) x) :
    Calls Try.prog 55 #[.agg #[.slice (some ⟨c, 0, none⟩) (64 * L) cap], .int .u64 (addr : Int), .int .i64 (n : Int)] w fun e w' => e = .returned (.tuple #[.int .u64 (numL x f n : Int), .bool true]) ∧ Below w.heap.size w w' := by
  have hh : hasR L addr (n : Int) = true := by rw [← hA.out]; exact has_true h1 hf
  have had : addr < 18446744073709551616 := by have := hA.out; omega
  obtain ⟨T, hT⟩ : ∃ T, 64 * L = T := ⟨_, rfl⟩
  have HT := Lib.hid hT
  have hfT : f + n ≤ T := by omega
  have hT1 : (T : Int) ≤ 262144 := by omega
  rw [hT] at hX ⊢
  have HAD := Lib.hid had
  have hwa : IntKind.u64.wrap ((addr : Int) - 2147483648) = (f : Int) := by rw [IntKind.wrap_u64]; have := hA.out; omega
  have hwi : IntKind.i64.wrap (f : Int) = (f : Int) := by rw [IntKind.wrap_i64]; omega
  have hnf : ¬ ((8 : Int) < n) := by omega
  have hn0 : (0 : Int) ≤ n := by omega
  clear had hT hf
  go_enter Try.func55, Try.ntmps55
  go_wp2_with fail
  refine (rhas_v HT.out hh _ HAD.out (by omega) hL).mono ?_
  rintro e w1 ⟨rfl, hb1⟩
  have hB := keepB hb1 (heap_alloc_new w (.cells #[.slice (some ⟨c, 0, none⟩) T cap] 66))
  have cB : w1.cell? ⟨w.heap.size, 0, none⟩ = some (.slice (some ⟨c, 0, none⟩) T cap) := by rw [cell_at hB]; rfl
  have hX1 := (hX.alloc _).keep hb1
  have F1 := Lib.hid (((Fr.refl w).alloc _).step hb1)
  clear hB hb1 hX
  have hwn1 : IntKind.i64.wrap ((n : Int) - 1) = (n : Int) - 1 := by rw [IntKind.wrap_i64]; omega
  go_wp2_with fail
  go_loopw [8, 9] (fun u i wr => ∃ k : Nat, k ≤ n ∧ i = .int .i64 ((k : Int) - 1) ∧ u = .int .u64 (numL x (f + k) (n - k) : Int) ∧ wr = w1)
    (fun _ i _ => (intOf i + 1).toNat)
  case atStart => exact ⟨n, by omega, by go_num, by simp [numL], rfl⟩
  case round =>
    obtain ⟨k, hk, rfl, rfl, rfl⟩ := hrel
    by_cases hk0 : k = 0
    · subst hk0
      go_wp2
      go_ret2
      exact ⟨by simp, F1.out.1⟩
    · obtain ⟨j, rfl⟩ : ∃ j, k = j + 1 := ⟨k - 1, by omega⟩
      have hi : ((j + 1 : Nat) : Int) - 1 = (j : Int) := by omega
      rw [hi]
      have hj0 : (0 : Int) ≤ j := by omega
      have cx := (hX1.2 (f + j) (by omega)).1
      obtain ⟨y, hy⟩ : ∃ y, numL x (f + (j + 1)) (n - (j + 1)) = y := ⟨_, rfl⟩
      obtain ⟨z, hz⟩ : ∃ z, x (f + j) = z := ⟨_, rfl⟩
      have hz8 : z < 256 := by rw [← hz]; exact ok _
      have hyb : y < 72057594037927936 := by
        have h7 : 256 ^ (n - (j + 1)) ≤ 256 ^ 7 := Nat.pow_le_pow_right (by omega) (by omega)
        have := numL_lt ok (n - (j + 1)) (f + (j + 1))
        rw [hy] at this
        have e7 : (256 : Nat) ^ 7 = 72057594037927936 := by decide
        omega
      have hnx : numL x (f + j) (n - j) = z + 256 * y := by
        rw [show n - j = (n - (j + 1)) + 1 from by omega]
        show x (f + j) + 256 * numL x (f + j + 1) (n - (j + 1)) = _
        rw [hz, ← hy]; rfl
      rw [hy]
      rw [hz] at cx
      have htn : ((f : Int) + (j : Int)).toNat = f + j := by omega
      have hij0 : (0 : Int) ≤ (f : Int) + j := by omega
      have hij1 : (f : Int) + j < T := by omega
      have hw1 : IntKind.u64.wrap ((y : Int) * 256) = (y : Int) * 256 := by rw [IntKind.wrap_u64]; omega
      have hw2 : IntKind.u64.wrap ((y : Int) * 256 + (z : Int)) = ((z + 256 * y : Nat) : Int) := by rw [IntKind.wrap_u64]; omega
      have hwz : IntKind.u64.wrap (z : Int) = (z : Int) := by rw [IntKind.wrap_u64]; omega
      have hwf : IntKind.i64.wrap ((f : Int) + (j : Int)) = (f : Int) + (j : Int) := by rw [IntKind.wrap_i64]; omega
      have hwj : IntKind.i64.wrap ((j : Int) - 1) = (j : Int) - 1 := by rw [IntKind.wrap_i64]; omega
      have HNX := Lib.hid hnx
      clear hnx hy hz hi hyb hz8
      go_wp2
      go_roundw
      case rel => exact ⟨j, by omega, by go_num, by rw [HNX.out]; simp, trivial⟩
      case measure => simp [intOf]
set_option maxRecDepth 100000 in
set_option maxHeartbeats 4000000 in
theorem rload_no (c cap L : Nat) (n : Int) (addr : Nat) (w : World) (ha : addr < 18446744073709551616) (hn1 : n ≤ 9223372036854775807) (hL : L ≤ 4096) (hq : ¬ (n ≤ 8 ∧ hasR L addr n = true)) :
    Calls Try.prog 55 #[.agg #[.slice (some ⟨c, 0, none⟩) (64 * L) cap], .int .u64 (addr : Int), .int .i64 n] w fun e w' => e = .returned (.tuple #[.int .u64 0, .bool false]) ∧ Below w.heap.size w w' := by
  obtain ⟨T, hT⟩ : ∃ T, 64 * L = T := ⟨_, rfl⟩
  have HT := Lib.hid hT
  rw [hT]
  have HA := Lib.hid ha
  have HN := Lib.hid hn1
  clear hT ha hn1
  by_cases h8 : n ≤ 8
  · have hh : hasR L addr n = false := by
      cases e : hasR L addr n with
      | false => rfl
      | true => exact absurd ⟨h8, e⟩ hq
    have d8 : ¬ 8 < n := by omega
    clear hq
    go_enter Try.func55, Try.ntmps55
    go_wp2_with fail
    refine (rhas_v HT.out hh _ HA.out HN.out hL).mono ?_
    rintro e w1 ⟨rfl, hb1⟩
    have F1 := Lib.hid (((Fr.refl w).alloc _).step hb1)
    go_wp2_with fail
    go_ret2
    exact ⟨rfl, F1.out.1⟩
  · have d8 : 8 < n := by omega
    clear hq h8
    go_enter Try.func55, Try.ntmps55
    go_wp2_with fail
    go_ret2
    exact ⟨rfl, ((Fr.refl w).alloc _).1⟩
theorem rload_any (c cap L : Nat) (g : Nat → Nat → Nat) (n : Int) (addr : Nat) (w : World) (okg : ∀ i, OkL (g i)) (ha : addr < 18446744073709551616) (hn1 : n ≤ 9223372036854775807) (hL : L ≤ 4096) (hX : XB w c (64 * L) (fl g)) :
    Calls Try.prog 55 #[.agg #[.slice (some ⟨c, 0, none⟩) (64 * L) cap], .int .u64 (addr : Int), .int .i64 n] w fun e w' => e = .returned (.tuple #[.int .u64 ((loadR g L addr n).1 : Int), .bool (loadR g L addr n).2]) ∧ Below w.heap.size w w' := by
  unfold loadR
  split
  · rename_i hq
    obtain ⟨a1, a2, a3⟩ := has_t hq.2
    obtain ⟨N, rfl⟩ : ∃ N : Nat, n = N := ⟨n.toNat, by omega⟩
    rw [Int.toNat_natCast]
    exact rload_yes c cap L (addr - 2147483648) N addr (fl g) w (Lib.hid (by omega)) (fl_ok okg) (by omega) (by omega) (by omega) hL hX
  · rename_i hq
    exact rload_no c cap L n addr w ha hn1 hL hq
end Go.Proofs.Ytbboaekfhdeolaa
