/- The document's Store and Fill. -/
import Derived.Test.YtbboaekfhdeolaaRpB
namespace Go.Proofs.Ytbboaekfhdeolaa
open Go.RowKit
set_option linter.unusedSimpArgs false
set_option linter.unusedVariables false
attribute [local simp high] sizeLL zeroLL

theorem Wrote.set {m : Nat} {w w' : World} (h : Wrote m w w') (o : Nat) (v : Value) : Wrote m w (w'.setCell ⟨m, o, none⟩ v) := h.setCell o v
set_option maxRecDepth 100000 in
set_option maxHeartbeats 4000000 in
theorem rstore_yes (c cap L f n v addr : Nat) (x : Nat → Nat) (w : World) (hA : Hid (2147483648 + f = addr)) (hv : v < 18446744073709551616) (hf : f + n ≤ 64 * L) (h1 : 1 ≤ n) (h8 : n ≤ 8) (hL : L ≤ 4096) (hX : XB w c (64 * L) x) :
    Calls Try.prog 52 #[.agg #[.slice (some ⟨c, 0, none⟩) (64 * L) cap], .int .u64 (addr : Int), .int .i64 (n : Int), .int .u64 (v : Int)] w fun e w' => e = .returned (.bool true) ∧ Wrote c w w' ∧ XB w' c (64 * L) (putL x f n v) := by
  have hh : hasR L addr (n : Int) = true := by rw [← hA.out]; exact has_true h1 hf
  have had : addr < 18446744073709551616 := by have := hA.out; omega
  obtain ⟨T, hT⟩ : ∃ T, 64 * L = T := ⟨_, rfl⟩
  have HT := Lib.hid hT
  have hfT : f + n ≤ T := by omega
  have hT1 : (T : Int) ≤ 262144 := by omega
  rw [hT] at hX ⊢
  have HAD := Lib.hid had
  have HV := Lib.hid hv
  have hwa : IntKind.u64.wrap ((addr : Int) - 2147483648) = (f : Int) := by rw [IntKind.wrap_u64]; have := hA.out; omega
  have hwi : IntKind.i64.wrap (f : Int) = (f : Int) := by rw [IntKind.wrap_i64]; omega
  have hnf : ¬ ((8 : Int) < n) := by omega
  have hcb : w.heap.size ≠ c := by have := hX.1; omega
  clear had hT hf hv
  go_enter Try.func52, Try.ntmps52
  go_wp2_with fail
  refine (rhas_v HT.out hh _ HAD.out (by omega) hL).mono ?_
  rintro e w1 ⟨rfl, hb1⟩
  have hB := keepB hb1 (heap_alloc_new w (.cells #[.slice (some ⟨c, 0, none⟩) T cap] 66))
  have hX1 := (hX.alloc _).keep hb1
  have F1 := Lib.hid (((Fr.refl w).alloc _).step hb1)
  clear hb1 hX
  go_wp2_with fail
  go_loopw [3, 9] (fun u i wr => ∃ k : Nat, k ≤ n ∧ i = .int .i64 (k : Int) ∧ u = .int .u64 ((v / 256 ^ k : Nat) : Int) ∧ Wrote c w1 wr ∧ XB wr c T (putL x f k v))
    (fun _ i _ => n - (intOf i).toNat)
  case atStart => exact ⟨0, by omega, rfl, by simp, Wrote.refl _ _, by rw [putL_zero]; exact hX1⟩
  case round =>
    obtain ⟨k, hk, rfl, rfl, hW, hXk⟩ := hrel
    have cB : wr.cell? ⟨w.heap.size, 0, none⟩ = some (.slice (some ⟨c, 0, none⟩) T cap) := by rw [cell_at (hW.2 _ _ hcb hB)]; rfl
    by_cases hlt : k < n
    · have hj0 : (0 : Int) ≤ k := by omega
      obtain ⟨cx, fx⟩ := hXk.2 (f + k) (by omega)
      have htn : ((f : Int) + (k : Int)).toNat = f + k := by omega
      have hij0 : (0 : Int) ≤ (f : Int) + k := by omega
      have hij1 : (f : Int) + k < T := by omega
      have hlt' : (k : Int) < n := by omega
      have hwf : IntKind.i64.wrap ((f : Int) + (k : Int)) = (f : Int) + (k : Int) := by rw [IntKind.wrap_i64]; omega
      have hxv : v / 256 ^ k < 18446744073709551616 := Nat.lt_of_le_of_lt (Nat.div_le_self _ _) HV.out
      have hps : v / 256 ^ (k + 1) = v / 256 ^ k / 256 := by rw [Nat.pow_succ, Nat.div_div_eq_div_mul]
      have e1 := hXk.set (i := f + k) (by omega) (v / 256 ^ k % 256)
      rw [putL_step] at e1
      obtain ⟨z, hze⟩ : ∃ z, v / 256 ^ k = z := ⟨_, rfl⟩
      rw [hze] at hxv hps e1 ⊢
      have hq : (z : Int).tmod 256 = ((z % 256 : Nat) : Int) := by rw [Int.tmod_eq_emod_of_nonneg (by omega)]; omega
      have hd : (z : Int).tdiv 256 = ((z / 256 : Nat) : Int) := by rw [Int.tdiv_eq_ediv_of_nonneg (by omega)]; omega
      obtain ⟨y, hy⟩ : ∃ y, z % 256 = y := ⟨_, rfl⟩
      obtain ⟨x2, hx2⟩ : ∃ x2, z / 256 = x2 := ⟨_, rfl⟩
      rw [hy] at hq e1
      rw [hx2] at hd hps
      have hy8 : IntKind.u8.wrap (y : Int) = (y : Int) := by rw [IntKind.wrap_u8]; omega
      have hwy : IntKind.u64.wrap (y : Int) = (y : Int) := by rw [IntKind.wrap_u64]; omega
      have hwd : IntKind.u64.wrap (x2 : Int) = (x2 : Int) := by rw [IntKind.wrap_u64]; omega
      have HP := Lib.hid hps
      have E := Lib.hid (And.intro (hW.set (f + k) (.int .u8 (y : Int))) e1)
      clear e1 hW hXk hps hxv hze hy hx2 hB hX1
      go_wp2
      go_roundw
      case rel => exact ⟨k + 1, by omega, by go_num, by rw [HP.out], E.out⟩
      case measure => simp [intOf]; omega
    · have e : k = n := by omega
      subst e
      have hnl : ¬ ((k : Int) < k) := by omega
      have E := Lib.hid (And.intro hW hXk)
      clear hW hXk hB hX1
      go_wp2
      go_ret
      exact ⟨rfl, (below_wrote F1.out.1).trans E.out.1, E.out.2⟩
set_option maxRecDepth 100000 in
set_option maxHeartbeats 4000000 in
theorem rstore_no (c cap L : Nat) (n : Int) (v addr : Nat) (w : World) (ha : addr < 18446744073709551616) (hn1 : n ≤ 9223372036854775807) (hL : L ≤ 4096) (hq : ¬ (n ≤ 8 ∧ hasR L addr n = true)) :
    Calls Try.prog 52 #[.agg #[.slice (some ⟨c, 0, none⟩) (64 * L) cap], .int .u64 (addr : Int), .int .i64 n, .int .u64 (v : Int)] w fun e w' => e = .returned (.bool false) ∧ Below w.heap.size w w' := by
  obtain ⟨T, hT⟩ : ∃ T, 64 * L = T := ⟨_, rfl⟩
  have HT := Lib.hid hT
  rw [hT]
  have HA := Lib.hid ha
  have HN := Lib.hid hn1
  clear hT ha hn1
  by_cases h8 : n ≤ 8
  · have hh : hasR L addr n = false := by
      cases e : hasR L addr n with
      | false => rfl
      | true => exact absurd ⟨h8, e⟩ hq
    have d8 : ¬ 8 < n := by omega
    clear hq
    go_enter Try.func52, Try.ntmps52
    go_wp2_with fail
    refine (rhas_v HT.out hh _ HA.out HN.out hL).mono ?_
    rintro e w1 ⟨rfl, hb1⟩
    have F1 := Lib.hid (((Fr.refl w).alloc _).step hb1)
    go_wp2_with fail
    go_ret
    exact ⟨rfl, F1.out.1⟩
  · have d8 : 8 < n := by omega
    clear hq h8
    go_enter Try.func52, Try.ntmps52
    go_wp2_with fail
    go_ret
    exact ⟨rfl, ((Fr.refl w).alloc _).1⟩
theorem rstore_any (c cap L : Nat) (g : Nat → Nat → Nat) (n : Int) (v addr : Nat) (w : World) (ha : addr < 18446744073709551616) (hv : v < 18446744073709551616) (hn1 : n ≤ 9223372036854775807) (hL : L ≤ 4096) (hX : XB w c (64 * L) (fl g)) :
    Calls Try.prog 52 #[.agg #[.slice (some ⟨c, 0, none⟩) (64 * L) cap], .int .u64 (addr : Int), .int .i64 n, .int .u64 (v : Int)] w fun e w' => e = .returned (.bool (storeR g L addr n v).2) ∧ Wrote c w w' ∧ XB w' c (64 * L) (fl (storeR g L addr n v).1) := by
  unfold storeR
  split
  · rename_i hq
    obtain ⟨a1, a2, a3⟩ := has_t hq.2
    obtain ⟨N, rfl⟩ : ∃ N : Nat, n = N := ⟨n.toNat, by omega⟩
    rw [Int.toNat_natCast]
    show Calls _ _ _ _ fun e w' => e = .returned (.bool true) ∧ Wrote c w w' ∧ XB w' c (64 * L) (fl (storeG g (addr - 2147483648) N v))
    rw [show fl (storeG g (addr - 2147483648) N v) = putL (fl g) (addr - 2147483648) N v from funext fun p => fl_storeG _ _ _ _ _]
    exact rstore_yes c cap L (addr - 2147483648) N v addr (fl g) w (Lib.hid (by omega)) hv (by omega) (by omega) (by omega) hL hX
  · rename_i hq
    exact (rstore_no c cap L n v addr w ha hn1 hL hq).mono fun e w' h => ⟨h.1, below_wrote h.2, hX.keep h.2⟩
end Go.Proofs.Ytbboaekfhdeolaa
