/- ram's Fill and SetLine for every input. -/
import Derived.Test.YtbboaekfhdeolaaRpG
namespace Go.Proofs.Ytbboaekfhdeolaa
open Go.RowKit
set_option linter.unusedSimpArgs false
set_option linter.unusedVariables false
attribute [local simp high] sizeLL zeroLL sizeLR zeroLR

set_option maxRecDepth 100000 in
set_option maxHeartbeats 4000000 in
theorem ramfill_none (b m k L addr bcap : Nat) (a : Option Addr) (g : Nat → Nat → Nat) (w : World) (hR : RamAt w b m k L g) :
    Calls Try.prog 40 #[.pointer (some ⟨b, 0, none⟩), .int .u64 (addr : Int), .slice a 0 bcap] w fun e w' => e = .returned (.bool true) ∧ w' = w := by
  go_enter Try.func40, Try.ntmps40
  go_wp2_with fail
  go_ret
  exact ⟨rfl, rfl⟩
set_option maxRecDepth 100000 in
set_option maxHeartbeats 4000000 in
theorem ramfill_no (b m k L n addr bcap : Nat) (a : Option Addr) (g : Nat → Nat → Nat) (w : World) (ha : addr < 18446744073709551616) (hn : n ≤ 500) (h1 : 1 ≤ n) (hL : L ≤ 4096) (hh : hasR L addr (n : Int) = false) (hR : RamAt w b m k L g) :
    Calls Try.prog 40 #[.pointer (some ⟨b, 0, none⟩), .int .u64 (addr : Int), .slice a n bcap] w fun e w' => e = .returned (.bool false) ∧ w' = w := by
  have HA := Lib.hid ha
  have hn0 : ¬ ((n : Int) = 0) := by omega
  clear ha
  go_enter Try.func40, Try.ntmps40
  go_wp2_with fail
  refine (ramhas_v hh _ HA.out (by omega) hL hR).mono ?_
  rintro e w1 ⟨rfl, hw⟩
  rw [hw]
  clear hw w1
  go_wp2_with fail
  go_ret
  exact ⟨rfl, rfl⟩
theorem ramfill_any (b m k L n addr bcap : Nat) (a : Option Addr) (g : Nat → Nat → Nat) (bs : Nat → Nat) (w : World) (okg : ∀ i, OkL (g i)) (ha : addr < 18446744073709551616) (hn : n ≤ 500) (hcp : n ≤ bcap) (hL : L ≤ 4096) (hk : k < 1000000) (hR : RamAt w b m k L g) (hb : Bytes w a n bs) (hb8 : ∀ i, i < n → bs i < 256) (hne : 0 < n → ∀ ad, a = some ad → ad.block ≠ m) :
    Calls Try.prog 40 #[.pointer (some ⟨b, 0, none⟩), .int .u64 (addr : Int), .slice a n bcap] w fun e w' => e = .returned (.bool (fillR g L addr bs n).2) ∧ RamAt w' b m (k + n) L (fillR g L addr bs n).1 ∧ Wrote m w w' := by
  unfold fillR
  split
  · rename_i h0
    subst h0
    refine (ramfill_none b m k L addr bcap a g w hR).mono ?_
    rintro e w' ⟨he, rfl⟩
    exact ⟨he, hR, Wrote.refl _ _⟩
  · rename_i h0
    split
    · rename_i hq
      obtain ⟨a1, a2, a3⟩ := has_t hq
      exact ramfill_yes b m k L (addr - 2147483648) n addr bcap a g bs w (Lib.hid (by omega)) okg (by omega) (by omega) hn hcp hL hk hR hb hb8 (hne (by omega))
    · rename_i hq
      refine (ramfill_no b m k L n addr bcap a g w ha hn (by omega) hL (by simpa using hq) hR).mono ?_
      rintro e w' ⟨he, rfl⟩
      exact ⟨he, hR.mono (Nat.le_add_right _ _), Wrote.refl _ _⟩
set_option maxRecDepth 100000 in
set_option maxHeartbeats 4000000 in
theorem setline_no (b m k L : Nat) (g : Nat → Nat → Nat) (i : Int) (h : Nat → Nat) (w : World) (hi : ¬ (0 ≤ i ∧ i < L)) (hL : L ≤ 4096) (hR0 : RamAt w b m k L g) :
    Calls Try.prog 39 #[.pointer (some ⟨b, 0, none⟩), .int .i64 i, .agg (cellsL h)] w fun e w' => e = .returned (.bool false) ∧ Below w.heap.size w w' := by
  have F0 := (Fr.refl w).alloc (.cells (cellsL h) 26)
  have hR := hR0.keep F0.1
  have l3 := size_cellsL
  by_cases h0 : i < 0
  · have d1 : decide (i < 0) = true := by simp; omega
    clear hi
    go_enter Try.func39, Try.ntmps39
    go_wp2_with fail
    go_ret
    exact ⟨rfl, F0.1⟩
  · have d1 : decide (i < 0) = false := by simp; omega
    have d2 : decide ((L : Int) ≤ i) = true := by simp; omega
    clear hi
    go_enter Try.func39, Try.ntmps39
    go_wp2_with fail
    refine (ramlines_any b m k L g _ hR).mono ?_
    rintro e w1 ⟨rfl, hw⟩
    rw [hw]
    clear hw w1
    go_wp2_with fail
    go_ret
    exact ⟨rfl, F0.1⟩
theorem setline_int (b m k L : Nat) (g : Nat → Nat → Nat) (i : Int) (h : Nat → Nat) (w : World) (ok : OkL h) (hL : L ≤ 4096) (hk : k < 1000000) (hR0 : RamAt w b m k L g) :
    Calls Try.prog 39 #[.pointer (some ⟨b, 0, none⟩), .int .i64 i, .agg (cellsL h)] w fun e w' => e = .returned (.bool (setR g L i h).2) ∧ RamAt w' b m (k + 1) L (setR g L i h).1 ∧ Wrote m w w' := by
  unfold setR
  split
  · rename_i hq
    obtain ⟨I, rfl⟩ : ∃ I : Nat, i = I := ⟨i.toNat, by omega⟩
    rw [Int.toNat_natCast]
    exact setline_any b m k L g I h w ok (by omega) hL (by unfold maxLen; omega) hR0
  · rename_i hq
    exact (setline_no b m k L g i h w hq hL hR0).mono fun e w' hh => ⟨hh.1, (hR0.keep hh.2).mono (Nat.le_succ _), below_wrote hh.2⟩
/-- Only two blocks were written. -/
def Wr2 (m c : Nat) (w w' : World) : Prop := (∀ B w0, B ≤ m → B ≤ c → Fr B w0 w → Fr B w0 w') ∧ (∀ b' o, b' ≠ m → b' ≠ c → w.heap[b']? = some o → w'.heap[b']? = some o)
theorem Wr2.refl (m c : Nat) (w : World) : Wr2 m c w w := ⟨fun _ _ _ _ h => h, fun _ _ _ _ h => h⟩
theorem Wr2.left {m c : Nat} {w w1 w2 : World} (h : Wr2 m c w w1) (h2 : Wrote m w1 w2) : Wr2 m c w w2 := ⟨fun B w0 hB hC hf => h2.1 B w0 hB (h.1 B w0 hB hC hf), fun b' o hm hc ho => h2.2 b' o hm (h.2 b' o hm hc ho)⟩
theorem Wr2.right {m c : Nat} {w w1 w2 : World} (h : Wr2 m c w w1) (h2 : Wrote c w1 w2) : Wr2 m c w w2 := ⟨fun B w0 hB hC hf => h2.1 B w0 hC (h.1 B w0 hB hC hf), fun b' o hm hc ho => h2.2 b' o hc (h.2 b' o hm hc ho)⟩
theorem Wr2.below {m c : Nat} {w w1 w2 : World} (h : Wr2 m c w w1) (hb : Below w1.heap.size w1 w2) : Wr2 m c w w2 := ⟨fun B w0 hB hC hf => (h.1 B w0 hB hC hf).step hb, fun b' o hm hc ho => keepB hb (h.2 b' o hm hc ho)⟩
theorem Wr2.trans {m c : Nat} {w w1 w2 : World} (h : Wr2 m c w w1) (h2 : Wr2 m c w1 w2) : Wr2 m c w w2 := ⟨fun B w0 hB hC hf => h2.1 B w0 hB hC (h.1 B w0 hB hC hf), fun b' o hm hc ho => h2.2 b' o hm hc (h.2 b' o hm hc ho)⟩
theorem storeR_v {c cap L : Nat} {g g' : Nat → Nat → Nat} {n : Int} {v addr : Nat} {q : Bool} (hr : storeR g L addr n v = (g', q)) (w : World) (ha : addr < 18446744073709551616) (hv : v < 18446744073709551616) (hn1 : n ≤ 9223372036854775807) (hL : L ≤ 4096) (hX : XB w c (64 * L) (fl g)) :
    Calls Try.prog 52 #[.agg #[.slice (some ⟨c, 0, none⟩) (64 * L) cap], .int .u64 (addr : Int), .int .i64 n, .int .u64 (v : Int)] w fun e w' => e = .returned (.bool q) ∧ Wrote c w w' ∧ XB w' c (64 * L) (fl g') := by
  have := rstore_any c cap L g n v addr w ha hv hn1 hL hX
  rw [hr] at this
  exact this
theorem rfill_v {c cap L n addr bcap : Nat} {a : Option Addr} {g g' : Nat → Nat → Nat} {bs : Nat → Nat} {q : Bool} (hr : fillR g L addr bs n = (g', q)) (w : World) (ha : addr < 18446744073709551616) (hn : n ≤ 500) (hL : L ≤ 4096) (hX : XB w c (64 * L) (fl g)) (hb : Bytes w a n bs) (hb8 : ∀ i, i < n → bs i < 256) (hne : 0 < n → ∀ ad, a = some ad → ad.block ≠ c) :
    Calls Try.prog 53 #[.agg #[.slice (some ⟨c, 0, none⟩) (64 * L) cap], .int .u64 (addr : Int), .slice a n bcap] w fun e w' => e = .returned (.bool q) ∧ Wrote c w w' ∧ XB w' c (64 * L) (fl g') := by
  have := rfill_any c cap L n addr bcap a g bs w ha hn hL hX hb hb8 hne
  rw [hr] at this
  exact this
theorem ramfill_v {b m k L n addr bcap : Nat} {a : Option Addr} {g g' : Nat → Nat → Nat} {bs : Nat → Nat} {q : Bool} (hr : fillR g L addr bs n = (g', q)) (w : World) (okg : ∀ i, OkL (g i)) (ha : addr < 18446744073709551616) (hn : n ≤ 500) (hcp : n ≤ bcap) (hL : L ≤ 4096) (hk : k < 1000000) (hR : RamAt w b m k L g) (hb : Bytes w a n bs) (hb8 : ∀ i, i < n → bs i < 256) (hne : 0 < n → ∀ ad, a = some ad → ad.block ≠ m) :
    Calls Try.prog 40 #[.pointer (some ⟨b, 0, none⟩), .int .u64 (addr : Int), .slice a n bcap] w fun e w' => e = .returned (.bool q) ∧ RamAt w' b m (k + n) L g' ∧ Wrote m w w' := by
  have := ramfill_any b m k L n addr bcap a g bs w okg ha hn hcp hL hk hR hb hb8 hne
  rw [hr] at this
  exact this
theorem rset_v {c cap L : Nat} {g g' : Nat → Nat → Nat} {i : Int} {l : Nat → Nat} {q : Bool} (hr : setR g L i l = (g', q)) (w : World) (hL : L ≤ 4096) (hX : XB w c (64 * L) (fl g)) :
    Calls Try.prog 54 #[.agg #[.slice (some ⟨c, 0, none⟩) (64 * L) cap], .int .i64 i, .agg (cellsL l)] w fun e w' => e = .returned (.bool q) ∧ Wrote c w w' ∧ XB w' c (64 * L) (fl g') := by
  have := rset_any c cap L g i l w hL hX
  rw [hr] at this
  exact this
theorem ramset_v {b m k L : Nat} {g g' : Nat → Nat → Nat} {i : Int} {h : Nat → Nat} {q : Bool} (hr : setR g L i h = (g', q)) (w : World) (ok : OkL h) (hL : L ≤ 4096) (hk : k < 1000000) (hR0 : RamAt w b m k L g) :
    Calls Try.prog 39 #[.pointer (some ⟨b, 0, none⟩), .int .i64 i, .agg (cellsL h)] w fun e w' => e = .returned (.bool q) ∧ RamAt w' b m (k + 1) L g' ∧ Wrote m w w' := by
  have := setline_int b m k L g i h w ok hL hk hR0
  rw [hr] at this
  exact this
theorem rload_v {c cap L : Nat} {g : Nat → Nat → Nat} {n : Int} {addr x : Nat} {q : Bool} (hr : loadR g L addr n = (x, q)) (w : World) (okg : ∀ i, OkL (g i)) (ha : addr < 18446744073709551616) (hn1 : n ≤ 9223372036854775807) (hL : L ≤ 4096) (hX : XB w c (64 * L) (fl g)) :
    Calls Try.prog 55 #[.agg #[.slice (some ⟨c, 0, none⟩) (64 * L) cap], .int .u64 (addr : Int), .int .i64 n] w fun e w' => e = .returned (.tuple #[.int .u64 (x : Int), .bool q]) ∧ Below w.heap.size w w' := by
  have := rload_any c cap L g n addr w okg ha hn1 hL hX
  rw [hr] at this
  exact this
end Go.Proofs.Ytbboaekfhdeolaa
