/- Law 10's do: a store, bytes that are laid. -/
import Derived.Test.YtbboaekfhdeolaaRpH
import Derived.Deep.DrawnRows
namespace Go.Proofs.Ytbboaekfhdeolaa
open Go.RowKit
set_option linter.unusedSimpArgs false
set_option linter.unusedVariables false
attribute [local simp high] sizeLL zeroLL sizeLR zeroLR

/-- What one deed leaves. -/
def doG (g : Nat → Nat → Nat) (L : Nat) (kd : Int) (addr : Nat) (n : Int) (v : Nat) (bs : Nat → Nat) (len : Nat) : Nat → Nat → Nat :=
  if kd = 0 then (storeR g L addr n v).1 else if kd = 1 then (fillR g L addr bs len).1 else if kd = 2 then (setR g L n (ofL bs len)).1 else g
def deedV (kd : Int) (addr : Nat) (n : Int) (v : Nat) (a : Option Addr) (len bcap : Nat) : Array Value := #[.int .i64 kd, .int .u64 (addr : Int), .int .i64 n, .int .u64 (v : Int), .slice a len bcap]
/-- The two boxes of do's arguments. -/
def BX (u c T cap : Nat) (kd : Int) (addr : Nat) (n : Int) (v : Nat) (a : Option Addr) (len bcap : Nat) (w : World) : Prop :=
  w.heap[u]? = some (.cells #[.slice (some ⟨c, 0, none⟩) T cap] 66) ∧ w.heap[u + 1]? = some (.cells #[.int .i64 kd, .int .u64 (addr : Int), .int .i64 n, .int .u64 (v : Int), .slice a len bcap] 63)
theorem BX.wrote {u c T cap m : Nat} {kd : Int} {addr : Nat} {n : Int} {v : Nat} {a : Option Addr} {len bcap : Nat} {w w' : World} (hW : Wrote m w w') (h1 : u ≠ m) (h2 : u + 1 ≠ m) (h : BX u c T cap kd addr n v a len bcap w) : BX u c T cap kd addr n v a len bcap w' := ⟨hW.2 _ _ h1 h.1, hW.2 _ _ h2 h.2⟩
theorem BX.keep {u c T cap : Nat} {kd : Int} {addr : Nat} {n : Int} {v : Nat} {a : Option Addr} {len bcap : Nat} {w w' : World} (hb : Below w.heap.size w w') (h : BX u c T cap kd addr n v a len bcap w) : BX u c T cap kd addr n v a len bcap w' := ⟨keepB hb h.1, keepB hb h.2⟩
theorem BX.cells {u c T cap : Nat} {kd : Int} {addr : Nat} {n : Int} {v : Nat} {a : Option Addr} {len bcap : Nat} {w : World} (h : BX u c T cap kd addr n v a len bcap w) :
    BX u c T cap kd addr n v a len bcap w ∧ w.cell? ⟨u, 0, none⟩ = some (.slice (some ⟨c, 0, none⟩) T cap) ∧ w.cell? ⟨u + 1, 0, none⟩ = some (.int .i64 kd) ∧ w.cell? ⟨u + 1, 1, none⟩ = some (.int .u64 (addr : Int)) ∧ w.cell? ⟨u + 1, 2, none⟩ = some (.int .i64 n) ∧ w.cell? ⟨u + 1, 3, none⟩ = some (.int .u64 (v : Int)) ∧ w.cell? ⟨u + 1, 4, none⟩ = some (.slice a len bcap) := by
  refine ⟨h, ?_, ?_, ?_, ?_, ?_, ?_⟩
  · rw [cell_at h.1]; rfl
  all_goals (rw [cell_at h.2]; rfl)
theorem bx_new (w : World) (c T cap : Nat) (kd : Int) (addr : Nat) (n : Int) (v : Nat) (a : Option Addr) (len bcap : Nat) :
    BX w.heap.size c T cap kd addr n v a len bcap ((w.alloc (.cells #[.slice (some ⟨c, 0, none⟩) T cap] 66)).alloc (.cells #[.int .i64 kd, .int .u64 (addr : Int), .int .i64 n, .int .u64 (v : Int), .slice a len bcap] 63)) :=
  ⟨keep_alloc (heap_alloc_new _ _) _, by simpa using heap_alloc_new (w.alloc (.cells #[.slice (some ⟨c, 0, none⟩) T cap] 66)) _⟩
set_option maxRecDepth 100000 in
set_option maxHeartbeats 8000000 in
theorem do_store (b m k L c cap addr v len bcap : Nat) (n : Int) (a : Option Addr) (g : Nat → Nat → Nat) (w : World) (okg : ∀ i, OkL (g i)) (ha : addr < 18446744073709551616) (hv : v < 18446744073709551616) (hn1 : n ≤ 9223372036854775807) (hL : L ≤ 4096) (hk : k < 1000000)
    (hR : RamAt w b m k L g) (hX : XB w c (64 * L) (fl g)) (hmc : m ≠ c) (hbc : b ≠ c) :
    Calls Try.prog 33 #[.pointer (some ⟨b, 0, none⟩), .agg #[.slice (some ⟨c, 0, none⟩) (64 * L) cap], .agg #[.int .i64 0, .int .u64 (addr : Int), .int .i64 n, .int .u64 (v : Int), .slice a len bcap]] w fun e w' => e = .returned (.bool true) ∧ RamAt w' b m (k + 2) L (storeR g L addr n v).1 ∧ XB w' c (64 * L) (fl (storeR g L addr n v).1) ∧ Wr2 m c w w' := by
  obtain ⟨g', q, hg⟩ : ∃ g' q, storeR g L addr n v = (g', q) := ⟨_, _, rfl⟩
  rw [hg]
  show Calls _ _ _ _ fun e w' => e = .returned (.bool true) ∧ RamAt w' b m (k + 2) L g' ∧ XB w' c (64 * L) (fl g') ∧ Wr2 m c w w'
  have HG := Lib.hid hg
  have HA := Lib.hid ha
  have HV := Lib.hid hv
  have HN := Lib.hid hn1
  have OKG := Lib.hid okg
  have hml : m < w.heap.size := hR.2.lt
  have hcl : c < w.heap.size := hX.1
  have hbl : b < w.heap.size := lt_of_at hR.1
  have F0 := ((Fr.refl w).alloc (.cells #[.slice (some ⟨c, 0, none⟩) (64 * L) cap] 66)).alloc (.cells #[.int .i64 0, .int .u64 (addr : Int), .int .i64 n, .int .u64 (v : Int), .slice a len bcap] 63)
  have B0 := bx_new w c (64 * L) cap 0 addr n v a len bcap
  obtain ⟨w1, hw1⟩ : ∃ w1, (w.alloc (.cells #[.slice (some ⟨c, 0, none⟩) (64 * L) cap] 66)).alloc (.cells #[.int .i64 0, .int .u64 (addr : Int), .int .i64 n, .int .u64 (v : Int), .slice a len bcap] 63) = w1 := ⟨_, rfl⟩
  rw [hw1] at F0 B0
  have R0 := Lib.hid (hR.keep F0.drew.1)
  have X0 := Lib.hid (hX.keep F0.drew.1)
  have BB := B0.keep (Fr.refl w1).drew.1
  have B2 := Lib.hid BB
  obtain ⟨-, c0, c1, c2, c3, c4, c5⟩ := B0.cells
  have W0 := Lib.hid ((Wr2.refl m c w).below F0.drew.1)
  have n1 : w.heap.size ≠ m := by omega
  have n2 : w.heap.size + 1 ≠ m := by omega
  have n3 : w.heap.size ≠ c := by omega
  have n4 : w.heap.size + 1 ≠ c := by omega
  clear hg ha hv hn1 okg hR hX B0 F0 BB
  go_enter Try.func33, Try.ntmps33
  go_wp2_with fail
  clear hw1
  go_region_held3 (fun w' => BX w.heap.size c (64 * L) cap 0 addr n v a len bcap w' ∧ w'.cell? ⟨w.heap.size, 0, none⟩ = some (.slice (some ⟨c, 0, none⟩) (64 * L) cap) ∧ w'.cell? ⟨w.heap.size + 1, 0, none⟩ = some (.int .i64 0) ∧ w'.cell? ⟨w.heap.size + 1, 1, none⟩ = some (.int .u64 (addr : Int)) ∧ w'.cell? ⟨w.heap.size + 1, 2, none⟩ = some (.int .i64 n) ∧ w'.cell? ⟨w.heap.size + 1, 3, none⟩ = some (.int .u64 (v : Int)) ∧ w'.cell? ⟨w.heap.size + 1, 4, none⟩ = some (.slice a len bcap))
    (first | exact B2.out.cells | exact (BX.wrote WB n3 n4 (BX.wrote WA n1 n2 B2.out)).cells | exact (BX.wrote WA n1 n2 B2.out).cells)
    (first
      | (go_at_call 25; refine (ramstore_v HG.out _ OKG.out HA.out HV.out HN.out hL hk R0.out).mono ?_; rintro e wa ⟨rfl, hRa, WA⟩; have XA := X0.out.wrote WA (by have := R0.out.2.lt; omega) (fun e => hmc e.symm))
      | (go_at_call 52; refine (storeR_v HG.out _ HA.out HV.out HN.out hL XA).mono ?_; rintro e wb ⟨rfl, WB, XB'⟩; have hRb := hRa.wrote WB hbc hmc))
  all_goals
    have E := Lib.hid (And.intro hRb (And.intro XB' ((W0.out.left WA).right WB)))
    clear hRb XB' WA WB hRa XA
    cases q
    all_goals
      go_wp2
      go_ret
      exact ⟨rfl, E.out⟩
set_option maxRecDepth 100000 in
set_option maxHeartbeats 8000000 in
theorem do_fill (b m k L c cap addr v len bcap : Nat) (n : Int) (a : Option Addr) (g : Nat → Nat → Nat) (bs : Nat → Nat) (w : World) (okg : ∀ i, OkL (g i)) (ha : addr < 18446744073709551616) (hv : v < 18446744073709551616) (hn1 : n ≤ 9223372036854775807) (hL : L ≤ 4096) (hk : k < 1000000)
    (hl5 : len ≤ 500) (hcp : len ≤ bcap) (hb : Bytes w a len bs) (hb8 : ∀ i, i < len → bs i < 256) (hnm : 0 < len → ∀ ad, a = some ad → ad.block ≠ m) (hnc : 0 < len → ∀ ad, a = some ad → ad.block ≠ c)
    (hR : RamAt w b m k L g) (hX : XB w c (64 * L) (fl g)) (hmc : m ≠ c) (hbc : b ≠ c) :
    Calls Try.prog 33 #[.pointer (some ⟨b, 0, none⟩), .agg #[.slice (some ⟨c, 0, none⟩) (64 * L) cap], .agg #[.int .i64 1, .int .u64 (addr : Int), .int .i64 n, .int .u64 (v : Int), .slice a len bcap]] w fun e w' => e = .returned (.bool true) ∧ RamAt w' b m (k + len) L (fillR g L addr bs len).1 ∧ XB w' c (64 * L) (fl (fillR g L addr bs len).1) ∧ Wr2 m c w w' := by
  obtain ⟨g', q, hg⟩ : ∃ g' q, fillR g L addr bs len = (g', q) := ⟨_, _, rfl⟩
  rw [hg]
  show Calls _ _ _ _ fun e w' => e = .returned (.bool true) ∧ RamAt w' b m (k + len) L g' ∧ XB w' c (64 * L) (fl g') ∧ Wr2 m c w w'
  have HG := Lib.hid hg
  have HA := Lib.hid ha
  have HV := Lib.hid hv
  have HN := Lib.hid hn1
  have OKG := Lib.hid okg
  have hml : m < w.heap.size := hR.2.lt
  have hcl : c < w.heap.size := hX.1
  have hbl : b < w.heap.size := lt_of_at hR.1
  have F0 := ((Fr.refl w).alloc (.cells #[.slice (some ⟨c, 0, none⟩) (64 * L) cap] 66)).alloc (.cells #[.int .i64 1, .int .u64 (addr : Int), .int .i64 n, .int .u64 (v : Int), .slice a len bcap] 63)
  have B0 := bx_new w c (64 * L) cap 1 addr n v a len bcap
  obtain ⟨w1, hw1⟩ : ∃ w1, (w.alloc (.cells #[.slice (some ⟨c, 0, none⟩) (64 * L) cap] 66)).alloc (.cells #[.int .i64 1, .int .u64 (addr : Int), .int .i64 n, .int .u64 (v : Int), .slice a len bcap] 63) = w1 := ⟨_, rfl⟩
  rw [hw1] at F0 B0
  have R0 := Lib.hid (hR.keep F0.drew.1)
  have X0 := Lib.hid (hX.keep F0.drew.1)
  have Y0 := Lib.hid (hb.keep F0.drew.1)
  have HB8 := Lib.hid hb8
  have HNM := Lib.hid hnm
  have HNC := Lib.hid hnc
  have BB := B0.keep (Fr.refl w1).drew.1
  have B2 := Lib.hid BB
  obtain ⟨-, c0, c1, c2, c3, c4, c5⟩ := B0.cells
  have W0 := Lib.hid ((Wr2.refl m c w).below F0.drew.1)
  have n1 : w.heap.size ≠ m := by omega
  have n2 : w.heap.size + 1 ≠ m := by omega
  have n3 : w.heap.size ≠ c := by omega
  have n4 : w.heap.size + 1 ≠ c := by omega
  clear hg ha hv hn1 okg hR hX B0 F0 BB hb hb8 hnm hnc
  go_enter Try.func33, Try.ntmps33
  go_wp2_with fail
  clear hw1
  go_region_held3 (fun w' => BX w.heap.size c (64 * L) cap 1 addr n v a len bcap w' ∧ w'.cell? ⟨w.heap.size, 0, none⟩ = some (.slice (some ⟨c, 0, none⟩) (64 * L) cap) ∧ w'.cell? ⟨w.heap.size + 1, 0, none⟩ = some (.int .i64 1) ∧ w'.cell? ⟨w.heap.size + 1, 1, none⟩ = some (.int .u64 (addr : Int)) ∧ w'.cell? ⟨w.heap.size + 1, 2, none⟩ = some (.int .i64 n) ∧ w'.cell? ⟨w.heap.size + 1, 3, none⟩ = some (.int .u64 (v : Int)) ∧ w'.cell? ⟨w.heap.size + 1, 4, none⟩ = some (.slice a len bcap))
    (first | exact B2.out.cells | exact (BX.wrote WB n3 n4 (BX.wrote WA n1 n2 B2.out)).cells | exact (BX.wrote WA n1 n2 B2.out).cells)
    (first
      | (go_at_call 40; refine (ramfill_v HG.out _ OKG.out HA.out hl5 hcp hL hk R0.out Y0.out HB8.out HNM.out).mono ?_; rintro e wa ⟨rfl, hRa, WA⟩; have XA := X0.out.wrote WA (by have := R0.out.2.lt; omega) (fun e => hmc e.symm); have YA := Y0.out.wrote WA (by have := R0.out.2.lt; omega) HNM.out)
      | (go_at_call 53; refine (rfill_v HG.out _ HA.out hl5 hL XA YA HB8.out HNC.out).mono ?_; rintro e wb ⟨rfl, WB, XB'⟩; have hRb := hRa.wrote WB hbc hmc))
  all_goals
    have E := Lib.hid (And.intro hRb (And.intro XB' ((W0.out.left WA).right WB)))
    clear hRb XB' WA WB hRa XA YA
    cases q
    all_goals
      go_wp2
      go_ret
      exact ⟨rfl, E.out⟩
end Go.Proofs.Ytbboaekfhdeolaa
