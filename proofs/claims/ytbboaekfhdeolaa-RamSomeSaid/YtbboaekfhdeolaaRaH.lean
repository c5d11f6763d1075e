/- The chapter's example of the ram. -/
import Derived.Test.YtbboaekfhdeolaaRaG
namespace Go.Proofs.Ytbboaekfhdeolaa
open Go.RowKit
set_option linter.unusedSimpArgs false
set_option linter.unusedVariables false
attribute [local simp high] sizeLL zeroLL

theorem RamAt.wrote {w w' : World} {b m k L m' : Nat} {g : Nat → Nat → Nat} (h : RamAt w b m k L g) (hW : Wrote m' w w') (hb : b ≠ m') (hm : m ≠ m') : RamAt w' b m k L g := by
  obtain ⟨h1, D, ⟨es, clock, h2, h3⟩, hD⟩ := h
  exact ⟨hW.2 _ _ hb h1, D, ⟨es, clock, hW.2 _ _ hm h2, h3⟩, hD⟩
theorem ramload_v {b m k L : Nat} {g : Nat → Nat → Nat} {n : Int} {addr x : Nat} {q : Bool} (hr : loadR g L addr n = (x, q)) (w : World) (okg : ∀ i, OkL (g i)) (ha : addr < 18446744073709551616) (hn1 : n ≤ 9223372036854775807) (hL : L ≤ 4096) (hR : RamAt w b m k L g) :
    Calls Try.prog 26 #[.pointer (some ⟨b, 0, none⟩), .int .u64 (addr : Int), .int .i64 n] w fun e w' => e = .returned (.tuple #[.int .u64 (x : Int), .bool q]) ∧ Below w.heap.size w w' := by
  have := ramload_any b m k L g n addr w okg ha hn1 hL hR
  rw [hr] at this
  exact this
theorem ramstore_v {b m k L : Nat} {g g' : Nat → Nat → Nat} {n : Int} {v addr : Nat} {q : Bool} (hr : storeR g L addr n v = (g', q)) (w : World) (okg : ∀ i, OkL (g i)) (ha : addr < 18446744073709551616) (hv : v < 18446744073709551616) (hn1 : n ≤ 9223372036854775807) (hL : L ≤ 4096) (hk : k < 1000000) (hR : RamAt w b m k L g) :
    Calls Try.prog 25 #[.pointer (some ⟨b, 0, none⟩), .int .u64 (addr : Int), .int .i64 n, .int .u64 (v : Int)] w fun e w' => e = .returned (.bool q) ∧ RamAt w' b m (k + 2) L g' ∧ Wrote m w w' := by
  have := ramstore_any b m k L g n v addr w okg ha hv hn1 hL hk hR
  rw [hr] at this
  exact this
def z10 : Nat → Nat → Nat := fun _ _ => 0
theorem z10_ok : ∀ i, OkL (z10 i) := fun i j => by show 0 < 256; omega
theorem pair2 {A : Type} {s : A × Bool} {q : Bool} (h : s.2 = q) : s = (s.1, q) := by rw [← h]
set_option maxRecDepth 100000 in
theorem live10_facts : (storeR z10 1 2147483710 2 513).2 = true ∧ (storeR z10 2 2147483710 2 513).2 = true ∧ loadR (storeR z10 1 2147483710 2 513).1 1 2147483710 2 = (513, true) ∧ loadR (storeR z10 1 2147483710 2 513).1 1 2147483710 4 = (0, false) ∧ loadR (storeR z10 2 2147483710 2 513).1 2 2147483710 4 = (513, true) := by decide +kernel
set_option maxRecDepth 100000 in
set_option maxHeartbeats 4000000 in
theorem live10_any (w : World) : Calls Try.prog 30 #[] w fun e w' => e = .returned (.bool true) ∧ Below w.heap.size w w' := by
  obtain ⟨f1, f2, f3, f4, f5⟩ := live10_facts
  have o1 := storeR_ok z10_ok 1 2147483710 2 513
  have o2 := storeR_ok z10_ok 2 2147483710 2 513
  have G1 := Lib.hid (pair2 f1)
  have G2 := Lib.hid (pair2 f2)
  have G3 := Lib.hid f3
  have G4 := Lib.hid f4
  have G5 := Lib.hid f5
  have O1 := Lib.hid o1
  have O2 := Lib.hid o2
  have O0 := Lib.hid z10_ok
  clear f1 f2 f3 f4 f5 o1 o2
  generalize (storeR z10 1 2147483710 2 513).1 = g1 at *
  generalize (storeR z10 2 2147483710 2 513).1 = g2 at *
  go_enter Try.func30, Try.ntmps30
  go_wp2_with fail
  refine (ramnew_yes 1 _ (by omega) (by omega)).mono ?_
  rintro e w1 ⟨rfl, hR1, hb1⟩
  have hsz := hb1.size
  have F1 := (Fr.refl w).step hb1
  have hlt1 := lt_of_at hR1.1
  go_wp2_with fail
  refine (ramnew_yes 2 _ (by omega) (by omega)).mono ?_
  rintro e w2 ⟨rfl, hR2, hb2⟩
  have hR1 := hR1.keep hb2
  have F2 := F1.step hb2
  go_wp2_with fail
  refine (ramstore_v G1.out _ O0.out (by omega) (by omega) (by omega) (by omega) (by omega) hR1).mono ?_
  rintro e w3 ⟨rfl, hR1', W3⟩
  have hR2 := hR2.wrote W3 (by omega) (by omega)
  have F3 := W3.1 _ _ (Nat.le_refl _) F2
  go_wp2_with fail
  refine (ramstore_v G2.out _ O0.out (by omega) (by omega) (by omega) (by omega) (by omega) hR2).mono ?_
  rintro e w4 ⟨rfl, hR2', W4⟩
  have hR1'' := hR1'.wrote W4 (by omega) (by omega)
  have F4 := W4.1 _ _ hsz F3
  go_wp2_with fail
  refine (ramload_v G3.out _ O1.out (by omega) (by omega) (by omega) hR1'').mono ?_
  rintro e w5 ⟨rfl, hb5⟩
  have hR1c := hR1''.keep hb5
  have hR2c := hR2'.keep hb5
  have F5 := F4.step hb5
  go_wp2_with fail
  refine (ramload_v G4.out _ O1.out (by omega) (by omega) (by omega) hR1c).mono ?_
  rintro e w6 ⟨rfl, hb6⟩
  have hR2d := hR2c.keep hb6
  have F6 := F5.step hb6
  go_wp2_with fail
  refine (ramload_v G5.out _ O2.out (by omega) (by omega) (by omega) hR2d).mono ?_
  rintro e w7 ⟨rfl, hb7⟩
  have FE := Lib.hid (F6.step hb7)
  go_wp2
  go_ret
  exact ⟨rfl, FE.out.1⟩
end Go.Proofs.Ytbboaekfhdeolaa
