/- TopWhole with an argument that is a slice of bools. -/
import Derived.Test.YtdeheoaeagoidaaTxG
import Derived.Test.YtdeheoaeagoidaaSlice
import Derived.Test.YtdeheoaeagoidaaLift
namespace Go.Proofs.Ytdeheoaeagoidaa
open Go.RowKit Go.ChangeShapes Go.WideShapes
set_option linter.unusedVariables false

theorem lt_of_cell {w : World} {a : Addr} {v : Value} (h : w.cell? a = some v) : a.block < w.heap.size := by
  rcases Nat.lt_or_ge a.block w.heap.size with h1 | h1
  · exact h1
  · simp [World.cell?, Array.getElem?_eq_none h1] at h
theorem u8_nat {a : Int} (h : (Lit.int .u8 a).wf = true) : ∃ x : Nat, a = x ∧ x < 256 := by
  have hb : 0 ≤ a ∧ a < 256 := by
    simp [Lit.wf, IntKind.min, IntKind.max, IntKind.bits, IntKind.signed] at h
    omega
  exact ⟨a.toNat, by omega, by omega⟩
theorem add_one0 (ad : Addr) (i : Nat) : (ad.add (i * 1)).add 0 = ad.add i := by
  rw [Nat.mul_one]
  unfold Addr.add
  split <;> simp_all
theorem coBool : Try.prog.cellsOf 4 = 1 := by kernel_rfl
def boolAt (w : World) (ad : Option Addr) (i : Nat) : Bool := match ad with | some a => (match w.cell? (a.add i) with | some (.bool n) => n | _ => false) | none => false
theorem bools_of {H : Type} {enc : TypeId × Value → H} {w : World} {base : Nat} {spare : Nat → Bool} {held : Bool} {a : Option Addr} {len cap : Nat} {d : DataW H} {p : List MemPlace}
    (h : DataW.Trod enc Try.prog w base spare held 23 (.slice a len cap) d p) :
    len ≤ 9223372036854775807 ∧ Bools w a len (boolAt w a) := by
  rcases slice_leafs Try.underlying23 h with ⟨-, rfl, -⟩ | ⟨ad, rfl, hb, hl, hm, hx⟩
  · exact ⟨by omega, fun i hi => by omega⟩
  · have key : ∀ i, i < len → ∃ x : Bool, w.cell? (ad.add i) = some (.bool x) := by
      intro i hi
      obtain ⟨cs, hsz, hc, hlf⟩ := hx i hi
      rw [coBool] at hsz hc
      obtain ⟨n0, e0⟩ := leaf_bool 4 0 hlf (by kernel_rfl) (by kernel_rfl) Try.underlying4
      have h0 := hc 0 (by omega)
      rw [add_one0, e0] at h0
      exact ⟨n0, h0⟩
    have val : ∀ i, i < len → ∀ x : Bool, w.cell? (ad.add i) = some (.bool x) → boolAt w (some ad) i = x := by
      intro i hi x hxe
      unfold boolAt
      simp only [hxe]
    refine ⟨by unfold maxLen at hm; omega, fun i hi => ?_⟩
    obtain ⟨x, hxe⟩ := key i hi
    have hb := lt_of_cell hxe
    have e : (ad.add i).block = ad.block := by unfold Addr.add; split <;> rfl
    rw [e] at hb
    exact ⟨ad, rfl, hb, by rw [val i hi x hxe]; exact hxe⟩
theorem topwhole_any (a b p : Nat) (ao : Option Addr) (len cap : Nat) (pk : Nat → Bool) (w : World) (ha : a < 18446744073709551616) (hb : b < 18446744073709551616) (hp : p < 256) (hpk : Bools w ao len pk) (hm : len ≤ 9223372036854775807) :
    Calls Try.prog 3 #[.int .u64 (a : Int), .int .u64 (b : Int), .int .u8 (p : Int), .slice ao len cap] w fun e w' => e = .returned (.bool true) ∧ Below w.heap.size w w' := by
  by_cases h : 300 < len
  · exact topwhole_long a b p ao len cap w h hm
  · exact topwhole_short a b p ao len cap pk w ha hb hp hpk (by omega)
end Go.Proofs.Ytdeheoaeagoidaa
