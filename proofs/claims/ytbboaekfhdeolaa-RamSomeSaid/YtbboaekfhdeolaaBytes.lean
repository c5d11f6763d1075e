/- An argument that is a slice of bytes. -/
import Derived.Test.YtbboaekfhdeolaaLnB
import Derived.Test.YtbboaekfhdeolaaSlice
import Derived.Test.YtbboaekfhdeolaaLift
namespace Go.Proofs.Ytbboaekfhdeolaa
open Go.RowKit Go.ChangeShapes Go.WideShapes
set_option linter.unusedVariables false

theorem lt_of_cell {w : World} {a : Addr} {v : Value} (h : w.cell? a = some v) : a.block < w.heap.size := by
  rcases Nat.lt_or_ge a.block w.heap.size with h1 | h1
  · exact h1
  · simp [World.cell?, Array.getElem?_eq_none h1] at h
theorem u8_nat {a : Int} (h : (Lit.int .u8 a).wf = true) : ∃ x : Nat, a = x ∧ x < 256 := by
  have hb : 0 ≤ a ∧ a < 256 := by
    simp [Lit.wf, IntKind.min, IntKind.max, IntKind.bits, IntKind.signed] at h
    omega
  exact ⟨a.toNat, by omega, by omega⟩
theorem i64_bound {a : Int} (h : (Lit.int .i64 a).wf = true) : -9223372036854775808 ≤ a ∧ a ≤ 9223372036854775807 := by
  simp [Lit.wf, IntKind.min, IntKind.max, IntKind.bits, IntKind.signed] at h
  omega
theorem add_one0 (ad : Addr) (i : Nat) : (ad.add (i * 1)).add 0 = ad.add i := by
  rw [Nat.mul_one]
  unfold Addr.add
  split <;> simp_all
def byteAt (w : World) (ad : Option Addr) (i : Nat) : Nat := match ad with | some a => (match w.cell? (a.add i) with | some (.int _ n) => n.toNat | _ => 0) | none => 0
theorem bytes_of {H : Type} {enc : TypeId × Value → H} {w : World} {base : Nat} {spare : Nat → Bool} {held : Bool} {a : Option Addr} {len cap : Nat} {d : DataW H} {p : List MemPlace}
    (h : DataW.Trod enc Try.prog w base spare held 22 (.slice a len cap) d p) :
    len ≤ 9223372036854775807 ∧ (∀ i, i < len → byteAt w a i < 256) ∧ Bytes w a len (byteAt w a) := by
  rcases slice_leafs Try.underlying22 h with ⟨-, rfl, -⟩ | ⟨ad, rfl, hb, hl, hm, hx⟩
  · exact ⟨by omega, fun i hi => by omega, fun i hi => by omega⟩
  · have key : ∀ i, i < len → ∃ x : Nat, x < 256 ∧ w.cell? (ad.add i) = some (.int .u8 (x : Int)) := by
      intro i hi
      obtain ⟨cs, hsz, hc, hlf⟩ := hx i hi
      rw [coU8] at hsz hc
      obtain ⟨n0, e0, w0⟩ := leaf_int 5 0 hlf (by kernel_rfl) (by kernel_rfl) Try.underlying5
      obtain ⟨x, rfl, hx8⟩ := u8_nat w0
      have h0 := hc 0 (by omega)
      rw [add_one0, e0] at h0
      exact ⟨x, hx8, h0⟩
    have val : ∀ i, i < len → ∀ x : Nat, w.cell? (ad.add i) = some (.int .u8 (x : Int)) → byteAt w (some ad) i = x := by
      intro i hi x hxe
      unfold byteAt
      simp only [hxe]
      exact Int.toNat_natCast x
    refine ⟨by unfold maxLen at hm; omega, fun i hi => ?_, fun i hi => ?_⟩
    · obtain ⟨x, h8, hxe⟩ := key i hi
      rw [val i hi x hxe]
      exact h8
    · obtain ⟨x, h8, hxe⟩ := key i hi
      have hb := lt_of_cell hxe
      have e : (ad.add i).block = ad.block := by unfold Addr.add; split <;> rfl
      rw [e] at hb
      exact ⟨ad, rfl, hb, by rw [val i hi x hxe]; exact hxe⟩
end Go.Proofs.Ytbboaekfhdeolaa
