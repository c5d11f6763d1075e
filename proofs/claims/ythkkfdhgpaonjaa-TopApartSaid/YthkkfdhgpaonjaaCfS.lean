/- An argument that is a slice of deeds: the deeds in memory. -/
import Derived.Test.YthkkfdhgpaonjaaCfR
import Derived.Test.YthkkfdhgpaonjaaMLeaf
namespace Go.Proofs.Ythkkfdhgpaonjaa
open Go.RowKit Go.ChangeShapes Go.WideShapes
set_option linter.unusedVariables false

theorem cellsOfD : Try.prog.cellsOf 78 = 12 := by kernel_rfl
theorem arr12 {cs : Array Value} {d : DD} (h : cs.size = 12) (h0 : cs[0]? = some (.int .i64 d.kd)) (h1 : cs[1]? = some (.int .i64 d.op)) (h2 : cs[2]? = some (.int .i64 d.rd)) (h3 : cs[3]? = some (.int .i64 d.rs1)) (h4 : cs[4]? = some (.int .i64 d.rs2)) (h5 : cs[5]? = some (.int .i64 d.imm))
    (h6 : cs[6]? = some (.int .i64 d.n)) (h7 : cs[7]? = some (.bool d.aq)) (h8 : cs[8]? = some (.bool d.rl)) (h9 : cs[9]? = some (.int .u64 (d.v : Int))) (h10 : cs[10]? = some (.int .u64 (d.L : Int))) (h11 : cs[11]? = some (.bool d.r)) : ∀ j, j < 12 → cs[j]? = (cellsD d)[j]? := by
  intro j hj
  have e : j = 0 ∨ j = 1 ∨ j = 2 ∨ j = 3 ∨ j = 4 ∨ j = 5 ∨ j = 6 ∨ j = 7 ∨ j = 8 ∨ j = 9 ∨ j = 10 ∨ j = 11 := by omega
  rcases e with rfl | rfl | rfl | rfl | rfl | rfl | rfl | rfl | rfl | rfl | rfl | rfl
  · exact h0
  · exact h1
  · exact h2
  · exact h3
  · exact h4
  · exact h5
  · exact h6
  · exact h7
  · exact h8
  · exact h9
  · exact h10
  · exact h11
theorem lt_of_cell {w : World} {a : Addr} {v : Value} (h : w.cell? a = some v) : a.block < w.heap.size := by
  rcases Nat.lt_or_ge a.block w.heap.size with h1 | h1
  · exact h1
  · simp [World.cell?, Array.getElem?_eq_none h1] at h
theorem deeds_of {H : Type} {enc : TypeId × Value → H} {w : World} {base : Nat} {spare : Nat → Bool} {held : Bool} {a : Option Addr} {len cap : Nat} {d : DataW H} {p : List MemPlace}
    (h : DataW.Trod enc Try.prog w base spare held 22 (.slice a len cap) d p) :
    len ≤ 9223372036854775807 ∧ ∀ i, i < len → ∃ ad d, a = some ad ∧ ad.block < w.heap.size ∧ OkD d ∧ DeedIn w ad i d := by
  rcases slice_leafs Try.underlying22 h with ⟨-, rfl, -⟩ | ⟨ad, rfl, hb, hl, hm, hx⟩
  · exact ⟨by omega, fun i hi => by omega⟩
  · refine ⟨by unfold maxLen at hm; omega, fun i hi => ?_⟩
    obtain ⟨cs, hsz, hc, hlf⟩ := hx i hi
    rw [cellsOfD] at hsz hc
    obtain ⟨n0, e0, w0⟩ := leaf_int 3 0 hlf (by kernel_rfl) (by kernel_rfl) Try.underlying3
    obtain ⟨n1, e1, w1⟩ := leaf_int 74 1 hlf (by kernel_rfl) (by kernel_rfl) Try.underlying74
    obtain ⟨n2, e2, w2⟩ := leaf_int 3 2 hlf (by kernel_rfl) (by kernel_rfl) Try.underlying3
    obtain ⟨n3, e3, w3⟩ := leaf_int 3 3 hlf (by kernel_rfl) (by kernel_rfl) Try.underlying3
    obtain ⟨n4, e4, w4⟩ := leaf_int 3 4 hlf (by kernel_rfl) (by kernel_rfl) Try.underlying3
    obtain ⟨n5, e5, w5⟩ := leaf_int 2 5 hlf (by kernel_rfl) (by kernel_rfl) Try.underlying2
    obtain ⟨n6, e6, w6⟩ := leaf_int 3 6 hlf (by kernel_rfl) (by kernel_rfl) Try.underlying3
    obtain ⟨b7, e7⟩ := leaf_bool 4 7 hlf (by kernel_rfl) (by kernel_rfl) Try.underlying4
    obtain ⟨b8, e8⟩ := leaf_bool 4 8 hlf (by kernel_rfl) (by kernel_rfl) Try.underlying4
    obtain ⟨n9, e9, w9⟩ := leaf_int 25 9 hlf (by kernel_rfl) (by kernel_rfl) Try.underlying25
    obtain ⟨n10, e10, w10⟩ := leaf_int 25 10 hlf (by kernel_rfl) (by kernel_rfl) Try.underlying25
    obtain ⟨b11, e11⟩ := leaf_bool 4 11 hlf (by kernel_rfl) (by kernel_rfl) Try.underlying4
    obtain ⟨v, rfl, hv⟩ := u64_nat w9
    obtain ⟨L, rfl, hL⟩ := u64_nat w10
    have h0 := hc 0 (by omega)
    refine ⟨ad, ⟨n0, n1, n2, n3, n4, n5, n6, b7, b8, v, L, b11⟩, rfl, ?_, ⟨hv, hL⟩, fun j hj => ?_⟩
    · rw [e0] at h0
      have := lt_of_cell h0
      rw [add_block, add_block] at this
      exact this
    · show w.cell? ((ad.add (i * 12)).add j) = _
      rw [hc j hj]
      exact arr12 (d := ⟨n0, n1, n2, n3, n4, n5, n6, b7, b8, v, L, b11⟩) hsz e0 e1 e2 e3 e4 e5 e6 e7 e8 e9 e10 e11 j hj
theorem i64_bound {a : Int} (h : (Lit.int .i64 a).wf = true) : -9223372036854775808 ≤ a ∧ a ≤ 9223372036854775807 := by
  simp [Lit.wf, IntKind.min, IntKind.max, IntKind.bits, IntKind.signed] at h
  omega
end Go.Proofs.Ythkkfdhgpaonjaa
