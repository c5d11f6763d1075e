/- Deeds of the plic in memory; words of 64 bits. -/
import Derived.Test.YtgelpapjmlbgfaaPlH
import Derived.Test.YtgelpapjmlbgfaaPlI
import Derived.Test.YtgelpapjmlbgfaaSlice
import Derived.Test.YtgelpapjmlbgfaaLift
namespace Go.Proofs.Ytgelpapjmlbgfaa
open Go.RowKit Go.ChangeShapes Go.WideShapes
set_option linter.unusedSimpArgs false
set_option linter.unusedVariables false

theorem add_block (a : Addr) (n : Nat) : (a.add n).block = a.block := by unfold Addr.add; split <;> rfl
/-- A deed in memory. -/
structure DeedAt (w : World) (ad : Addr) (i : Nat) (kd : Int) (off : Nat) (sz : Int) (v : Nat) : Prop where
  c0 : w.cell? (ad.add (i * 4)) = some (.int .i64 kd)
  c1 : w.cell? ⟨(ad.add (i * 4)).block, (ad.add (i * 4)).off + 1, none⟩ = some (.int .u64 (off : Int))
  c2 : w.cell? ⟨(ad.add (i * 4)).block, (ad.add (i * 4)).off + 2, none⟩ = some (.int .i64 sz)
  c3 : w.cell? ⟨(ad.add (i * 4)).block, (ad.add (i * 4)).off + 3, none⟩ = some (.int .u64 (v : Int))
  ho : off < 18446744073709551616
  hv : v < 18446744073709551616
theorem lt_of_cell {w : World} {a : Addr} {v : Value} (h : w.cell? a = some v) : a.block < w.heap.size := by
  rcases Nat.lt_or_ge a.block w.heap.size with h1 | h1
  · exact h1
  · simp [World.cell?, Array.getElem?_eq_none h1] at h
theorem cellsOfD : Try.prog.cellsOf 63 = 4 := by kernel_rfl
def Deeds (w : World) (a : Option Addr) (len : Nat) : Prop := ∀ i, i < len → ∃ ad kd off sz v, a = some ad ∧ ad.block < w.heap.size ∧ DeedAt w ad i kd off sz v
theorem deeds_of {H : Type} {enc : TypeId × Value → H} {w : World} {base : Nat} {spare : Nat → Bool} {held : Bool} {a : Option Addr} {len cap : Nat} {d : DataW H} {p : List MemPlace}
    (h : DataW.Trod enc Try.prog w base spare held 54 (.slice a len cap) d p) : len ≤ 9223372036854775807 ∧ Deeds w a len := by
  rcases slice_leafs Try.underlying54 h with ⟨-, rfl, -⟩ | ⟨ad, rfl, hb, hl, hm, hx⟩
  · exact ⟨by omega, fun i hi => by omega⟩
  · refine ⟨by unfold maxLen at hm; omega, fun i hi => ?_⟩
    obtain ⟨cs, hsz, hc, hlf⟩ := hx i hi
    rw [cellsOfD] at hsz hc
    obtain ⟨n0, e0, w0⟩ := leaf_int 3 0 hlf (by kernel_rfl) (by kernel_rfl) Try.underlying3
    obtain ⟨n1, e1, w1⟩ := leaf_int 22 1 hlf (by kernel_rfl) (by kernel_rfl) Try.underlying22
    obtain ⟨n2, e2, w2⟩ := leaf_int 3 2 hlf (by kernel_rfl) (by kernel_rfl) Try.underlying3
    obtain ⟨n3, e3, w3⟩ := leaf_int 22 3 hlf (by kernel_rfl) (by kernel_rfl) Try.underlying22
    obtain ⟨off, rfl, hoff⟩ := u64_nat w1
    obtain ⟨v, rfl, hv⟩ := u64_nat w3
    have h0 := hc 0 (by omega)
    have h1 := hc 1 (by omega)
    have h2 := hc 2 (by omega)
    have h3 := hc 3 (by omega)
    rw [e0] at h0
    rw [e1] at h1
    rw [e2] at h2
    rw [e3] at h3
    have hlt := lt_of_cell h0
    rw [add_block, add_block] at hlt
    refine ⟨ad, n0, off, n2, v, rfl, hlt, ⟨?_, ?_, ?_, ?_, hoff, hv⟩⟩
    · exact h0
    · simpa [Addr.add] using h1
    · simpa [Addr.add] using h2
    · simpa [Addr.add] using h3
theorem Deeds.step {w w' : World} {a : Option Addr} {len i : Nat} (h : Deeds w a len) (hb : Below w.heap.size w w') (hi : i < len) : ∃ ad kd off sz v, a = some ad ∧ ad.block < w.heap.size ∧ DeedAt w' ad i kd off sz v := by
  obtain ⟨ad, kd, off, sz, v, ha, had, hd⟩ := h i hi
  refine ⟨ad, kd, off, sz, v, ha, had, ⟨?_, ?_, ?_, ?_, hd.ho, hd.hv⟩⟩
  · exact (hb.cell (p := ad.add (i * 4)) (by rw [add_block]; exact had)).trans hd.c0
  · exact (hb.cell (p := ⟨(ad.add (i * 4)).block, (ad.add (i * 4)).off + 1, none⟩) (by rw [add_block]; exact had)).trans hd.c1
  · exact (hb.cell (p := ⟨(ad.add (i * 4)).block, (ad.add (i * 4)).off + 2, none⟩) (by rw [add_block]; exact had)).trans hd.c2
  · exact (hb.cell (p := ⟨(ad.add (i * 4)).block, (ad.add (i * 4)).off + 3, none⟩) (by rw [add_block]; exact had)).trans hd.c3

/- Words in 64 bits. -/
theorem and64 (f g : Nat → Bool) : bits .and .u64 (W32 f : Int) (W32 g : Int) = ((W32 fun i => f i && g i : Nat) : Int) := by
  have hf := W32_lt f
  have hg := W32_lt g
  rw [u64_and_nat _ _ (by omega) (by omega)]
  congr 1
  refine W32_eq (Nat.lt_of_le_of_lt Nat.and_le_left hf) fun i hi => ?_
  rw [Nat.testBit_and, W32_bit, W32_bit]; simp [hi]
theorem or64 (f g : Nat → Bool) : bits .or .u64 (W32 f : Int) (W32 g : Int) = ((W32 fun i => f i || g i : Nat) : Int) := by
  have hf := W32_lt f
  have hg := W32_lt g
  rw [u64_or_nat _ _ (by omega) (by omega)]
  congr 1
  refine W32_eq (Nat.or_lt_two_pow (n := 32) hf hg) fun i hi => ?_
  rw [Nat.testBit_or, W32_bit, W32_bit]; simp [hi]
theorem W32_zero {f : Nat → Bool} (h : ∀ i, i < 32 → f i = false) : W32 f = 0 := by
  apply Nat.eq_of_testBit_eq
  intro j
  rw [W32_bit, Nat.zero_testBit]
  by_cases hj : j < 32
  · simp [h j hj]
  · simp [hj]
theorem bit64 (f : Nat → Bool) {k : Nat} (hk : k < 32) : bits BinOp.and IntKind.u64 ((W32 f : Int) / 2 ^ k) 1 = (((f k).toNat : Nat) : Int) := by
  have hx := W32_lt f
  have h := u64_and_nat (W32 f / 2 ^ k) 1 (Nat.lt_of_le_of_lt (Nat.div_le_self _ _) (by omega)) (by omega)
  have e : ((W32 f : Int) / 2 ^ k) = ((W32 f / 2 ^ k : Nat) : Int) := by simp
  have e2 : f k = (W32 f).testBit k := by rw [W32_bit]; simp [hk]
  rw [e]
  show bits BinOp.and IntKind.u64 ((W32 f / 2 ^ k : Nat) : Int) ((1 : Nat) : Int) = _
  rw [h, Nat.and_one_is_mod, e2, Nat.testBit_eq_decide_div_mod_eq]
  rcases Nat.mod_two_eq_zero_or_one (W32 f / 2 ^ k) with e3 | e3 <;> rw [e3] <;> rfl
theorem low64 (f : Nat → Bool) : bits BinOp.and IntKind.u64 (W32 f : Int) 1 = (((f 0).toNat : Nat) : Int) := by
  have := bit64 f (k := 0) (by omega)
  simpa using this
/- The row of wires. -/
def cellsB (g : Nat → Bool) : Array Value := rowV 32 fun i => .bool (g i)
def szB : Nat := 32
theorem size_cellsB (g : Nat → Bool) : (cellsB g).size = szB := rowV_size _ _
theorem one_cellsB (g : Nat → Bool) : (cellsB g).all (·.oneCell') = true := rowV_one _ _ fun i _ => rfl
theorem B_get (g : Nat → Bool) {i : Nat} (hi : i < 32) : (cellsB g)[i]? = some (.bool (g i)) := rowV_get _ _ hi
theorem B_set (g : Nat → Bool) {i : Nat} (hi : i < 32) (v : Bool) : (cellsB g).setIfInBounds i (.bool v) = cellsB (upN g i v) := by
  refine rowV_set hi ?_ fun j hj hne => ?_
  · show Value.bool (upN g i v i) = _; rw [upN_same]
  · show Value.bool (upN g i v j) = _; rw [upN_other _ hne]
theorem knownB {w : World} {b : Nat} {g : Nat → Bool} {t : TypeId} (h : w.heap[b]? = some (.cells (cellsB g) t)) {i : Nat} (hi : i < 32) : w.cell? ⟨b, i, none⟩ = some (.bool (g i)) := by
  rw [cell_at h]; exact B_get g hi
theorem zeroBv (w : World) : (zeroValue 62).run Try.prog w = .ok (.agg (cellsB fun _ => false)) w := by kernel_rfl
theorem wireP_wi (s : PS) (i : Int) (on : Bool) (s' : PS) (q : Bool) (h : wireP s i on = (s', q)) : (q = false ∧ s' = s) ∨ (q = true ∧ 1 ≤ i ∧ i ≤ 31 ∧ s'.wi = upN s.wi i.toNat on) := by
  unfold wireP at h
  split at h
  · cases h; exact Or.inl ⟨rfl, rfl⟩
  · cases h
    refine Or.inr ⟨rfl, by omega, by omega, ?_⟩
    unfold wireS
    split <;> rfl
theorem wire_n (s : PS) (i : Int) (on : Bool) : (wireP s i on).1.n = s.n := by
  unfold wireP wireS; repeat' split
  all_goals rfl
theorem read_n (s : PS) (k : Nat × Nat) : (readP s k).1.n = s.n := by
  unfold readP; repeat' split
  all_goals rfl
theorem read_wi (s : PS) (k : Nat × Nat) : (readP s k).1.wi = s.wi := by
  unfold readP; repeat' split
  all_goals rfl
theorem write_n (s : PS) (v : Nat) (k : Nat × Nat) : (writeP s v k).1.n = s.n := by
  unfold writeP endP doneP; repeat' split
  all_goals rfl
theorem write_wi (s : PS) (v : Nat) (k : Nat × Nat) : (writeP s v k).1.wi = s.wi := by
  unfold writeP endP doneP; repeat' split
  all_goals rfl
end Go.Proofs.Ytgelpapjmlbgfaa
