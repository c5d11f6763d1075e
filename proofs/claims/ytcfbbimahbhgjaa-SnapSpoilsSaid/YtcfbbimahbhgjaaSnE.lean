/- Snap: things in memory. -/
import Derived.Test.YtcfbbimahbhgjaaSnD
import Derived.Test.YtcfbbimahbhgjaaSlice
import Derived.Test.YtcfbbimahbhgjaaLift
namespace Go.Proofs.Ytcfbbimahbhgjaa
open Go.RowKit Go.ChangeShapes Go.WideShapes
set_option linter.unusedSimpArgs false
set_option linter.unusedVariables false

section
variable {H : Type} {enc : TypeId × Value → H} {P : Program} {w : World} {base : Nat} {spare : Nat → Bool} {held : Bool}
theorem leaf_slice {cs : Array Value} {t e : TypeId} (tl : TypeId) (i : Nat) (hc : ∀ i tl, leafT P 12 t i = some tl → P.cellsOf tl = 1 → ∃ u n y, cs[i]? = some u ∧ DataW.trod enc P w base spare held n tl [u] = some y)
    (hl : leafT P 12 t i = some tl) (h1 : P.cellsOf tl = 1) (hk : P.underlying tl = some (.slice e)) : ∃ a len cap d p, cs[i]? = some (.slice a len cap) ∧ DataW.Trod enc P w base spare held tl (.slice a len cap) d p := by
  obtain ⟨u, n, y, hu, ht⟩ := hc i tl hl h1
  obtain ⟨d, p⟩ := y
  rcases Go.Deep.open_slice hk ht with ⟨h0, _⟩ | ⟨ad, len', cap', m, n', D, Pl, h0, _⟩
  · simp at h0
    subst h0
    exact ⟨_, _, _, d, p, hu, n, by simpa [Value.cells] using ht⟩
  · simp at h0
    subst h0
    exact ⟨_, _, _, d, p, hu, n, by simpa [Value.cells] using ht⟩
end
theorem slice_cap {H : Type} {enc : TypeId × Value → H} {P : Program} {w : World} {base : Nat} {spare : Nat → Bool} {held : Bool} {t e : TypeId} {a : Option Addr} {len cap : Nat} {d : DataW H} {p : List MemPlace} (ht : P.underlying t = some (.slice e)) (h : DataW.Trod enc P w base spare held t (.slice a len cap) d p) : len ≤ cap := by
  rcases slice_leafs ht h with ⟨-, rfl, rfl⟩ | ⟨ad, rfl, hb, hl, hm, hx⟩
  · exact Nat.le_refl _
  · exact hl
theorem lt_of_cell {w : World} {a : Addr} {v : Value} (h : w.cell? a = some v) : a.block < w.heap.size := by
  rcases Nat.lt_or_ge a.block w.heap.size with h1 | h1
  · exact h1
  · simp [World.cell?, Array.getElem?_eq_none h1] at h
theorem u8_nat {a : Int} (h : (Lit.int .u8 a).wf = true) : ∃ x : Nat, a = x ∧ x < 256 := by
  have hb : 0 ≤ a ∧ a < 256 := by
    simp [Lit.wf, IntKind.min, IntKind.max, IntKind.bits, IntKind.signed] at h
    omega
  exact ⟨a.toNat, by omega, by omega⟩
theorem i64_bound {a : Int} (h : (Lit.int .i64 a).wf = true) : -9223372036854775808 ≤ a ∧ a ≤ 9223372036854775807 := by
  simp [Lit.wf, IntKind.min, IntKind.max, IntKind.bits, IntKind.signed] at h
  omega
theorem add_one0 (ad : Addr) (i : Nat) : (ad.add (i * 1)).add 0 = ad.add i := by
  rw [Nat.mul_one]
  unfold Addr.add
  split <;> simp_all
theorem coU8 : Try.prog.cellsOf 5 = 1 := by kernel_rfl
/-- A slice of bytes as an argument. -/
structure BytesL (w : World) (a : Option Addr) (len cap : Nat) (L : List Nat) : Prop where
  ln : L.length = len
  lc : len ≤ cap
  ll : len ≤ 9223372036854775807
  h8 : ∀ x ∈ L, x < 256
  hb : BL w a L
theorem BytesL.keep {w w' : World} {a : Option Addr} {len cap : Nat} {L : List Nat} (h : BytesL w a len cap L) (hb : Below w.heap.size w w') : BytesL w' a len cap L := ⟨h.ln, h.lc, h.ll, h.h8, h.hb.keep hb⟩
theorem BytesL.blk {w : World} {a : Option Addr} {len cap : Nat} {L : List Nat} (h : BytesL w a len cap L) (h0 : 0 < L.length) : ∀ ad, a = some ad → ad.block < w.heap.size := by
  intro ad e
  obtain ⟨ad', e', hl, _⟩ := h.hb 0 L[0] (List.getElem?_eq_getElem h0)
  rw [e] at e'; cases e'; exact hl
theorem choose_list (n : Nat) (P : Nat → Nat → Prop) (h : ∀ i, i < n → ∃ x, P i x) : ∃ l : List Nat, l.length = n ∧ ∀ (i x : Nat), l[i]? = some x → P i x := by
  induction n with
  | zero => exact ⟨[], rfl, fun i x hx => by simp at hx⟩
  | succ n ih =>
    obtain ⟨l, hl, hp⟩ := ih fun i hi => h i (by omega)
    obtain ⟨x, hx⟩ := h n (by omega)
    refine ⟨l ++ [x], by simp [hl], fun i y hy => ?_⟩
    by_cases hi : i < n
    · rw [List.getElem?_append_left (by omega)] at hy
      exact hp i y hy
    · have hi2 : i < (l ++ [x]).length := (List.getElem?_eq_some_iff.1 hy).1
      have e : i = n := by simp [hl] at hi2; omega
      subst e
      rw [List.getElem?_append_right (by omega)] at hy
      simp [hl] at hy
      subst hy
      exact hx
theorem bytesL_of {H : Type} {enc : TypeId × Value → H} {w : World} {base : Nat} {spare : Nat → Bool} {held : Bool} {a : Option Addr} {len cap : Nat} {d : DataW H} {p : List MemPlace}
    (h : DataW.Trod enc Try.prog w base spare held 29 (.slice a len cap) d p) : ∃ L, BytesL w a len cap L := by
  have hcap := slice_cap Try.underlying29 h
  rcases slice_leafs Try.underlying29 h with ⟨-, rfl, -⟩ | ⟨ad, rfl, hb, hl, hm, hx⟩
  · exact ⟨[], rfl, hcap, by omega, (fun x hx => by cases hx), (fun i x hx => by simp at hx)⟩
  · obtain ⟨l, hll, hp⟩ := choose_list len (fun i x => x < 256 ∧ w.cell? (ad.add i) = some (.int .u8 (x : Int))) (by
      intro i hi
      obtain ⟨cs, hsz, hc, hlf⟩ := hx i hi
      rw [coU8] at hsz hc
      obtain ⟨n0, e0, w0⟩ := leaf_int 5 0 hlf (by kernel_rfl) (by kernel_rfl) Try.underlying5
      obtain ⟨x, rfl, hx8⟩ := u8_nat w0
      have h0 := hc 0 (by omega)
      rw [add_one0, e0] at h0
      exact ⟨x, hx8, h0⟩)
    refine ⟨l, hll, hcap, by unfold maxLen at hm; omega, fun x hx => ?_, fun i x hx => ?_⟩
    · obtain ⟨i, hi, e⟩ := List.getElem_of_mem hx
      exact (hp i x (by rw [List.getElem?_eq_getElem hi, e])).1
    · have h1 := (hp i x hx).2
      have h2 := lt_of_cell h1
      rw [add_blk] at h2
      exact ⟨ad, rfl, h2, h1⟩
/-- A thing in memory. -/
structure TA (w : World) (ad : Addr) (i : Nat) (kd : Int) (N : Nat) (I : Int) (q : Bool) (a : Option Addr) (len cap : Nat) (M : Int) : Prop where
  c0 : w.cell? (ad.add (i * 6)) = some (.int .i64 kd)
  c1 : w.cell? ⟨(ad.add (i * 6)).block, (ad.add (i * 6)).off + 1, none⟩ = some (.int .u64 (N : Int))
  c2 : w.cell? ⟨(ad.add (i * 6)).block, (ad.add (i * 6)).off + 2, none⟩ = some (.int .i64 I)
  c3 : w.cell? ⟨(ad.add (i * 6)).block, (ad.add (i * 6)).off + 3, none⟩ = some (.bool q)
  c4 : w.cell? ⟨(ad.add (i * 6)).block, (ad.add (i * 6)).off + 4, none⟩ = some (.slice a len cap)
  c5 : w.cell? ⟨(ad.add (i * 6)).block, (ad.add (i * 6)).off + 5, none⟩ = some (.int .i64 M)
theorem TA.keep {w w' : World} {ad : Addr} {i : Nat} {kd : Int} {N : Nat} {I : Int} {q : Bool} {a : Option Addr} {len cap : Nat} {M : Int} (hd : TA w ad i kd N I q a len cap M) (hb : Below w.heap.size w w') (had : ad.block < w.heap.size) : TA w' ad i kd N I q a len cap M := by
  refine ⟨?_, ?_, ?_, ?_, ?_, ?_⟩
  · exact (hb.cell (p := ad.add (i * 6)) (by rw [add_blk]; exact had)).trans hd.c0
  · exact (hb.cell (p := ⟨(ad.add (i * 6)).block, (ad.add (i * 6)).off + 1, none⟩) (by rw [add_blk]; exact had)).trans hd.c1
  · exact (hb.cell (p := ⟨(ad.add (i * 6)).block, (ad.add (i * 6)).off + 2, none⟩) (by rw [add_blk]; exact had)).trans hd.c2
  · exact (hb.cell (p := ⟨(ad.add (i * 6)).block, (ad.add (i * 6)).off + 3, none⟩) (by rw [add_blk]; exact had)).trans hd.c3
  · exact (hb.cell (p := ⟨(ad.add (i * 6)).block, (ad.add (i * 6)).off + 4, none⟩) (by rw [add_blk]; exact had)).trans hd.c4
  · exact (hb.cell (p := ⟨(ad.add (i * 6)).block, (ad.add (i * 6)).off + 5, none⟩) (by rw [add_blk]; exact had)).trans hd.c5
theorem cellsOfTh : Try.prog.cellsOf 35 = 6 := by kernel_rfl
def Things (w : World) (a : Option Addr) (len : Nat) : Prop := ∀ i, i < len → ∃ ad kd N I q a' l' c' M L, a = some ad ∧ ad.block < w.heap.size ∧ TA w ad i kd N I q a' l' c' M ∧ (N < 18446744073709551616 ∧ -9223372036854775808 ≤ I ∧ I ≤ 9223372036854775807 ∧ -9223372036854775808 ≤ M ∧ M ≤ 9223372036854775807) ∧ BytesL w a' l' c' L
theorem things_of {H : Type} {enc : TypeId × Value → H} {w : World} {base : Nat} {spare : Nat → Bool} {held : Bool} {a : Option Addr} {len cap : Nat} {d : DataW H} {p : List MemPlace}
    (h : DataW.Trod enc Try.prog w base spare held 22 (.slice a len cap) d p) : len ≤ 9223372036854775807 ∧ Things w a len := by
  rcases slice_leafs Try.underlying22 h with ⟨-, rfl, -⟩ | ⟨ad, rfl, hb, hl, hm, hx⟩
  · exact ⟨by omega, fun i hi => by omega⟩
  · refine ⟨by unfold maxLen at hm; omega, fun i hi => ?_⟩
    obtain ⟨cs, hsz, hc, hlf⟩ := hx i hi
    rw [cellsOfTh] at hsz hc
    obtain ⟨n0, e0, w0⟩ := leaf_int 3 0 hlf (by kernel_rfl) (by kernel_rfl) Try.underlying3
    obtain ⟨n1, e1, w1⟩ := leaf_int 25 1 hlf (by kernel_rfl) (by kernel_rfl) Try.underlying25
    obtain ⟨n2, e2, w2⟩ := leaf_int 3 2 hlf (by kernel_rfl) (by kernel_rfl) Try.underlying3
    obtain ⟨n3, e3⟩ := leaf_bool 4 3 hlf (by kernel_rfl) (by kernel_rfl) Try.underlying4
    obtain ⟨a4, l4, k4, d4, p4, e4, t4⟩ := leaf_slice 29 4 hlf (by kernel_rfl) (by kernel_rfl) Try.underlying29
    obtain ⟨n5, e5, w5⟩ := leaf_int 3 5 hlf (by kernel_rfl) (by kernel_rfl) Try.underlying3
    obtain ⟨N, rfl, hN⟩ := u64_nat w1
    obtain ⟨L, hL⟩ := bytesL_of t4
    have h0 := hc 0 (by omega)
    have h1 := hc 1 (by omega)
    have h2 := hc 2 (by omega)
    have h3 := hc 3 (by omega)
    have h4 := hc 4 (by omega)
    have h5 := hc 5 (by omega)
    rw [e0] at h0
    rw [e1] at h1
    rw [e2] at h2
    rw [e3] at h3
    rw [e4] at h4
    rw [e5] at h5
    have hlt := lt_of_cell h0
    rw [add_blk, add_blk] at hlt
    refine ⟨ad, n0, N, n2, n3, a4, l4, k4, n5, L, rfl, hlt, ⟨?_, ?_, ?_, ?_, ?_, ?_⟩, ⟨hN, (i64_bound w2).1, (i64_bound w2).2, (i64_bound w5).1, (i64_bound w5).2⟩, hL⟩
    · exact h0
    · simpa [Addr.add] using h1
    · simpa [Addr.add] using h2
    · simpa [Addr.add] using h3
    · simpa [Addr.add] using h4
    · simpa [Addr.add] using h5
end Go.Proofs.Ytcfbbimahbhgjaa
