/- Law 10's deeds in memory; great. -/
import Derived.Test.YtbboaekfhdeolaaRpK
import Derived.Test.YtbboaekfhdeolaaSlice
import Derived.Test.YtbboaekfhdeolaaLift
import Derived.Test.YtbboaekfhdeolaaBytes
namespace Go.Proofs.Ytbboaekfhdeolaa
open Go.RowKit Go.ChangeShapes Go.WideShapes
set_option linter.unusedSimpArgs false
set_option linter.unusedVariables false
attribute [local simp high] sizeLL zeroLL sizeLR zeroLR

section
variable {H : Type} {enc : TypeId × Value → H} {P : Program} {w : World} {base : Nat} {spare : Nat → Bool} {held : Bool}
theorem leaf_slice {cs : Array Value} {t e : TypeId} (tl : TypeId) (i : Nat) (hc : ∀ i tl, leafT P 12 t i = some tl → P.cellsOf tl = 1 → ∃ u n y, cs[i]? = some u ∧ DataW.trod enc P w base spare held n tl [u] = some y)
    (hl : leafT P 12 t i = some tl) (h1 : P.cellsOf tl = 1) (hk : P.underlying tl = some (.slice e)) : ∃ a len cap d p, cs[i]? = some (.slice a len cap) ∧ DataW.Trod enc P w base spare held tl (.slice a len cap) d p := by
  obtain ⟨u, n, y, hu, ht⟩ := hc i tl hl h1
  obtain ⟨d, p⟩ := y
  rcases Go.Deep.open_slice hk ht with ⟨h0, _⟩ | ⟨ad, len', cap', m, n', D, Pl, h0, _⟩
  · simp at h0
    subst h0
    exact ⟨_, _, _, d, p, hu, n, by simpa [Value.cells] using ht⟩
  · simp at h0
    subst h0
    exact ⟨_, _, _, d, p, hu, n, by simpa [Value.cells] using ht⟩
end
theorem slice_cap {H : Type} {enc : TypeId × Value → H} {P : Program} {w : World} {base : Nat} {spare : Nat → Bool} {held : Bool} {t e : TypeId} {a : Option Addr} {len cap : Nat} {d : DataW H} {p : List MemPlace} (ht : P.underlying t = some (.slice e)) (h : DataW.Trod enc P w base spare held t (.slice a len cap) d p) : len ≤ cap := by
  rcases slice_leafs ht h with ⟨-, rfl, rfl⟩ | ⟨ad, rfl, hb, hl, hm, hx⟩
  · exact Nat.le_refl _
  · exact hl
theorem add_block (a : Addr) (n : Nat) : (a.add n).block = a.block := by unfold Addr.add; split <;> rfl
/-- A slice of bytes as a part of an argument. -/
structure BytesOk (w : World) (a : Option Addr) (len cap : Nat) : Prop where
  lc : len ≤ cap
  ll : len ≤ 9223372036854775807
  h8 : ∀ i, i < len → byteAt w a i < 256
  hb : Bytes w a len (byteAt w a)
theorem bytesOk_of {H : Type} {enc : TypeId × Value → H} {w : World} {base : Nat} {spare : Nat → Bool} {held : Bool} {a : Option Addr} {len cap : Nat} {d : DataW H} {p : List MemPlace}
    (h : DataW.Trod enc Try.prog w base spare held 22 (.slice a len cap) d p) : BytesOk w a len cap :=
  ⟨slice_cap Try.underlying22 h, (bytes_of h).1, (bytes_of h).2.1, (bytes_of h).2.2⟩
/-- A deed in memory. -/
structure RDeed (w : World) (ad : Addr) (i : Nat) (kd : Int) (addr : Nat) (n : Int) (v : Nat) (a : Option Addr) (len cap : Nat) : Prop where
  c0 : w.cell? (ad.add (i * 5)) = some (.int .i64 kd)
  c1 : w.cell? ⟨(ad.add (i * 5)).block, (ad.add (i * 5)).off + 1, none⟩ = some (.int .u64 (addr : Int))
  c2 : w.cell? ⟨(ad.add (i * 5)).block, (ad.add (i * 5)).off + 2, none⟩ = some (.int .i64 n)
  c3 : w.cell? ⟨(ad.add (i * 5)).block, (ad.add (i * 5)).off + 3, none⟩ = some (.int .u64 (v : Int))
  c4 : w.cell? ⟨(ad.add (i * 5)).block, (ad.add (i * 5)).off + 4, none⟩ = some (.slice a len cap)
theorem RDeed.keep {w w' : World} {ad : Addr} {i : Nat} {kd : Int} {addr : Nat} {n : Int} {v : Nat} {a : Option Addr} {len cap : Nat} (hd : RDeed w ad i kd addr n v a len cap) (hb : Below w.heap.size w w') (had : ad.block < w.heap.size) : RDeed w' ad i kd addr n v a len cap := by
  refine ⟨?_, ?_, ?_, ?_, ?_⟩
  · exact (hb.cell (p := ad.add (i * 5)) (by rw [add_block]; exact had)).trans hd.c0
  · exact (hb.cell (p := ⟨(ad.add (i * 5)).block, (ad.add (i * 5)).off + 1, none⟩) (by rw [add_block]; exact had)).trans hd.c1
  · exact (hb.cell (p := ⟨(ad.add (i * 5)).block, (ad.add (i * 5)).off + 2, none⟩) (by rw [add_block]; exact had)).trans hd.c2
  · exact (hb.cell (p := ⟨(ad.add (i * 5)).block, (ad.add (i * 5)).off + 3, none⟩) (by rw [add_block]; exact had)).trans hd.c3
  · exact (hb.cell (p := ⟨(ad.add (i * 5)).block, (ad.add (i * 5)).off + 4, none⟩) (by rw [add_block]; exact had)).trans hd.c4
theorem cellsOfRD : Try.prog.cellsOf 63 = 5 := by kernel_rfl
def RDeeds (w : World) (a : Option Addr) (len : Nat) : Prop := ∀ i, i < len → ∃ ad kd addr n v a' l' c', a = some ad ∧ ad.block < w.heap.size ∧ RDeed w ad i kd addr n v a' l' c' ∧ (addr < 18446744073709551616 ∧ v < 18446744073709551616 ∧ n ≤ 9223372036854775807) ∧ BytesOk w a' l' c'
theorem rdeeds_of {H : Type} {enc : TypeId × Value → H} {w : World} {base : Nat} {spare : Nat → Bool} {held : Bool} {a : Option Addr} {len cap : Nat} {d : DataW H} {p : List MemPlace}
    (h : DataW.Trod enc Try.prog w base spare held 61 (.slice a len cap) d p) : len ≤ 9223372036854775807 ∧ RDeeds w a len := by
  rcases slice_leafs Try.underlying61 h with ⟨-, rfl, -⟩ | ⟨ad, rfl, hb, hl, hm, hx⟩
  · exact ⟨by omega, fun i hi => by omega⟩
  · refine ⟨by unfold maxLen at hm; omega, fun i hi => ?_⟩
    obtain ⟨cs, hsz, hc, hlf⟩ := hx i hi
    rw [cellsOfRD] at hsz hc
    obtain ⟨n0, e0, w0⟩ := leaf_int 3 0 hlf (by kernel_rfl) (by kernel_rfl) Try.underlying3
    obtain ⟨n1, e1, w1⟩ := leaf_int 24 1 hlf (by kernel_rfl) (by kernel_rfl) Try.underlying24
    obtain ⟨n2, e2, w2⟩ := leaf_int 3 2 hlf (by kernel_rfl) (by kernel_rfl) Try.underlying3
    obtain ⟨n3, e3, w3⟩ := leaf_int 24 3 hlf (by kernel_rfl) (by kernel_rfl) Try.underlying24
    obtain ⟨a4, l4, k4, d4, p4, e4, t4⟩ := leaf_slice 22 4 hlf (by kernel_rfl) (by kernel_rfl) Try.underlying22
    obtain ⟨addr, rfl, haddr⟩ := u64_nat w1
    obtain ⟨v, rfl, hv⟩ := u64_nat w3
    have h0 := hc 0 (by omega)
    have h1 := hc 1 (by omega)
    have h2 := hc 2 (by omega)
    have h3 := hc 3 (by omega)
    have h4 := hc 4 (by omega)
    rw [e0] at h0
    rw [e1] at h1
    rw [e2] at h2
    rw [e3] at h3
    rw [e4] at h4
    have hlt := lt_of_cell h0
    rw [add_block, add_block] at hlt
    refine ⟨ad, n0, addr, n2, v, a4, l4, k4, rfl, hlt, ⟨?_, ?_, ?_, ?_, ?_⟩, ⟨haddr, hv, (i64_bound w2).2⟩, bytesOk_of t4⟩
    · exact h0
    · simpa [Addr.add] using h1
    · simpa [Addr.add] using h2
    · simpa [Addr.add] using h3
    · simpa [Addr.add] using h4
/-- No deed has too many bytes. -/
def Few (w : World) (a : Option Addr) (k : Nat) : Prop := ∀ i, i < k → ∀ ad a' l' c', a = some ad → w.cell? ⟨(ad.add (i * 5)).block, (ad.add (i * 5)).off + 4, none⟩ = some (.slice a' l' c') → l' ≤ 500
theorem RDeed.back {w w' : World} {ad : Addr} {i : Nat} (hb : Below w.heap.size w w') (had : ad.block < w.heap.size) : w'.cell? ⟨(ad.add (i * 5)).block, (ad.add (i * 5)).off + 4, none⟩ = w.cell? ⟨(ad.add (i * 5)).block, (ad.add (i * 5)).off + 4, none⟩ := hb.cell (p := ⟨(ad.add (i * 5)).block, (ad.add (i * 5)).off + 4, none⟩) (by rw [add_block]; exact had)
theorem Bytes.below {w w' : World} {a : Option Addr} {len : Nat} {b : Nat → Nat} (h : Bytes w a len b) (hb : Below w.heap.size w w') : Bytes w' a len b := h.keep hb
theorem byteAt_keep {w w' : World} {a : Option Addr} {len cap : Nat} (h : BytesOk w a len cap) (hb : Below w.heap.size w w') : ∀ i, i < len → byteAt w' a i = byteAt w a i := by
  intro i hi
  obtain ⟨ad, rfl, hl, hc⟩ := h.hb i hi
  have h' := hcell hb hc
  unfold byteAt at h' ⊢
  simp only [hc] at h' ⊢
  simp only [h', Int.toNat_natCast]
theorem BytesOk.keep {w w' : World} {a : Option Addr} {len cap : Nat} (h : BytesOk w a len cap) (hb : Below w.heap.size w w') : BytesOk w' a len cap := by
  have e := byteAt_keep h hb
  refine ⟨h.lc, h.ll, fun i hi => by rw [e i hi]; exact h.h8 i hi, fun i hi => ?_⟩
  rw [e i hi]
  exact (h.hb.keep hb) i hi
theorem rdeeds_keep {w w' : World} {a : Option Addr} {len : Nat} (h : RDeeds w a len) (hb : Below w.heap.size w w') : RDeeds w' a len := by
  intro i hi
  obtain ⟨ad, kd, addr, n, v, a', l', c', rfl, had, hd, h1, h2⟩ := h i hi
  exact ⟨ad, kd, addr, n, v, a', l', c', rfl, Nat.lt_of_lt_of_le had hb.size, hd.keep hb had, h1, h2.keep hb⟩
theorem few_back {w w' : World} {a : Option Addr} {len : Nat} (h : RDeeds w a len) (hb : Below w.heap.size w w') (hf : Few w' a len) : Few w a len := by
  intro i hi ad a' l' c' e hc
  subst e
  obtain ⟨ad', kd, addr, n, v, a2, l2, c2, e, had, hd, h1, h2⟩ := h i hi
  cases e
  exact hf i hi ad a' l' c' rfl (by rw [RDeed.back hb had]; exact hc)
def GreatPost (w : World) (a : Option Addr) (len : Nat) (e : Ending) (w' : World) : Prop := ∃ q, e = .returned (.bool q) ∧ (q = false → len ≤ 60 ∧ Few w a len) ∧ (q = true → ¬ (len ≤ 60 ∧ Few w a len)) ∧ w' = w
set_option maxRecDepth 100000 in
set_option maxHeartbeats 8000000 in
theorem great_any (a : Option Addr) (len cap : Nat) (w : World) (hl : len ≤ 9223372036854775807) (hD : RDeeds w a len) :
    Calls Try.prog 31 #[.slice a len cap] w (GreatPost w a len) := by
  have HD := Lib.hid hD
  clear hD
  go_enter Try.func31, Try.ntmps31
  go_wp2_with fail
  go_loop [3] (fun u => ∃ k : Nat, k ≤ len ∧ k ≤ 70 ∧ u = .int .i64 (k : Int) ∧ Few w a k) (fun u => len - (intOf u).toNat)
  case atStart => exact ⟨0, by omega, by omega, rfl, fun i hi => by omega⟩
  case round =>
    obtain ⟨k, hk, hk7, rfl, hF⟩ := hrel
    have HF := Lib.hid hF
    clear hF
    by_cases hlt : k < len
    · have d1 : decide ((k : Int) < len) = true := by simp; omega
      by_cases h7 : k < 70
      · have d2 : decide ((k : Int) < 70) = true := by simp; omega
        obtain ⟨ad, kd, addr, n, v, a', l', c', rfl, had, hd, hb1, hb2⟩ := HD.out k hlt
        have hk0 : (0 : Int) ≤ k := by omega
        have hki : (k : Int) < len := by omega
        have c4 := hd.c4
        have hl' := hb2.ll
        clear hd hb1 hb2
        by_cases h5 : l' ≤ 500
        · have d3 : ¬ (500 : Int) < l' := by omega
          have E : Hid (Few w (some ad) (k + 1)) := by
            show Few _ _ _
            intro i hi ad' a2 l2 c2 e hc
            by_cases e2 : i = k
            · subst e2
              cases e
              rw [c4] at hc
              simp at hc
              omega
            · exact HF.out i (by omega) ad' a2 l2 c2 e hc
          go_wp2
          go_round
          case rel => exact ⟨k + 1, by omega, by omega, by go_num, E.out⟩
          case measure => simp [intOf]; omega
        · have d3 : (500 : Int) < l' := by omega
          have E : Hid (¬ (len ≤ 60 ∧ Few w (some ad) len)) := fun h => h5 (h.2 k hlt ad a' l' c' rfl c4)
          go_wp2
          go_ret
          exact ⟨true, rfl, fun h => (by cases h), fun _ => E.out, rfl⟩
      · have d2 : decide ((k : Int) < 70) = false := by simp; omega
        have d3 : (60 : Int) < len := by omega
        have E : Hid (¬ (len ≤ 60 ∧ Few w a len)) := fun h => by omega
        go_wp2
        go_ret
        exact ⟨true, rfl, fun h => (by cases h), fun _ => E.out, rfl⟩
    · have e : k = len := by omega
      subst e
      have d1 : decide ((k : Int) < k) = false := by simp
      by_cases h6 : k ≤ 60
      · have d3 : ¬ (60 : Int) < k := by omega
        go_wp2
        go_ret
        exact ⟨false, rfl, fun _ => ⟨h6, HF.out⟩, fun h => (by cases h), rfl⟩
      · have d3 : (60 : Int) < k := by omega
        have E : Hid (¬ (k ≤ 60 ∧ Few w a k)) := fun h => h6 h.1
        go_wp2
        go_ret
        exact ⟨true, rfl, fun h => (by cases h), fun _ => E.out, rfl⟩
end Go.Proofs.Ytbboaekfhdeolaa
