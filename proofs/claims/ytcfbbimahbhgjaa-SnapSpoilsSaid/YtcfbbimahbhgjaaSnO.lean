/- Snap: the writer, weakly: how many bytes at most, and what stays. -/
import Derived.Test.YtcfbbimahbhgjaaSnE
import Derived.Test.YtcfbbimahbhgjaaHeld
import Derived.Deep.WholeRow
namespace Go.Proofs.Ytcfbbimahbhgjaa
open Go.RowKit
set_option linter.unusedSimpArgs false
set_option linter.unusedVariables false

/-- A writer at block b of at most k bytes; the blocks of K are as said. -/
def WZ (w0 : World) (base b k : Nat) (K : List (Nat × Obj)) (w : World) : Prop := ∃ a n cap l, WA w base b a n cap l ∧ n ≤ k ∧ (∀ x ∈ l, x < 256) ∧ (∀ io ∈ K, w.heap[io.1]? = some io.2 ∧ io.1 ≠ b ∧ ob a ≠ some io.1) ∧ Fr base w0 w
theorem WZ.base {w0 w : World} {base b k : Nat} {K : List (Nat × Obj)} (h : WZ w0 base b k K w) : base ≤ w.heap.size := by
  obtain ⟨_, _, _, _, _, _, _, _, hF⟩ := h; exact hF.2
theorem WZ.fr {w0 w : World} {base b k : Nat} {K : List (Nat × Obj)} (h : WZ w0 base b k K w) : Fr base w0 w := by
  obtain ⟨_, _, _, _, _, _, _, _, hF⟩ := h; exact hF
theorem WZ.more {w0 w : World} {base b k k' : Nat} {K : List (Nat × Obj)} (h : WZ w0 base b k K w) (hk : k ≤ k') : WZ w0 base b k' K w := by
  obtain ⟨a, n, cap, l, hA, hn, h8, hK, hF⟩ := h
  exact ⟨a, n, cap, l, hA, Nat.le_trans hn hk, h8, hK, hF⟩
theorem WZ.sub {w0 w : World} {base b k : Nat} {K K' : List (Nat × Obj)} (h : WZ w0 base b k K w) (hK' : ∀ x ∈ K', x ∈ K) : WZ w0 base b k K' w := by
  obtain ⟨a, n, cap, l, hA, hn, h8, hK, hF⟩ := h
  exact ⟨a, n, cap, l, hA, hn, h8, fun io hi => hK io (hK' io hi), hF⟩
theorem WZ.tail {w0 w : World} {base b k : Nat} {K : List (Nat × Obj)} {io : Nat × Obj} (h : WZ w0 base b k (io :: K) w) : WZ w0 base b k K w := h.sub fun _ hx => List.mem_cons_of_mem _ hx
theorem WZ.hd {w0 w : World} {base b k i : Nat} {K : List (Nat × Obj)} {o : Obj} (h : WZ w0 base b k ((i, o) :: K) w) : w.heap[i]? = some o := by
  obtain ⟨a, n, cap, l, hA, hn, h8, hK, hF⟩ := h
  exact (hK (i, o) (List.mem_cons_self ..)).1
theorem WZ.keep {w0 w w' : World} {base b k : Nat} {K : List (Nat × Obj)} (h : WZ w0 base b k K w) (hb : Below w.heap.size w w') : WZ w0 base b k K w' := by
  obtain ⟨a, n, cap, l, hA, hn, h8, hK, hF⟩ := h
  exact ⟨a, n, cap, l, hA.keep hb, hn, h8, fun io hi => ⟨keepB hb (hK io hi).1, (hK io hi).2⟩, hF.step hb⟩
theorem WZ.new {w0 w : World} {base b k : Nat} {K : List (Nat × Obj)} (h : WZ w0 base b k K w) (o : Obj) : WZ w0 base b k ((w.heap.size, o) :: K) (w.alloc o) := by
  obtain ⟨a, n, cap, l, hA, hn, h8, hK, hF⟩ := h
  refine ⟨a, n, cap, l, hA.alloc o, hn, h8, fun io hi => ?_, hF.alloc o⟩
  rcases List.mem_cons.1 hi with rfl | hi
  · refine ⟨heap_alloc_new w o, ?_, fun e => ?_⟩
    · have := hA.lt; simp only; omega
    · exact Nat.lt_irrefl _ (hA.own.lt e).2
  · exact ⟨keep_alloc (hK io hi).1 o, (hK io hi).2⟩
theorem WZ.step {w0 w w' : World} {base b k m : Nat} {K : List (Nat × Obj)} {a : Option Addr} {n cap : Nat} {l m' : List Nat} (hA : WA w base b a n cap l) (hn : n ≤ k) (h8 : ∀ x ∈ l, x < 256) (hK : ∀ io ∈ K, w.heap[io.1]? = some io.2 ∧ io.1 ≠ b ∧ ob a ≠ some io.1) (hF : Fr base w0 w)
    (hP : WP base b a w (l ++ m') w') (hm : m'.length ≤ m) (hm8 : ∀ x ∈ m', x < 256) : WZ w0 base b (k + m) K w' := by
  obtain ⟨a', n', cap', hA', hS⟩ := hP
  refine ⟨a', n', cap', _, hA', ?_, ?_, fun io hi => ?_, hS.fr hA hF⟩
  · have := hA'.len; have := hA.len; rw [List.length_append] at *; omega
  · intro x hx
    rcases List.mem_append.1 hx with h | h
    · exact h8 x h
    · exact hm8 x h
  · obtain ⟨h1, h2, h3⟩ := hK io hi
    have hlt := lt_of_at h1
    refine ⟨(hS.block _ hlt h2 h3).trans h1, h2, ?_⟩
    rcases hS.new with e | ⟨g, e, hg⟩
    · rw [e]; exact h3
    · rw [e]; intro e2; cases e2; omega
theorem num_z {w0 w : World} {base b k : Nat} {K : List (Nat × Obj)} (x : Int) (h0 : 0 ≤ x) (h1 : x < 18446744073709551616) (h : WZ w0 base b k K w) (hk : k ≤ 400000000) :
    Calls Try.prog 6 #[.pointer (some ⟨b, 0, none⟩), .int .u64 x] w fun e w' => (∃ v, e = .returned v) ∧ WZ w0 base b (k + 10) K w' := by
  obtain ⟨a, n, cap, l, hA, hn, h8, hK, hF⟩ := h
  obtain ⟨N, rfl⟩ : ∃ N : Nat, x = N := ⟨x.toNat, by omega⟩
  have hN : N < 18446744073709551616 := by omega
  exact (num_any base b N n cap a l w hN hA (by omega) hF.2).mono fun e w' ⟨hv, hP⟩ => ⟨hv, WZ.step hA hn h8 hK hF hP (numL_ten hN) (numL_8 N)⟩
theorem int_z {w0 w : World} {base b k : Nat} {K : List (Nat × Obj)} (x : Int) (h0 : -9223372036854775808 ≤ x) (h1 : x ≤ 9223372036854775807) (h : WZ w0 base b k K w) (hk : k ≤ 400000000) :
    Calls Try.prog 7 #[.pointer (some ⟨b, 0, none⟩), .int .i64 x] w fun e w' => (∃ v, e = .returned v) ∧ WZ w0 base b (k + 10) K w' := by
  obtain ⟨a, n, cap, l, hA, hn, h8, hK, hF⟩ := h
  exact (wint_any base b n cap x a l w h0 h1 hA (by omega) hF.2).mono fun e w' ⟨hv, hP⟩ => ⟨hv, WZ.step hA hn h8 hK hF hP (numL_ten (intN_lt h0 h1)) (numL_8 _)⟩
theorem truth_z {w0 w : World} {base b k : Nat} {K : List (Nat × Obj)} (q : Bool) (h : WZ w0 base b k K w) (hk : k ≤ 400000000) :
    Calls Try.prog 8 #[.pointer (some ⟨b, 0, none⟩), .bool q] w fun e w' => (∃ v, e = .returned v) ∧ WZ w0 base b (k + 10) K w' := by
  obtain ⟨a, n, cap, l, hA, hn, h8, hK, hF⟩ := h
  exact (wtruth_any base b n cap q a l w hA (by omega) hF.2).mono fun e w' ⟨hv, hP⟩ => ⟨hv, WZ.step hA hn h8 hK hF hP (by simp) (by intro x hx; simp at hx; subst hx; cases q <;> decide)⟩
theorem raw_z {w0 w : World} {base b k m xc : Nat} {K : List (Nat × Obj)} {xa : Option Addr} {L : List Nat} (hL : BytesL w xa m xc L) (hm : m ≤ 1000000) (hb : 0 < L.length → ∀ ad, xa = some ad → ad.block < base) (h : WZ w0 base b k K w) (hk : k ≤ 400000000) :
    Calls Try.prog 9 #[.pointer (some ⟨b, 0, none⟩), .slice xa m xc] w fun e w' => (∃ v, e = .returned v) ∧ WZ w0 base b (k + (10 + m)) K w' := by
  obtain ⟨a, n, cap, l, hA, hn, h8, hK, hF⟩ := h
  exact (wraw_any base b n cap m xc a xa l L w hL.ln (by omega) hL.hb hb hA (by omega) hF.2).mono fun e w' ⟨hv, hP⟩ => ⟨hv, WZ.step hA hn h8 hK hF hP (by rw [List.length_append, hL.ln]; have := numL_ten (show m < 18446744073709551616 by omega); omega) (by
    intro x hx
    rcases List.mem_append.1 hx with h | h
    · exact numL_8 _ x h
    · exact hL.h8 x h)⟩
set_option maxRecDepth 100000 in
set_option maxHeartbeats 4000000 in
theorem req_z {w0 w : World} {base b k : Nat} {K : List (Nat × Obj)} (q1 q2 q3 : Bool) (u i : Int) (hu0 : 0 ≤ u) (hu : u < 18446744073709551616) (hi0 : -9223372036854775808 ≤ i) (hi : i ≤ 9223372036854775807) (h : WZ w0 base b k K w) (hk : k ≤ 300000000) :
    Calls Try.prog 53 #[.pointer (some ⟨b, 0, none⟩), .agg #[.bool q1, .bool q2, .bool q3, .int .u64 u, .int .i64 i]] w fun e w' => (∃ v, e = .returned v) ∧ WZ w0 base b (k + 50) K w' := by
  have Z1 := h.new (.cells #[.bool q1, .bool q2, .bool q3, .int .u64 u, .int .i64 i] 83)
  clear h
  go_enter Try.func53, Try.ntmps53
  go_wp2_with fail
  refine (truth_z q1 Z1 (by omega)).mono ?_
  rintro e w2 ⟨⟨v2, rfl⟩, Z2⟩
  have c1 : w2.cell? ⟨w.heap.size, 1, none⟩ = some (.bool q2) := by rw [cell_at Z2.hd]; rfl
  clear Z1
  go_wp2_with fail
  refine (truth_z q2 Z2 (by omega)).mono ?_
  rintro e w3 ⟨⟨v3, rfl⟩, Z3⟩
  have c2 : w3.cell? ⟨w.heap.size, 2, none⟩ = some (.bool q3) := by rw [cell_at Z3.hd]; rfl
  clear Z2 c1
  go_wp2_with fail
  refine (truth_z q3 Z3 (by omega)).mono ?_
  rintro e w4 ⟨⟨v4, rfl⟩, Z4⟩
  have c3 : w4.cell? ⟨w.heap.size, 3, none⟩ = some (.int .u64 u) := by rw [cell_at Z4.hd]; rfl
  clear Z3 c2
  go_wp2_with fail
  refine (num_z u hu0 hu Z4 (by omega)).mono ?_
  rintro e w5 ⟨⟨v5, rfl⟩, Z5⟩
  have c4 : w5.cell? ⟨w.heap.size, 4, none⟩ = some (.int .i64 i) := by rw [cell_at Z5.hd]; rfl
  clear Z4 c3
  go_wp2_with fail
  refine (int_z i hi0 hi Z5 (by omega)).mono ?_
  rintro e w6 ⟨⟨v6, rfl⟩, Z6⟩
  clear Z5 c4
  have E := Lib.hid Z6.tail
  clear Z6
  go_wp2_with fail
  go_end0
  exact ⟨⟨_, rfl⟩, E.out⟩
end Go.Proofs.Ytcfbbimahbhgjaa
