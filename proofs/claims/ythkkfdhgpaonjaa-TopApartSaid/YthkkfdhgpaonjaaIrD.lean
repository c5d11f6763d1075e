/- Layer 24's laws: live; what the law of rising says, plain. -/
import Derived.Test.YthkkfdhgpaonjaaIrC
namespace Go.Proofs.Ythkkfdhgpaonjaa
open Go.RowKit
set_option linter.unusedSimpArgs false
set_option linter.unusedVariables false

theorem live24_1 : nextOf (setOf (newF 0) 772 136) 0 136 = some 3 := by decide +kernel
theorem live24_2 : nextOf (setOf (newF 0) 772 136) 3 136 = none := by decide +kernel
theorem live24_3 : waitOf (setOf (newF 0) 772 136) 136 = 136 := by decide +kernel
theorem next_v {b : Nat} {s : FS} {p : Int} {L : Nat} {y : Option Int} (hy : nextOf s p L = y) (w : World) (ok : OkF s) (hL : L < 18446744073709551616) (h : w.heap[b]? = some (.cells (cellsF s) 31)) :
    Calls Try.prog 18 #[.pointer (some ⟨b, 0, none⟩), .int .i64 p, .int .u64 (L : Int)] w fun e w' => e = .returned (causeV y) ∧ Below w.heap.size w w' := by
  rw [← hy]; exact next_any b s p L w ok hL h
theorem rnext_v {s : FS} {p : Int} {L : Nat} {y : Option Int} (hy : nextOf s p L = y) (w : World) (ok : OkF s) (hL : L < 18446744073709551616) :
    Calls Try.prog 53 #[.agg (cellsR s), .int .i64 p, .int .u64 (L : Int)] w fun e w' => e = .returned (causeV y) ∧ Below w.heap.size w w' := by
  rw [← hy]; exact rnext_any s p L w ok hL
set_option maxRecDepth 100000 in
set_option maxHeartbeats 4000000 in
theorem live24_any (w : World) :
    Calls Try.prog 52 #[] w fun e w' => e = .returned (.bool true) ∧ Below w.heap.size w w' := by
  have ok0 := OkF.new 0 (by omega) (by omega)
  obtain ⟨s0, hs0⟩ : ∃ s, newF 0 = s := ⟨_, rfl⟩
  obtain ⟨s1, hs1⟩ : ∃ s, setOf s0 772 136 = s := ⟨_, rfl⟩
  have N1 : Hid (nextOf s1 0 136 = some 3) := by show _ = _; rw [← hs1, ← hs0]; exact live24_1
  have N2 : Hid (nextOf s1 3 136 = none) := by show _ = _; rw [← hs1, ← hs0]; exact live24_2
  have N3 : Hid (waitOf s1 136 = 136) := by show _ = _; rw [← hs1, ← hs0]; exact live24_3
  rw [hs0] at ok0
  have ok1 : OkF s1 := by rw [← hs1]; exact ok0.set _ _
  have H0 := Lib.hid hs0
  have H1 := Lib.hid hs1
  clear hs0 hs1
  have l1 := zeroFv
  have l2 := sizeFv
  have l3 := size_cellsF
  have l4 := stnF
  have F0 := Fr.refl w
  go_enter Try.func52, Try.ntmps52
  go_wp2_with fail
  refine (newF_any 0 _).mono ?_
  rw [H0.out]
  rintro e w1 ⟨rfl, hb1⟩
  have F1 := (F0.step hb1).alloc (.cells (cellsF s0) 31)
  have k1 := heap_alloc_new w1 (.cells (cellsF s0) 31)
  have hB : w.heap.size ≤ w1.heap.size := (F0.step hb1).2
  go_wp2_with fail
  refine (set_v (v := 136) H1.out _ ok0 (by omega) k1).mono ?_
  rintro e w2 ⟨⟨v2, rfl⟩, k2, W2⟩
  have F2 := fr_of W2 hB F1
  clear l4
  go_wp2_with fail
  refine (next_v (L := 136) N1.out _ ok1 (by omega) k2).mono ?_
  rintro e w3 ⟨rfl, hb3⟩
  have k3 := keepB hb3 k2
  have F3 := F2.step hb3
  simp only [causeV]
  have k3' := keep_alloc k3 (.cells #[.bool true, .int .i64 3] 24)
  have c3 := heap_alloc_new w3 (.cells #[.bool true, .int .i64 3] 24)
  have F3' := F3.alloc (.cells #[.bool true, .int .i64 3] 24)
  go_wp2_with fail
  refine (next_v (L := 136) N2.out _ ok1 (by omega) k3').mono ?_
  rintro e w4 ⟨rfl, hb4⟩
  have k4 := keep_alloc (keepB hb4 k3') (.cells #[.bool false, .int .i64 0] 24)
  have c4 := keep_alloc (keepB hb4 c3) (.cells #[.bool false, .int .i64 0] 24)
  have F4 := (F3'.step hb4).alloc (.cells #[.bool false, .int .i64 0] 24)
  obtain ⟨y0, y1⟩ := two_cells c4
  simp only [causeV]
  go_wp2_with fail
  refine (wakes_v (L := 136) N3.out _ ok1 (by omega) k4).mono ?_
  rintro e w5 ⟨rfl, hb5⟩
  go_wp2
  go_ret
  exact ⟨rfl, (F4.step hb5).1⟩
theorem firstOf_bit {x : Nat} {c : Int} (h : firstOf x = some c) : ∃ k, c = (k : Nat) ∧ k < 64 ∧ x.testBit k = true := by
  unfold firstOf at h
  repeat' split at h
  all_goals first
    | (cases h; done)
    | (injection h with h; subst h; first | exact ⟨11, rfl, by omega, by assumption⟩ | exact ⟨3, rfl, by omega, by assumption⟩ | exact ⟨7, rfl, by omega, by assumption⟩ | exact ⟨9, rfl, by omega, by assumption⟩ | exact ⟨1, rfl, by omega, by assumption⟩ | exact ⟨5, rfl, by omega, by assumption⟩)
/-- What the law of rising asks of an interrupt that is taken. -/
structure Rises (s : FS) (p : Int) (L : Nat) (c : Int) : Prop where
  k : ∃ k, c = (k : Nat) ∧ k < 64 ∧ (waitOf s L).testBit k = true
  m : p = 3 → (s.g 7).testBit 3 = true
  u : p = 1 → toOf true c p (s.g 8) (s.g 9) = 1 → (s.g 7).testBit 1 = true
  r : p ≤ toOf true c p (s.g 8) (s.g 9)
theorem rises {s : FS} {p : Int} {L : Nat} {c : Int} (ok : OkF s) (hp : p = 0 ∨ p = 1 ∨ p = 3) (h : nextOf s p L = some c) : Rises s p L c := by
  unfold nextOf at h
  split at h
  · rename_i h1
    obtain ⟨hl, -⟩ := h1
    obtain ⟨k, rfl, hk, hb⟩ := firstOf_bit h
    unfold machOf at hb
    rw [Nat.testBit_and, Bool.and_eq_true, ones_sub _ _ (ok.g 9)] at hb
    have hd : (s.g 9).testBit k = false := by simpa [hk] using hb.2
    have ht : toOf true (k : Int) p (s.g 8) (s.g 9) = 3 := by
      unfold toOf
      rw [if_neg]
      rintro ⟨-, h2⟩
      rw [if_pos rfl, bitv _ _ (ok.g 9) hk, hd] at h2
      exact absurd h2 (by decide)
    unfold letsOf at hl
    rw [if_pos rfl] at hl
    refine ⟨⟨k, rfl, hk, hb.1⟩, fun e => ?_, fun _ e => ?_, by rw [ht]; omega⟩
    · subst e; simpa using hl
    · rw [ht] at e; omega
  · unfold supN at h
    split at h
    · rename_i hl
      obtain ⟨k, rfl, hk, hb⟩ := firstOf_bit h
      unfold supOf at hb
      rw [Nat.testBit_and, Bool.and_eq_true] at hb
      have hl' : p < 1 ∨ (p = 1 ∧ (s.g 7).testBit 1 = true) := by
        unfold letsOf at hl
        simpa using hl
      have ht : toOf true (k : Int) p (s.g 8) (s.g 9) = 1 := by
        unfold toOf
        rw [if_pos]
        refine ⟨by omega, ?_⟩
        rw [if_pos rfl, bitv _ _ (ok.g 9) hk, hb.2]; rfl
      refine ⟨⟨k, rfl, hk, hb.1⟩, fun e => ?_, fun e _ => ?_, by rw [ht]; omega⟩
      · omega
      · rcases hl' with h' | h'
        · omega
        · exact h'.2
    · cases h
end Go.Proofs.Ythkkfdhgpaonjaa
