/- shard's May. -/
import Derived.Test.YtdeheoaeagoidaaTwN
import Derived.Deep.QuietTactic
import Derived.BigQuiet
namespace Go.Proofs.Ytdeheoaeagoidaa
open Go.RowKit
set_option linter.unusedSimpArgs false
set_option linter.unusedVariables false
attribute [local simp high] sizeAsk

/-- Block s is a shard over the ram r. -/
def ShAt (w : World) (s r m k L : Nat) (g : Nat → Nat → Nat) : Prop := w.heap[s]? = some (.cells (shC r L L L 1) 68) ∧ RamAt w r m k L g
theorem ShAt.keep {w w' : World} {s r m k L : Nat} {g : Nat → Nat → Nat} (h : ShAt w s r m k L g) (hb : Below w.heap.size w w') : ShAt w' s r m k L g := ⟨keepB hb h.1, h.2.keep hb⟩
theorem ShAt.cells {w : World} {s r m k L : Nat} {g : Nat → Nat → Nat} (h : ShAt w s r m k L g) : w.cell? ⟨s, 0, none⟩ = some (.pointer (some ⟨r, 0, none⟩)) ∧ w.cell? ⟨s, 1, none⟩ = some (.int .i64 (L : Int)) ∧ w.cell? ⟨s, 1 + 1, none⟩ = some (.int .i64 (L : Int)) ∧ w.cell? ⟨s, 2, none⟩ = some (.int .i64 (L : Int)) ∧ s < w.heap.size := by
  refine ⟨by rw [cell_at h.1]; rfl, by rw [cell_at h.1]; rfl, by rw [cell_at h.1]; rfl, by rw [cell_at h.1]; rfl, lt_of_at h.1⟩
set_option maxRecDepth 100000 in
set_option maxHeartbeats 8000000 in
theorem may_two (s r m q L a z n : Nat) (k d : Int) (g : Nat → Nat → Nat) (w : World) (hS : ShAt w s r m q L g) (hL : L ≤ 4096) (hk : k = 2 ∨ k = 3) (ha : 2147483648 ≤ a) (ha2 : a + 8 ≤ 2147483648 + 64 * L) (hz1 : 1 ≤ z) (hzn : z + n = 8) (hn : 1 ≤ n) (hq : a % 64 + z = 64) :
    Calls Try.prog 18 #[.pointer (some ⟨s, 0, none⟩), .agg (askC k a d)] w fun e w' => e = .returned (.bool true) ∧ Below w.heap.size w w' := by
  have F0 := (Fr.refl w).alloc (.cells (askC k a d) 46)
  have kz := heap_alloc_new w (.cells (askC k a d) 46)
  have S0 := hS.keep F0.1
  have hs := size_askC k a d
  have ld := ldRow (P := Try.prog) kz (size_askC k a d)
  have H1 : Hid (hasR L a (z : Int) = true) := Lib.hid (by have := has_true (L := L) (f := a - 2147483648) (n := z) hz1 (by omega); rw [show 2147483648 + (a - 2147483648) = a by omega] at this; exact this)
  have H2 : Hid (hasR L (a + z) (n : Int) = true) := Lib.hid (by have := has_true (L := L) (f := a + z - 2147483648) (n := n) hn (by omega); rw [show 2147483648 + (a + z - 2147483648) = a + z by omega] at this; exact this)
  have HZ := Lib.hid (And.intro hzn hq)
  have A63 : Hid (a < 9223372036854775808) := Lib.hid (by omega)
  have A64 : Hid (a < 18446744073709551616) := Lib.hid (by omega)
  have A64' : Hid (a + z < 18446744073709551616) := Lib.hid (by omega)
  have N64 : Hid ((z : Int) ≤ 9223372036854775807 ∧ (n : Int) ≤ 9223372036854775807) := Lib.hid ⟨by omega, by omega⟩
  have HP := Lib.hid (pieces_two a z n)
  obtain ⟨A2, hA2⟩ : ∃ A2 : Nat, a + z = A2 := ⟨_, rfl⟩
  obtain ⟨S2, hS2⟩ : ∃ S2 : Nat, 8 * z = S2 := ⟨_, rfl⟩
  rw [hA2] at H2 A64'
  rw [hA2, hS2] at HP
  clear ha ha2 hzn hq hA2 hS2
  go_enter Try.func18, Try.ntmps18
  go_wp2_with fail
  refine (formed_any k a d _ hk).mono ?_
  rintro e w1 ⟨rfl, hb1⟩
  have kz1 := keepB hb1 kz
  have F1 := F0.step hb1
  have S1 := S0.keep hb1
  have ld1 := ldRow (P := Try.prog) kz1 (size_askC k a d)
  clear ld kz F0 S0 hb1
  go_wp2_with fail
  refine (access_any k a d _).mono ?_
  rintro e w2 ⟨rfl, hb2⟩
  have F2 := F1.step hb2
  have S2 := S1.keep hb2
  clear ld1 kz1 F1 S1 hb2
  go_wp2_with fail
  refine (HP.out _ A63.out hz1 HZ.out.1 hn HZ.out.2).mono ?_
  rintro e w3 ⟨g1, cap, rfl, ho, hb3⟩
  have F3 := F2.step hb3
  have S3 := S2.keep hb3
  clear F2 S2 hb3
  have O3 := Lib.hid ho
  obtain ⟨c0, c1, c2, c2', c3, c4, c4', c5, c5'⟩ := known_pc2 O3.out
  have gl := (own_lt ho).2
  clear ho
  go_wp2_with fail
  refine wp_loop_rounds 3 ?_
  rw [rounds_succ]
  go_wp2_with fail
  have S4 := S3.keep ((Fr.refl w3).alloc (.cells #[.int .u64 (a : Int), .int .i64 (z : Int), .int .i64 0] 97)).1
  have F4 := F3.alloc (.cells #[.int .u64 (a : Int), .int .i64 (z : Int), .int .i64 0] 97)
  have O4 := O3.out.alloc (.cells #[.int .u64 (a : Int), .int .i64 (z : Int), .int .i64 0] 97)
  have K4 := heap_alloc_new w3 (.cells #[.int .u64 (a : Int), .int .i64 (z : Int), .int .i64 0] 97)
  obtain ⟨w4, hw4⟩ : ∃ wA, w3.alloc (.cells #[.int .u64 (a : Int), .int .i64 (z : Int), .int .i64 0] 97) = wA := ⟨_, rfl⟩
  rw [hw4] at S4 F4 O4 K4 ⊢
  clear hw4 S3 F3
  have x4 : w4.cell? ⟨w3.heap.size, 0, none⟩ = some (.int .u64 (a : Int)) := by rw [cell_at K4]; rfl
  have y4 : w4.cell? ⟨w3.heap.size, 1, none⟩ = some (.int .i64 (z : Int)) := by rw [cell_at K4]; rfl
  obtain ⟨s40, s41, s41', s42, s4l⟩ := S4.cells
  go_quiet ((go_at_call 35; exact Calls.quiet_of_same (ramhas_v H1.out _ A64.out N64.out.1 hL (S4.2.keep ((Fr.refl _).drewN _).1))))
  have S5 := S4.keep ((Fr.refl w4).drewN nq).1
  have F5 := F4.drewN nq
  have O5 := Lib.hid (own_keep O4 ((Fr.refl w4).drewN nq).1)
  obtain ⟨w5, hw5⟩ : ∃ wA, w4.drewN nq = wA := ⟨_, rfl⟩
  rw [hw5] at S5 F5 O5 ⊢
  clear hw5 nq S4 F4 O4 x4 y4 s40 s41 s41' s42 s4l
  go_wp2_with fail
  rw [rounds_succ]
  obtain ⟨e0, e1, e2, e2', e3, e4, e4', e5, e5'⟩ := known_pc2 O5.out
  have gl5 := (own_lt O5.out).2
  go_wp2_with fail
  have S6 := S5.keep ((Fr.refl w5).alloc (.cells #[.int .u64 (A2 : Int), .int .i64 (n : Int), .int .i64 (S2 : Int)] 97)).1
  have F6 := F5.alloc (.cells #[.int .u64 (A2 : Int), .int .i64 (n : Int), .int .i64 (S2 : Int)] 97)
  have O6 := O5.out.alloc (.cells #[.int .u64 (A2 : Int), .int .i64 (n : Int), .int .i64 (S2 : Int)] 97)
  have K6 := heap_alloc_new w5 (.cells #[.int .u64 (A2 : Int), .int .i64 (n : Int), .int .i64 (S2 : Int)] 97)
  obtain ⟨w6, hw6⟩ : ∃ wA, w5.alloc (.cells #[.int .u64 (A2 : Int), .int .i64 (n : Int), .int .i64 (S2 : Int)] 97) = wA := ⟨_, rfl⟩
  rw [hw6] at S6 F6 O6 K6 ⊢
  clear hw6 S5 F5
  have x6 : w6.cell? ⟨w5.heap.size, 0, none⟩ = some (.int .u64 (A2 : Int)) := by rw [cell_at K6]; rfl
  have y6 : w6.cell? ⟨w5.heap.size, 1, none⟩ = some (.int .i64 (n : Int)) := by rw [cell_at K6]; rfl
  obtain ⟨s60, s61, s61', s62, s6l⟩ := S6.cells
  go_quiet ((go_at_call 35; exact Calls.quiet_of_same (ramhas_v H2.out _ A64'.out N64.out.2 hL (S6.2.keep ((Fr.refl _).drewN _).1))))
  have S7 := S6.keep ((Fr.refl w6).drewN nq).1
  have F7 := F6.drewN nq
  have O7 := Lib.hid (own_keep O6 ((Fr.refl w6).drewN nq).1)
  obtain ⟨w7, hw7⟩ : ∃ wA, w6.drewN nq = wA := ⟨_, rfl⟩
  rw [hw7] at S7 F7 O7 ⊢
  clear hw7 nq S6 F6 O6 x6 y6 s60 s61 s61' s62 s6l
  have FE := Lib.hid F7
  go_wp2_with fail
  rw [rounds_succ]
  go_wp2_with fail
  go_ret
  exact ⟨rfl, FE.out.1⟩
set_option maxRecDepth 100000 in
set_option maxHeartbeats 8000000 in
theorem may_one (s r m q L a : Nat) (k d : Int) (g : Nat → Nat → Nat) (w : World) (hS : ShAt w s r m q L g) (hL : L ≤ 4096) (hk : k = 2 ∨ k = 3) (ha : 2147483648 ≤ a) (ha2 : a + 8 ≤ 2147483648 + 64 * L) (hq0 : a % 64 ≤ 56) :
    Calls Try.prog 18 #[.pointer (some ⟨s, 0, none⟩), .agg (askC k a d)] w fun e w' => e = .returned (.bool true) ∧ Below w.heap.size w w' := by
  have F0 := (Fr.refl w).alloc (.cells (askC k a d) 46)
  have kz := heap_alloc_new w (.cells (askC k a d) 46)
  have S0 := hS.keep F0.1
  have hs := size_askC k a d
  have ld := ldRow (P := Try.prog) kz (size_askC k a d)
  have H1 : Hid (hasR L a 8 = true) := Lib.hid (by have := has_true (L := L) (f := a - 2147483648) (n := 8) (by omega) (by omega); rw [show 2147483648 + (a - 2147483648) = a by omega] at this; exact this)
  have hq := Lib.hid hq0
  have A63 : Hid (a < 9223372036854775808) := Lib.hid (by omega)
  have A64 : Hid (a < 18446744073709551616) := Lib.hid (by omega)
  have N64 : Hid ((8 : Int) ≤ 9223372036854775807) := Lib.hid (by omega)
  clear ha ha2 hq0
  go_enter Try.func18, Try.ntmps18
  go_wp2_with fail
  refine (formed_any k a d _ hk).mono ?_
  rintro e w1 ⟨rfl, hb1⟩
  have kz1 := keepB hb1 kz
  have F1 := F0.step hb1
  have S1 := S0.keep hb1
  have ld1 := ldRow (P := Try.prog) kz1 (size_askC k a d)
  clear ld kz F0 S0 hb1
  go_wp2_with fail
  refine (access_any k a d _).mono ?_
  rintro e w2 ⟨rfl, hb2⟩
  have F2 := F1.step hb2
  have S2 := S1.keep hb2
  clear ld1 kz1 F1 S1 hb2
  go_wp2_with fail
  refine (pieces_one a _ A63.out hq.out).mono ?_
  rintro e w3 ⟨g1, cap, rfl, ho, hb3⟩
  have F3 := F2.step hb3
  have S3 := S2.keep hb3
  clear F2 S2 hb3
  have O3 := Lib.hid ho
  obtain ⟨c0, c1, c2, c2'⟩ := known_pc1 O3.out
  have gl := (own_lt ho).2
  clear ho
  go_wp2_with fail
  refine wp_loop_rounds 2 ?_
  rw [rounds_succ]
  go_wp2_with fail
  have S4 := S3.keep ((Fr.refl w3).alloc (.cells #[.int .u64 (a : Int), .int .i64 8, .int .i64 0] 97)).1
  have F4 := F3.alloc (.cells #[.int .u64 (a : Int), .int .i64 8, .int .i64 0] 97)
  have O4 := O3.out.alloc (.cells #[.int .u64 (a : Int), .int .i64 8, .int .i64 0] 97)
  have K4 := heap_alloc_new w3 (.cells #[.int .u64 (a : Int), .int .i64 8, .int .i64 0] 97)
  obtain ⟨w4, hw4⟩ : ∃ wA, w3.alloc (.cells #[.int .u64 (a : Int), .int .i64 8, .int .i64 0] 97) = wA := ⟨_, rfl⟩
  rw [hw4] at S4 F4 O4 K4 ⊢
  clear hw4 S3 F3
  have x4 : w4.cell? ⟨w3.heap.size, 0, none⟩ = some (.int .u64 (a : Int)) := by rw [cell_at K4]; rfl
  have y4 : w4.cell? ⟨w3.heap.size, 1, none⟩ = some (.int .i64 8) := by rw [cell_at K4]; rfl
  obtain ⟨s40, s41, s41', s42, s4l⟩ := S4.cells
  go_quiet ((go_at_call 35; exact Calls.quiet_of_same (ramhas_v H1.out _ A64.out N64.out hL (S4.2.keep ((Fr.refl _).drewN _).1))))
  have S5 := S4.keep ((Fr.refl w4).drewN nq).1
  have F5 := F4.drewN nq
  have O5 := Lib.hid (own_keep O4 ((Fr.refl w4).drewN nq).1)
  obtain ⟨w5, hw5⟩ : ∃ wA, w4.drewN nq = wA := ⟨_, rfl⟩
  rw [hw5] at S5 F5 O5 ⊢
  clear hw5 nq S4 F4 O4 x4 y4 s40 s41 s41' s42 s4l
  have FE := Lib.hid F5
  go_wp2_with fail
  rw [rounds_succ]
  go_wp2_with fail
  go_ret
  exact ⟨rfl, FE.out.1⟩
end Go.Proofs.Ytdeheoaeagoidaa
