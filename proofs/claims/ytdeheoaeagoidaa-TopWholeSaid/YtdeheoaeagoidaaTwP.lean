/- shard's get. -/
import Derived.Test.YtdeheoaeagoidaaTwO
import Derived.Deep.RegionHeld3
namespace Go.Proofs.Ytdeheoaeagoidaa
open Go.RowKit
set_option linter.unusedSimpArgs false
set_option linter.unusedVariables false
attribute [local simp high] sizeAsk
theorem zeroU64 (w : World) : (zeroValue 22).run Try.prog w = .ok (.int .u64 0) w := by kernel_rfl
theorem mkU (T : Nat) (w : World) (h0 : 0 < T) (h1 : T ≤ 262144) : (Instr.makeSlice 104 (.int .i64 (T : Int)) (.int .i64 (T : Int))).run Try.prog w = .ok (.slice (some ⟨w.heap.size, 0, none⟩) T T) (w.alloc (.cells (Array.replicate T (.int .u64 0)) 22)) := by
  have hwf : IntKind.i64.wrap (T : Int) = (T : Int) := by rw [IntKind.wrap_i64]; omega
  have hb : (Try.t22).bytes = 8 := by kernel_rfl
  have e : ∀ (z : Value), z = .int .u64 0 → (Array.map (fun x => z.cells[x % z.cells.size]!) (Array.range T)) = Array.replicate T (.int .u64 0) := by
    rintro z rfl
    apply Array.ext
    · simp
    · intro i h1 h2
      simp [Value.cells, Nat.mod_one]
  simp only [Instr.makeSlice, run_underlying Try.underlying104, asInt, asIntOf, Result.andThen, hwf, zeroU64]
  simp [run_underlying Try.underlying104, Result.andThen, hwf, zeroU64, asIntOf]
  rw [if_neg (by rw [hb]; omega), if_neg (by omega), e _ rfl]
  simp [newRow]
theorem mkU2 (w : World) : (Instr.makeSlice 104 (.int .i64 2) (.int .i64 2)).run Try.prog w = .ok (.slice (some ⟨w.heap.size, 0, none⟩) 2 2) (w.alloc (.cells #[.int .u64 0, .int .u64 0] 22)) := mkU 2 w (by omega) (by omega)
theorem mkU1 (w : World) : (Instr.makeSlice 104 (.int .i64 1) (.int .i64 1)).run Try.prog w = .ok (.slice (some ⟨w.heap.size, 0, none⟩) 1 1) (w.alloc (.cells #[.int .u64 0] 22)) := mkU 1 w (by omega) (by omega)

/-- Only block p was written; three cells stand. -/
def W3 (p : Nat) (w0 : World) (a0 a1 a2 : Addr) (v0 v1 v2 : Value) (w : World) : Prop := Wrote p w0 w ∧ w.cell? a0 = some v0 ∧ w.cell? a1 = some v1 ∧ w.cell? a2 = some v2
theorem W3.call {p : Nat} {w0 w w' : World} {a0 a1 a2 : Addr} {v0 v1 v2 : Value} (hb : Below w.heap.size w w') (h : Wrote p w0 w ∧ w.cell? a0 = some v0 ∧ w.cell? a1 = some v1 ∧ w.cell? a2 = some v2) : Wrote p w0 w' ∧ w'.cell? a0 = some v0 ∧ w'.cell? a1 = some v1 ∧ w'.cell? a2 = some v2 :=
  ⟨h.1.below hb, hcell hb h.2.1, hcell hb h.2.2.1, hcell hb h.2.2.2⟩
theorem cell_set_far {w : World} {p o : Nat} {a : Addr} {v u : Value} (h : w.cell? a = some v) (hne : a.block ≠ p) : (w.setCell ⟨p, o, none⟩ u).cell? a = some v := by
  have e : (w.setCell ⟨p, o, none⟩ u).heap[a.block]? = w.heap[a.block]? := by
    simp only [World.setCell]
    rw [Array.getElem?_modify, if_neg (fun h => hne h.symm)]
  rw [World.cell?_of_block e]; exact h
theorem W3.set {p o : Nat} {w0 w : World} {a0 a1 a2 : Addr} {v0 v1 v2 : Value} (u : Value) (n0 : a0.block ≠ p) (n1 : a1.block ≠ p) (n2 : a2.block ≠ p) (h : Wrote p w0 w ∧ w.cell? a0 = some v0 ∧ w.cell? a1 = some v1 ∧ w.cell? a2 = some v2) : Wrote p w0 (w.setCell ⟨p, o, none⟩ u) ∧ (w.setCell ⟨p, o, none⟩ u).cell? a0 = some v0 ∧ (w.setCell ⟨p, o, none⟩ u).cell? a1 = some v1 ∧ (w.setCell ⟨p, o, none⟩ u).cell? a2 = some v2 :=
  ⟨h.1.setCell o u, cell_set_far h.2.1 n0, cell_set_far h.2.2.1 n1, cell_set_far h.2.2.2 n2⟩
theorem ShAt.wrote {w w' : World} {s r m k L p : Nat} {g : Nat → Nat → Nat} (h : ShAt w s r m k L g) (hW : Wrote p w w') (hs : s ≠ p) (hr : r ≠ p) (hm : m ≠ p) : ShAt w' s r m k L g := ⟨hW.2 _ _ hs h.1, h.2.wrote hW hr hm⟩
theorem own_wrote {w w' : World} {B g cap p : Nat} {e : TypeId} {s n : Nat} {xs : List Value} (h : w.ownsRow B e s (.slice (some ⟨g, 0, none⟩) n cap) n xs) (hW : Wrote p w w') (hg : g ≠ p) : w'.ownsRow B e s (.slice (some ⟨g, 0, none⟩) n cap) n xs := by
  obtain ⟨h1, h2⟩ := h
  refine ⟨h1, ?_⟩
  rcases h2 with h2 | ⟨g', cap', cur, hv, hg', hh, r⟩
  · exact .inl h2
  · refine .inr ⟨g', cap', cur, hv, hg', hW.2 _ _ ?_ hh, r⟩
    cases hv
    exact hg
theorem ShAt.lts {w : World} {s r m k L : Nat} {g : Nat → Nat → Nat} (h : ShAt w s r m k L g) : s < w.heap.size ∧ r < w.heap.size ∧ m < w.heap.size := ⟨lt_of_at h.1, lt_of_at h.2.1, h.2.2.lt⟩
set_option maxRecDepth 100000 in
set_option maxHeartbeats 8000000 in
theorem get_two (s r m q L a z n : Nat) (k d : Int) (g : Nat → Nat → Nat) (w : World) (okg : ∀ i, OkL (g i)) (hS : ShAt w s r m q L g) (hL : L ≤ 4096) (ha : 2147483648 ≤ a) (ha2 : a + 8 ≤ 2147483648 + 64 * L) (hz1 : 1 ≤ z) (hzn : z + n = 8) (hn : 1 ≤ n) (hq : a % 64 + z = 64) :
    Calls Try.prog 23 #[.pointer (some ⟨s, 0, none⟩), .agg (askC k a d)] w fun e w' => e = .returned (.int .u64 (numL (fl g) (a - 2147483648) 8 : Int)) ∧ Below w.heap.size w w' := by
  have F0 := (Fr.refl w).alloc (.cells (askC k a d) 46)
  have kz := heap_alloc_new w (.cells (askC k a d) 46)
  have S0 := hS.keep F0.1
  have hs := size_askC k a d
  have ld := ldRow (P := Try.prog) kz (size_askC k a d)
  have HZ := Lib.hid (And.intro hzn hq)
  have A63 : Hid (a < 9223372036854775808) := Lib.hid (by omega)
  have A64 : Hid (a < 18446744073709551616) := Lib.hid (by omega)
  have A64' : Hid (a + z < 18446744073709551616) := Lib.hid (by omega)
  have N64 : Hid ((z : Int) ≤ 9223372036854775807 ∧ (n : Int) ≤ 9223372036854775807) := Lib.hid ⟨by omega, by omega⟩
  have HP := Lib.hid (pieces_two a z n)
  have HJ : Hid (∀ (B g1 cap p lo hi : Nat) (w : World), _) := Lib.hid (fun B g1 cap p lo hi w => join_two B g1 cap p a z n lo hi w)
  have L1 : Hid (loadR g L a (z : Int) = (numL (fl g) (a - 2147483648) z, true)) := Lib.hid (by
    unfold loadR
    rw [if_pos ⟨by omega, by have := has_true (L := L) (f := a - 2147483648) (n := z) hz1 (by omega); rw [show 2147483648 + (a - 2147483648) = a by omega] at this; exact this⟩, Int.toNat_natCast])
  have L2 : Hid (loadR g L (a + z) (n : Int) = (numL (fl g) (a - 2147483648 + z) n, true)) := Lib.hid (by
    unfold loadR
    rw [if_pos ⟨by omega, by have := has_true (L := L) (f := a + z - 2147483648) (n := n) hn (by omega); rw [show 2147483648 + (a + z - 2147483648) = a + z by omega] at this; exact this⟩, Int.toNat_natCast, show a + z - 2147483648 = a - 2147483648 + z by omega])
  obtain ⟨lo, hlo⟩ : ∃ x, numL (fl g) (a - 2147483648) z = x := ⟨_, rfl⟩
  obtain ⟨hi, hhi⟩ : ∃ x, numL (fl g) (a - 2147483648 + z) n = x := ⟨_, rfl⟩
  have hlo2 : Hid (lo < 256 ^ z ∧ hi < 256 ^ n) := Lib.hid ⟨by rw [← hlo]; exact numL_lt (fl_ok okg) _ _, by rw [← hhi]; exact numL_lt (fl_ok okg) _ _⟩
  have hsum : Hid (numL (fl g) (a - 2147483648) 8 = lo + 256 ^ z * hi) := Lib.hid (by rw [← hzn, numL_split, hlo, hhi])
  rw [hlo] at L1
  rw [hhi] at L2
  rw [hsum.out]
  obtain ⟨R, hR⟩ : ∃ R, lo + 256 ^ z * hi = R := ⟨_, rfl⟩
  have HR := Lib.hid hR
  rw [hR]
  obtain ⟨A2, hA2⟩ : ∃ A2 : Nat, a + z = A2 := ⟨_, rfl⟩
  obtain ⟨S2, hS2⟩ : ∃ S2 : Nat, 8 * z = S2 := ⟨_, rfl⟩
  rw [hA2] at L2 A64'
  rw [hA2, hS2] at HP
  rw [hA2, hS2] at HJ
  have OK := Lib.hid okg
  clear ha ha2 hzn hq hA2 hS2 hlo hhi hsum hR okg
  go_enter Try.func23, Try.ntmps23
  go_wp2_with fail
  refine (access_any k a d _).mono ?_
  rintro e w2 ⟨rfl, hb2⟩
  have F2 := F0.step hb2
  have S2' := S0.keep hb2
  clear ld kz F0 S0 hb2
  go_wp2_with fail
  refine (HP.out _ A63.out hz1 HZ.out.1 hn HZ.out.2).mono ?_
  rintro e w3 ⟨g1, cap, rfl, ho, hb3⟩
  have F3 := F2.step hb3
  have S3 := S2'.keep hb3
  clear F2 S2' hb3
  have O3 := Lib.hid ho
  obtain ⟨c0, c1, c2, c2', c3, c4, c4', c5, c5'⟩ := known_pc2 O3.out
  have gl := (own_lt ho).2
  clear ho
  have mk := mkU2
  go_wp2_with fail
  clear mk
  have al3 := (Fr.refl w3).alloc (.cells #[.int .u64 0, .int .u64 0] 22)
  have S4 := S3.keep al3.1
  have F4 := F3.alloc (.cells #[.int .u64 0, .int .u64 0] 22)
  have O4 := Lib.hid (own_keep O3.out al3.1)
  have KP4 := heap_alloc_new w3 (.cells #[.int .u64 0, .int .u64 0] 22)
  obtain ⟨p, hp⟩ : ∃ p, w3.heap.size = p := ⟨_, rfl⟩
  obtain ⟨hs3, hr3, hm3⟩ := S3.lts
  have hsp : s ≠ p := by omega
  have hrp : r ≠ p := by omega
  have hmp : m ≠ p := by omega
  have hgp : g1 ≠ p := by omega
  clear hs3 hr3 hm3
  obtain ⟨w4, hw4⟩ : ∃ wA, w3.alloc (.cells #[.int .u64 0, .int .u64 0] 22) = wA := ⟨_, rfl⟩
  have hpw := F3.2
  rw [hp] at KP4 hpw
  rw [hw4] at S4 F4 O4 KP4
  rw [hw4, hp]
  clear hw4 hp al3 F3 S3 O3 c0 c1 c2 c2' c3 c4 c4' c5 c5' gl
  obtain ⟨c0, c1, c2, c2', c3, c4, c4', c5, c5'⟩ := known_pc2 O4.out
  have gl := (own_lt O4.out).2
  refine wp_loop_rounds 3 ?_
  rw [rounds_succ]
  go_wp2_with fail
  have al5 := (Fr.refl w4).alloc (.cells #[.int .u64 (a : Int), .int .i64 (z : Int), .int .i64 0] 97)
  have S5 := S4.keep al5.1
  have F5 := F4.alloc (.cells #[.int .u64 (a : Int), .int .i64 (z : Int), .int .i64 0] 97)
  have O5 := Lib.hid (own_keep O4.out al5.1)
  have KP5 := keepB al5.1 KP4
  have K5 := heap_alloc_new w4 (.cells #[.int .u64 (a : Int), .int .i64 (z : Int), .int .i64 0] 97)
  have hpl5 := lt_of_at KP4
  obtain ⟨P5, hP5⟩ : ∃ P, w4.heap.size = P := ⟨_, rfl⟩
  obtain ⟨w5, hw5⟩ : ∃ wA, w4.alloc (.cells #[.int .u64 (a : Int), .int .i64 (z : Int), .int .i64 0] 97) = wA := ⟨_, rfl⟩
  rw [hP5] at K5 hpl5
  rw [hw5] at S5 F5 O5 KP5 K5
  rw [hw5, hP5]
  have x5 : w5.cell? ⟨P5, 0, none⟩ = some (.int .u64 (a : Int)) := by rw [cell_at K5]; rfl
  have y5 : w5.cell? ⟨P5, 1, none⟩ = some (.int .i64 (z : Int)) := by rw [cell_at K5]; rfl
  obtain ⟨s0, s1, s1', s2, sl⟩ := S5.cells
  have hPp5 : P5 ≠ p := by omega
  clear hw5 hP5 al5 S4 F4 O4 KP4 K5 hpl5 c0 c1 c2 c2' c3 c4 c4' c5 c5' gl
  go_region_held3 (fun w' => Wrote p w5 w' ∧ w'.cell? ⟨s, 0, none⟩ = some (.pointer (some ⟨r, 0, none⟩)) ∧ w'.cell? ⟨P5, 0, none⟩ = some (.int .u64 (a : Int)) ∧ w'.cell? ⟨P5, 1, none⟩ = some (.int .i64 (z : Int)))
    (first | exact ⟨(Wrote.refl _ _).drew, s0, x5, y5⟩ | exact W3.call ‹_› ‹_› | exact W3.set _ hsp hPp5 hPp5 ‹_› | go_keep)
    (first | (go_at_call 39; refine (ramload_v L1.out _ OK.out A64.out N64.out.1 hL (S5.2.keep ((Fr.refl _).drew).1)).mono ?_; rintro e wE5 ⟨rfl, hbE5⟩; have kpE5 := keepB hbE5 (show w5.drew.heap[p]? = some (.cells #[.int .u64 0, .int .u64 0] 22) from KP5); have k0 := cell_at (o := 0) kpE5; have k1 := cell_at (o := 1) kpE5; have kl := lt_of_at kpE5; have kf : ∀ o, wE5.frozen? ⟨p, o, none⟩ = false := (fun o => by simp [World.frozen?, kpE5])))
  have WR6 := ((Wrote.refl p w5).drew.below hbE5).setCell 0 (.int .u64 (lo : Int))
  have KP6 : (wE5.setCell ⟨p, 0, none⟩ (.int .u64 (lo : Int))).heap[p]? = some (.cells #[.int .u64 (lo : Int), .int .u64 0] 22) := set_at kpE5 0 (.int .u64 (lo : Int))
  have F6 := WR6.1 _ _ hpw F5
  have S6 := S5.wrote WR6 hsp hrp hmp
  have O6 := Lib.hid (own_wrote O5.out WR6 hgp)
  obtain ⟨w6, hw6⟩ : ∃ wA, wE5.setCell ⟨p, 0, none⟩ (.int .u64 (lo : Int)) = wA := ⟨_, rfl⟩
  rw [hw6] at KP6 F6 S6 O6 ⊢
  clear hw6 WR6 kf kl k0 k1 kpE5 hbE5 S5 F5 O5 KP5 x5 y5 s0 s1 s1' s2 sl
  go_wp2_with fail
  rw [rounds_succ]
  obtain ⟨c0, c1, c2, c2', c3, c4, c4', c5, c5'⟩ := known_pc2 O6.out
  have gl := (own_lt O6.out).2
  go_wp2_with fail
  have al7 := (Fr.refl w6).alloc (.cells #[.int .u64 (A2 : Int), .int .i64 (n : Int), .int .i64 (S2 : Int)] 97)
  have S7 := S6.keep al7.1
  have F7 := F6.alloc (.cells #[.int .u64 (A2 : Int), .int .i64 (n : Int), .int .i64 (S2 : Int)] 97)
  have O7 := Lib.hid (own_keep O6.out al7.1)
  have KP7 := keepB al7.1 KP6
  have K7 := heap_alloc_new w6 (.cells #[.int .u64 (A2 : Int), .int .i64 (n : Int), .int .i64 (S2 : Int)] 97)
  have hpl7 := lt_of_at KP6
  obtain ⟨P7, hP7⟩ : ∃ P, w6.heap.size = P := ⟨_, rfl⟩
  obtain ⟨w7, hw7⟩ : ∃ wA, w6.alloc (.cells #[.int .u64 (A2 : Int), .int .i64 (n : Int), .int .i64 (S2 : Int)] 97) = wA := ⟨_, rfl⟩
  rw [hP7] at K7 hpl7
  rw [hw7] at S7 F7 O7 KP7 K7
  rw [hw7, hP7]
  have x7 : w7.cell? ⟨P7, 0, none⟩ = some (.int .u64 (A2 : Int)) := by rw [cell_at K7]; rfl
  have y7 : w7.cell? ⟨P7, 1, none⟩ = some (.int .i64 (n : Int)) := by rw [cell_at K7]; rfl
  obtain ⟨s0, s1, s1', s2, sl⟩ := S7.cells
  have hPp7 : P7 ≠ p := by omega
  clear hw7 hP7 al7 S6 F6 O6 KP6 K7 hpl7 c0 c1 c2 c2' c3 c4 c4' c5 c5' gl
  go_region_held3 (fun w' => Wrote p w7 w' ∧ w'.cell? ⟨s, 0, none⟩ = some (.pointer (some ⟨r, 0, none⟩)) ∧ w'.cell? ⟨P7, 0, none⟩ = some (.int .u64 (A2 : Int)) ∧ w'.cell? ⟨P7, 1, none⟩ = some (.int .i64 (n : Int)))
    (first | exact ⟨(Wrote.refl _ _).drew, s0, x7, y7⟩ | exact W3.call ‹_› ‹_› | exact W3.set _ hsp hPp7 hPp7 ‹_› | go_keep)
    (first | (go_at_call 39; refine (ramload_v L2.out _ OK.out A64'.out N64.out.2 hL (S7.2.keep ((Fr.refl _).drew).1)).mono ?_; rintro e wE7 ⟨rfl, hbE7⟩; have kpE7 := keepB hbE7 (show w7.drew.heap[p]? = some (.cells #[.int .u64 (lo : Int), .int .u64 0] 22) from KP7); have k0 := cell_at (o := 0) kpE7; have k1 := cell_at (o := 1) kpE7; have kl := lt_of_at kpE7; have kf : ∀ o, wE7.frozen? ⟨p, o, none⟩ = false := (fun o => by simp [World.frozen?, kpE7])))
  have WR8 := ((Wrote.refl p w7).drew.below hbE7).setCell 1 (.int .u64 (hi : Int))
  have KP8 : (wE7.setCell ⟨p, 1, none⟩ (.int .u64 (hi : Int))).heap[p]? = some (.cells #[.int .u64 (lo : Int), .int .u64 (hi : Int)] 22) := set_at kpE7 1 (.int .u64 (hi : Int))
  have F8 := WR8.1 _ _ hpw F7
  have S8 := S7.wrote WR8 hsp hrp hmp
  have O8 := Lib.hid (own_wrote O7.out WR8 hgp)
  obtain ⟨w8, hw8⟩ : ∃ wA, wE7.setCell ⟨p, 1, none⟩ (.int .u64 (hi : Int)) = wA := ⟨_, rfl⟩
  rw [hw8] at KP8 F8 S8 O8 ⊢
  clear hw8 WR8 kf kl k0 k1 kpE7 hbE7 S7 F7 O7 KP7 x7 y7 s0 s1 s1' s2 sl
  have FE := Lib.hid F8
  clear F8 S8
  go_wp2_with fail
  rw [rounds_succ]
  go_wp2_with fail
  refine (HJ.out _ _ _ _ _ _ _ O8.out KP8 hz1 HZ.out.1 hn hlo2.out.1 hlo2.out.2).mono ?_
  rintro e wz ⟨rfl, hbz⟩
  have FZ := Lib.hid (FE.out.step hbz)
  rw [HR.out]
  go_wp2_with fail
  go_ret
  exact ⟨rfl, FZ.out.1⟩
set_option maxRecDepth 100000 in
set_option maxHeartbeats 8000000 in
theorem get_one (s r m q L a : Nat) (k d : Int) (g : Nat → Nat → Nat) (w : World) (okg : ∀ i, OkL (g i)) (hS : ShAt w s r m q L g) (hL : L ≤ 4096) (ha : 2147483648 ≤ a) (ha2 : a + 8 ≤ 2147483648 + 64 * L) (hq0 : a % 64 ≤ 56) :
    Calls Try.prog 23 #[.pointer (some ⟨s, 0, none⟩), .agg (askC k a d)] w fun e w' => e = .returned (.int .u64 (numL (fl g) (a - 2147483648) 8 : Int)) ∧ Below w.heap.size w w' := by
  have F0 := (Fr.refl w).alloc (.cells (askC k a d) 46)
  have kz := heap_alloc_new w (.cells (askC k a d) 46)
  have S0 := hS.keep F0.1
  have hs := size_askC k a d
  have ld := ldRow (P := Try.prog) kz (size_askC k a d)
  have hq := Lib.hid hq0
  have A63 : Hid (a < 9223372036854775808) := Lib.hid (by omega)
  have A64 : Hid (a < 18446744073709551616) := Lib.hid (by omega)
  have N64 : Hid ((8 : Int) ≤ 9223372036854775807) := Lib.hid (by omega)
  have L1 : Hid (loadR g L a 8 = (numL (fl g) (a - 2147483648) 8, true)) := Lib.hid (by
    unfold loadR
    rw [if_pos ⟨by omega, by have := has_true (L := L) (f := a - 2147483648) (n := 8) (by omega) (by omega); rw [show 2147483648 + (a - 2147483648) = a by omega] at this; exact this⟩]; rfl)
  obtain ⟨lo, hlo⟩ : ∃ x, numL (fl g) (a - 2147483648) 8 = x := ⟨_, rfl⟩
  have hlo2 : Hid (lo < 18446744073709551616) := Lib.hid (by rw [← hlo]; exact numL_lt (fl_ok okg) 8 _)
  rw [hlo] at L1 ⊢
  have OK := Lib.hid okg
  clear ha ha2 hq0 hlo okg
  go_enter Try.func23, Try.ntmps23
  go_wp2_with fail
  refine (access_any k a d _).mono ?_
  rintro e w2 ⟨rfl, hb2⟩
  have F2 := F0.step hb2
  have S2' := S0.keep hb2
  clear ld kz F0 S0 hb2
  go_wp2_with fail
  refine (pieces_one a _ A63.out hq.out).mono ?_
  rintro e w3 ⟨g1, cap, rfl, ho, hb3⟩
  have F3 := F2.step hb3
  have S3 := S2'.keep hb3
  clear F2 S2' hb3
  have O3 := Lib.hid ho
  obtain ⟨c0, c1, c2, c2'⟩ := known_pc1 O3.out
  have gl := (own_lt ho).2
  clear ho
  have mk := mkU1
  go_wp2_with fail
  clear mk
  have al3 := (Fr.refl w3).alloc (.cells #[.int .u64 0] 22)
  have S4 := S3.keep al3.1
  have F4 := F3.alloc (.cells #[.int .u64 0] 22)
  have O4 := Lib.hid (own_keep O3.out al3.1)
  have KP4 := heap_alloc_new w3 (.cells #[.int .u64 0] 22)
  obtain ⟨p, hp⟩ : ∃ p, w3.heap.size = p := ⟨_, rfl⟩
  obtain ⟨hs3, hr3, hm3⟩ := S3.lts
  have hsp : s ≠ p := by omega
  have hrp : r ≠ p := by omega
  have hmp : m ≠ p := by omega
  have hgp : g1 ≠ p := by omega
  clear hs3 hr3 hm3
  obtain ⟨w4, hw4⟩ : ∃ wA, w3.alloc (.cells #[.int .u64 0] 22) = wA := ⟨_, rfl⟩
  have hpw := F3.2
  rw [hp] at KP4 hpw
  rw [hw4] at S4 F4 O4 KP4
  rw [hw4, hp]
  clear hw4 hp al3 F3 S3 O3 c0 c1 c2 c2' gl
  obtain ⟨c0, c1, c2, c2'⟩ := known_pc1 O4.out
  have gl := (own_lt O4.out).2
  refine wp_loop_rounds 2 ?_
  rw [rounds_succ]
  go_wp2_with fail
  have al5 := (Fr.refl w4).alloc (.cells #[.int .u64 (a : Int), .int .i64 8, .int .i64 0] 97)
  have S5 := S4.keep al5.1
  have F5 := F4.alloc (.cells #[.int .u64 (a : Int), .int .i64 8, .int .i64 0] 97)
  have O5 := Lib.hid (own_keep O4.out al5.1)
  have KP5 := keepB al5.1 KP4
  have K5 := heap_alloc_new w4 (.cells #[.int .u64 (a : Int), .int .i64 8, .int .i64 0] 97)
  have hpl5 := lt_of_at KP4
  obtain ⟨P5, hP5⟩ : ∃ P, w4.heap.size = P := ⟨_, rfl⟩
  obtain ⟨w5, hw5⟩ : ∃ wA, w4.alloc (.cells #[.int .u64 (a : Int), .int .i64 8, .int .i64 0] 97) = wA := ⟨_, rfl⟩
  rw [hP5] at K5 hpl5
  rw [hw5] at S5 F5 O5 KP5 K5
  rw [hw5, hP5]
  have x5 : w5.cell? ⟨P5, 0, none⟩ = some (.int .u64 (a : Int)) := by rw [cell_at K5]; rfl
  have y5 : w5.cell? ⟨P5, 1, none⟩ = some (.int .i64 (8 : Int)) := by rw [cell_at K5]; rfl
  obtain ⟨s0, s1, s1', s2, sl⟩ := S5.cells
  have hPp5 : P5 ≠ p := by omega
  clear hw5 hP5 al5 S4 F4 O4 KP4 K5 hpl5 c0 c1 c2 c2' gl
  go_region_held3 (fun w' => Wrote p w5 w' ∧ w'.cell? ⟨s, 0, none⟩ = some (.pointer (some ⟨r, 0, none⟩)) ∧ w'.cell? ⟨P5, 0, none⟩ = some (.int .u64 (a : Int)) ∧ w'.cell? ⟨P5, 1, none⟩ = some (.int .i64 (8 : Int)))
    (first | exact ⟨(Wrote.refl _ _).drew, s0, x5, y5⟩ | exact W3.call ‹_› ‹_› | exact W3.set _ hsp hPp5 hPp5 ‹_› | go_keep)
    (first | (go_at_call 39; refine (ramload_v L1.out _ OK.out A64.out N64.out hL (S5.2.keep ((Fr.refl _).drew).1)).mono ?_; rintro e wE5 ⟨rfl, hbE5⟩; have kpE5 := keepB hbE5 (show w5.drew.heap[p]? = some (.cells #[.int .u64 0] 22) from KP5); have k0 := cell_at (o := 0) kpE5; have k1 := cell_at (o := 1) kpE5; have kl := lt_of_at kpE5; have kf : ∀ o, wE5.frozen? ⟨p, o, none⟩ = false := (fun o => by simp [World.frozen?, kpE5])))
  have WR6 := ((Wrote.refl p w5).drew.below hbE5).setCell 0 (.int .u64 (lo : Int))
  have KP6 : (wE5.setCell ⟨p, 0, none⟩ (.int .u64 (lo : Int))).heap[p]? = some (.cells #[.int .u64 (lo : Int)] 22) := set_at kpE5 0 (.int .u64 (lo : Int))
  have F6 := WR6.1 _ _ hpw F5
  have S6 := S5.wrote WR6 hsp hrp hmp
  have O6 := Lib.hid (own_wrote O5.out WR6 hgp)
  obtain ⟨w6, hw6⟩ : ∃ wA, wE5.setCell ⟨p, 0, none⟩ (.int .u64 (lo : Int)) = wA := ⟨_, rfl⟩
  rw [hw6] at KP6 F6 S6 O6 ⊢
  clear hw6 WR6 kf kl k0 k1 kpE5 hbE5 S5 F5 O5 KP5 x5 y5 s0 s1 s1' s2 sl
  have FE := Lib.hid F6
  clear F6 S6
  go_wp2_with fail
  rw [rounds_succ]
  go_wp2_with fail
  refine (join_one _ _ _ _ a lo _ O6.out KP6 hlo2.out).mono ?_
  rintro e wz ⟨rfl, hbz⟩
  have FZ := Lib.hid (FE.out.step hbz)
  
  go_wp2_with fail
  go_ret
  exact ⟨rfl, FZ.out.1⟩
end Go.Proofs.Ytdeheoaeagoidaa
