/- shard's put. -/
import Derived.Test.YtdeheoaeagoidaaTwP
namespace Go.Proofs.Ytdeheoaeagoidaa
open Go.RowKit
set_option linter.unusedSimpArgs false
set_option linter.unusedVariables false
attribute [local simp high] sizeAsk

theorem fl_store (g : Nat → Nat → Nat) (f n v : Nat) : fl (storeG g f n v) = putL (fl g) f n v := by
  funext p; exact fl_storeG g f n v p
theorem numL_same {F G : Nat → Nat} : ∀ (n f : Nat), (∀ j, f ≤ j → j < f + n → F j = G j) → numL F f n = numL G f n
  | 0, f, _ => rfl
  | n + 1, f, h => by
      show F f + 256 * numL F (f + 1) n = G f + 256 * numL G (f + 1) n
      rw [h f (by omega) (by omega), numL_same n (f + 1) (fun j h1 h2 => h j (by omega) (by omega))]
theorem storeR_yes {g : Nat → Nat → Nat} {L a n v : Nat} (h1 : 1 ≤ n) (h8 : n ≤ 8) (ha : 2147483648 ≤ a) (ha2 : a + n ≤ 2147483648 + 64 * L) : storeR g L a (n : Int) v = (storeG g (a - 2147483648) n v, true) := by
  unfold storeR
  rw [if_pos ⟨by omega, by have := has_true (L := L) (f := a - 2147483648) (n := n) h1 (by omega); rw [show 2147483648 + (a - 2147483648) = a by omega] at this; exact this⟩, Int.toNat_natCast]
theorem num_stored (g : Nat → Nat → Nat) (f z n v : Nat) (hzn : z + n = 8) (hv : v < 18446744073709551616) : numL (fl (storeG (storeG g f z (v % 256 ^ z)) (f + z) n (v / 256 ^ z % 256 ^ n))) f 8 = v := by
  have hp := pw_sum hzn
  rw [← hzn, numL_split, fl_store, put_get, fl_store]
  rw [numL_same (G := putL (fl g) f z (v % 256 ^ z)) z f (fun j h1 h2 => by unfold putL; rw [if_neg (by omega)]), put_get]
  rw [Nat.mod_mod, Nat.mod_mod, Nat.mod_eq_of_lt (a := v / 256 ^ z) (Nat.div_lt_of_lt_mul (by rw [hp]; exact hv)), Nat.mod_add_div]
theorem num_stored1 (g : Nat → Nat → Nat) (f v : Nat) (hv : v < 18446744073709551616) : numL (fl (storeG g f 8 (v % 256 ^ 8))) f 8 = v := by
  have e8 : 256 ^ 8 = 18446744073709551616 := rfl
  rw [fl_store, put_get, Nat.mod_mod, Nat.mod_eq_of_lt (by rw [e8]; exact hv)]
theorem cell_wrote {w w' : World} {p : Nat} {a : Addr} {v : Value} (hW : Wrote p w w') (h : w.cell? a = some v) (hne : a.block ≠ p) : w'.cell? a = some v := by
  obtain ⟨o, ho⟩ : ∃ o, w.heap[a.block]? = some o := by
    cases e : w.heap[a.block]? with
    | none => simp [World.cell?, e] at h
    | some o => exact ⟨o, rfl⟩
  rw [World.cell?_of_block ((hW.2 _ _ hne ho).trans ho.symm)]; exact h
theorem W4.call {p : Nat} {w0 w w' : World} {a0 a1 a2 a3 : Addr} {v0 v1 v2 v3 : Value} (hb : Below w.heap.size w w') (h : Wrote p w0 w ∧ w.cell? a0 = some v0 ∧ w.cell? a1 = some v1 ∧ w.cell? a2 = some v2 ∧ w.cell? a3 = some v3) : Wrote p w0 w' ∧ w'.cell? a0 = some v0 ∧ w'.cell? a1 = some v1 ∧ w'.cell? a2 = some v2 ∧ w'.cell? a3 = some v3 :=
  ⟨h.1.below hb, hcell hb h.2.1, hcell hb h.2.2.1, hcell hb h.2.2.2.1, hcell hb h.2.2.2.2⟩
theorem W4.wrote {p : Nat} {w0 w w' : World} {a0 a1 a2 a3 : Addr} {v0 v1 v2 v3 : Value} (n0 : a0.block ≠ p) (n1 : a1.block ≠ p) (n2 : a2.block ≠ p) (n3 : a3.block ≠ p) (hW : Wrote p w w') (h : Wrote p w0 w ∧ w.cell? a0 = some v0 ∧ w.cell? a1 = some v1 ∧ w.cell? a2 = some v2 ∧ w.cell? a3 = some v3) : Wrote p w0 w' ∧ w'.cell? a0 = some v0 ∧ w'.cell? a1 = some v1 ∧ w'.cell? a2 = some v2 ∧ w'.cell? a3 = some v3 :=
  ⟨h.1.trans hW, cell_wrote hW h.2.1 n0, cell_wrote hW h.2.2.1 n1, cell_wrote hW h.2.2.2.1 n2, cell_wrote hW h.2.2.2.2 n3⟩
theorem ShAt.ne {w : World} {s r m k L : Nat} {g : Nat → Nat → Nat} (h : ShAt w s r m k L g) : s ≠ m ∧ r ≠ m := by
  obtain ⟨h1, h2, D, ⟨es, clock, h3, _⟩, _⟩ := h
  refine ⟨?_, ?_⟩
  · rintro rfl
    rw [h1] at h3; cases h3
  · rintro rfl
    rw [h2] at h3; cases h3
theorem part_v {v : Nat} {a : Int} {n x : Nat} (s : Nat) (hx : v / 2 ^ s % 256 ^ n = x) (w : World) (hv : v < 18446744073709551616) (h1 : 1 ≤ n) (h8 : n ≤ 8) (hs : s ≤ 63) :
    Calls Try.prog 42 #[.int .u64 (v : Int), .agg #[.int .u64 a, .int .i64 (n : Int), .int .i64 (s : Int)]] w fun e w' => e = .returned (.int .u64 (x : Int)) ∧ Below w.heap.size w w' := by
  rw [← hx]; exact part_any v a n s w hv h1 h8 hs
set_option maxRecDepth 100000 in
set_option maxHeartbeats 8000000 in
theorem put_two (s r m q L a z n v : Nat) (k d but : Int) (g : Nat → Nat → Nat) (w : World) (okg : ∀ i, OkL (g i)) (hv : v < 18446744073709551616) (hS : ShAt w s r m q L g) (hL : L ≤ 4096) (hk : q < 900000) (ha : 2147483648 ≤ a) (ha2 : a + 8 ≤ 2147483648 + 64 * L) (hz1 : 1 ≤ z) (hzn : z + n = 8) (hn : 1 ≤ n) (hq : a % 64 + z = 64) :
    Calls Try.prog 24 #[.pointer (some ⟨s, 0, none⟩), .int .i64 but, .agg (askC k a d), .int .u64 (v : Int)] w fun e w' => e = .returned (.tuple #[]) ∧ Wrote m w w' ∧ ∃ g', ShAt w' s r m (q + 4) L g' ∧ (∀ i, OkL (g' i)) ∧ numL (fl g') (a - 2147483648) 8 = v := by
  have F0 := (Fr.refl w).alloc (.cells (askC k a d) 46)
  have kz := heap_alloc_new w (.cells (askC k a d) 46)
  have S0 := hS.keep F0.1
  have hs := size_askC k a d
  have ld := ldRow (P := Try.prog) kz (size_askC k a d)
  have HZ := Lib.hid (And.intro hzn hq)
  have A63 : Hid (a < 9223372036854775808) := Lib.hid (by omega)
  have A64 : Hid (a < 18446744073709551616) := Lib.hid (by omega)
  have A64' : Hid (a + z < 18446744073709551616) := Lib.hid (by omega)
  have N64 : Hid ((z : Int) ≤ 9223372036854775807 ∧ (n : Int) ≤ 9223372036854775807) := Lib.hid ⟨by omega, by omega⟩
  have HP := Lib.hid (pieces_two a z n)
  obtain ⟨x1, hx1⟩ : ∃ x, v % 256 ^ z = x := ⟨_, rfl⟩
  obtain ⟨x2, hx2⟩ : ∃ x, v / 256 ^ z % 256 ^ n = x := ⟨_, rfl⟩
  have X64 : Hid (x1 < 18446744073709551616) := Lib.hid (by rw [← hx1]; exact Nat.lt_of_le_of_lt (Nat.mod_le _ _) hv)
  have X64' : Hid (x2 < 18446744073709551616) := Lib.hid (by rw [← hx2]; exact Nat.lt_of_le_of_lt (Nat.mod_le _ _) (Nat.lt_of_le_of_lt (Nat.div_le_self _ _) hv))
  have HX1 : Hid (v / 2 ^ 0 % 256 ^ z = x1) := Lib.hid (by simpa using hx1)
  have HX2 : Hid (v / 2 ^ (8 * z) % 256 ^ n = x2) := Lib.hid (by rw [← hx2, show (256 : Nat) ^ z = 2 ^ (8 * z) by rw [Nat.pow_mul]])
  have T1 : Hid (storeR g L a (z : Int) x1 = (storeG g (a - 2147483648) z x1, true)) := Lib.hid (storeR_yes hz1 (by omega) ha (by omega))
  obtain ⟨G1, hG1⟩ : ∃ G, storeG g (a - 2147483648) z x1 = G := ⟨_, rfl⟩
  have T2 : Hid (storeR G1 L (a + z) (n : Int) x2 = (storeG G1 (a - 2147483648 + z) n x2, true)) := Lib.hid (by rw [show a - 2147483648 + z = a + z - 2147483648 by omega]; exact storeR_yes hn (by omega) (by omega) (by omega))
  obtain ⟨G2, hG2⟩ : ∃ G, storeG G1 (a - 2147483648 + z) n x2 = G := ⟨_, rfl⟩
  have HN : Hid (numL (fl G2) (a - 2147483648) 8 = v) := Lib.hid (by rw [← hG2, ← hG1, ← hx1, ← hx2]; exact num_stored g _ z n v hzn hv)
  rw [hG1] at T1
  rw [hG2] at T2
  have OK1 : Hid (∀ i, OkL (G1 i)) := Lib.hid (by rw [← hG1]; exact storeG_ok okg _ _ _)
  have OK2 : Hid (∀ i, OkL (G2 i)) := Lib.hid (by rw [← hG2]; exact storeG_ok OK1.out _ _ _)
  have OK := Lib.hid okg
  have HV := Lib.hid hv
  obtain ⟨A2, hA2⟩ : ∃ A2 : Nat, a + z = A2 := ⟨_, rfl⟩
  obtain ⟨S2, hS2⟩ : ∃ S2 : Nat, 8 * z = S2 := ⟨_, rfl⟩
  have S63 : Hid (S2 ≤ 63) := Lib.hid (by omega)
  rw [hA2] at T2 A64'
  rw [hS2] at HX2
  rw [hA2, hS2] at HP
  clear ha ha2 hzn hq hA2 hS2 okg hv hx1 hx2 hG1 hG2
  go_enter Try.func24, Try.ntmps24
  go_wp2_with fail
  refine (access_any k a d _).mono ?_
  rintro e w2 ⟨rfl, hb2⟩
  have F2 := F0.step hb2
  have S2' := S0.keep hb2
  clear ld kz F0 S0 hb2
  go_wp2_with fail
  refine (HP.out _ A63.out hz1 HZ.out.1 hn HZ.out.2).mono ?_
  rintro e w4 ⟨g1, cap, rfl, ho, hb4⟩
  have V4 : Wrote m w w4 := (Wrote.refl m w).below ((F2.step hb4).1)
  have S4 := S2'.keep hb4
  have O4 := Lib.hid ho
  obtain ⟨c0, c1, c2, c2', c3, c4, c4', c5, c5'⟩ := known_pc2 O4.out
  have gl := (own_lt ho).2
  have hgm : g1 ≠ m := by have := (own_lt ho).1; have := S2'.lts; omega
  obtain ⟨hsm, hrm⟩ := S4.ne
  clear ho F2 S2' hb4
  go_wp2_with fail
  refine wp_loop_rounds 3 ?_
  rw [rounds_succ]
  go_wp2_with fail
  have al5 := (Fr.refl w4).alloc (.cells #[.int .u64 (a : Int), .int .i64 (z : Int), .int .i64 0] 97)
  have S5 := S4.keep al5.1
  have V5 := V4.alloc (.cells #[.int .u64 (a : Int), .int .i64 (z : Int), .int .i64 0] 97)
  have O5 := Lib.hid (own_keep O4.out al5.1)
  have K5 := heap_alloc_new w4 (.cells #[.int .u64 (a : Int), .int .i64 (z : Int), .int .i64 0] 97)
  obtain ⟨P5, hP5⟩ : ∃ P, w4.heap.size = P := ⟨_, rfl⟩
  have hPm5 : P5 ≠ m := by have := S4.lts; omega
  obtain ⟨w5, hw5⟩ : ∃ wA, w4.alloc (.cells #[.int .u64 (a : Int), .int .i64 (z : Int), .int .i64 0] 97) = wA := ⟨_, rfl⟩
  rw [hP5] at K5
  rw [hw5] at S5 V5 O5 K5
  rw [hw5, hP5]
  have x5 : w5.cell? ⟨P5, 0, none⟩ = some (.int .u64 (a : Int)) := by rw [cell_at K5]; rfl
  have y5 : w5.cell? ⟨P5, 1, none⟩ = some (.int .i64 (z : Int)) := by rw [cell_at K5]; rfl
  have z5 : w5.cell? ⟨P5, 1 + 1, none⟩ = some (.int .i64 0) := by rw [cell_at K5]; rfl
  have z5' : w5.cell? ⟨P5, 2, none⟩ = some (.int .i64 0) := by rw [cell_at K5]; rfl
  obtain ⟨s0, s1, s1', s2, sl⟩ := S5.cells
  clear hw5 hP5 al5 S4 V4 O4 c0 c1 c2 c2' c3 c4 c4' c5 c5' gl
  go_region_held3 (fun w' => Wrote m w5 w' ∧ w'.cell? ⟨s, 0, none⟩ = some (.pointer (some ⟨r, 0, none⟩)) ∧ w'.cell? ⟨P5, 0, none⟩ = some (.int .u64 (a : Int)) ∧ w'.cell? ⟨P5, 1, none⟩ = some (.int .i64 (z : Int)) ∧ w'.cell? ⟨P5, 2, none⟩ = some (.int .i64 0))
    (first | exact ⟨(Wrote.refl _ _).drew, s0, x5, y5, z5'⟩ | exact W4.call ‹_› ‹_› | exact W4.wrote hsm hPm5 hPm5 hPm5 ‹_› ‹_› | go_keep)
    (first
      | (go_at_call 42; refine (part_v 0 HX1.out _ HV.out hz1 (by have := HZ.out; omega) (by omega)).mono ?_; rintro e wD5 ⟨rfl, hbD5⟩; have SD5 := (S5.keep ((Fr.refl _).drew).1).keep hbD5)
      | (go_at_call 41; refine (ramstore_v T1.out _ OK.out A64.out X64.out N64.out.1 hL (by omega) SD5.2).mono ?_; rintro e wE5 ⟨rfl, RE5, WE5⟩))
  have V6 := ((V5.drew).below hbD5).trans WE5
  have S6 : ShAt wE5 s r m (q + 2) L G1 := ⟨WE5.2 _ _ hsm SD5.1, RE5⟩
  have O6 := Lib.hid (own_wrote (own_keep O5.out (((Fr.refl w5).drew.step hbD5).1)) WE5 hgm)
  have K6 := WE5.2 _ _ hPm5 (keepB (((Fr.refl w5).drew.step hbD5).1) K5)
  clear hbD5 SD5 RE5 WE5 S5 V5 O5 K5 x5 y5 z5 z5' s0 s1 s1' s2 sl
  have x6 : wE5.cell? ⟨P5, 0, none⟩ = some (.int .u64 (a : Int)) := by rw [cell_at K6]; rfl
  obtain ⟨s0, s1, s1', s2, sl⟩ := S6.cells
  go_wp2_with fail
  go_quiet ((first | (go_at_call 27; exact Calls.quiet_of_same (line_any a _ A64.out)) | (go_at_call 43; exact Calls.quiet_of_same (kill_any s r _ _ _ _ _ _ _ (S6.keep ((Fr.refl _).drewN _).1).1))))
  have V6a := V6.drewN nq
  have S6a := S6.keep ((Fr.refl wE5).drewN nq).1
  have O6a := Lib.hid (own_keep O6.out ((Fr.refl wE5).drewN nq).1)
  obtain ⟨w6, hw6⟩ : ∃ wA, wE5.drewN nq = wA := ⟨_, rfl⟩
  rw [hw6] at V6a S6a O6a ⊢
  clear hw6 nq V6 S6 O6 K6 x6 s0 s1 s1' s2 sl
  have V6 := V6a
  have S6 := S6a
  have O6 := O6a
  clear V6a S6a O6a
  go_wp2_with fail
  rw [rounds_succ]
  obtain ⟨c0, c1, c2, c2', c3, c4, c4', c5, c5'⟩ := known_pc2 O6.out
  have gl := (own_lt O6.out).2
  go_wp2_with fail
  have al7 := (Fr.refl w6).alloc (.cells #[.int .u64 (A2 : Int), .int .i64 (n : Int), .int .i64 (S2 : Int)] 97)
  have S7 := S6.keep al7.1
  have V7 := V6.alloc (.cells #[.int .u64 (A2 : Int), .int .i64 (n : Int), .int .i64 (S2 : Int)] 97)
  have O7 := Lib.hid (own_keep O6.out al7.1)
  have K7 := heap_alloc_new w6 (.cells #[.int .u64 (A2 : Int), .int .i64 (n : Int), .int .i64 (S2 : Int)] 97)
  obtain ⟨P7, hP7⟩ : ∃ P, w6.heap.size = P := ⟨_, rfl⟩
  have hPm7 : P7 ≠ m := by have := S6.lts; omega
  obtain ⟨w7, hw7⟩ : ∃ wA, w6.alloc (.cells #[.int .u64 (A2 : Int), .int .i64 (n : Int), .int .i64 (S2 : Int)] 97) = wA := ⟨_, rfl⟩
  rw [hP7] at K7
  rw [hw7] at S7 V7 O7 K7
  rw [hw7, hP7]
  have x7 : w7.cell? ⟨P7, 0, none⟩ = some (.int .u64 (A2 : Int)) := by rw [cell_at K7]; rfl
  have y7 : w7.cell? ⟨P7, 1, none⟩ = some (.int .i64 (n : Int)) := by rw [cell_at K7]; rfl
  have z7 : w7.cell? ⟨P7, 1 + 1, none⟩ = some (.int .i64 (S2 : Int)) := by rw [cell_at K7]; rfl
  have z7' : w7.cell? ⟨P7, 2, none⟩ = some (.int .i64 (S2 : Int)) := by rw [cell_at K7]; rfl
  obtain ⟨s0, s1, s1', s2, sl⟩ := S7.cells
  clear hw7 hP7 al7 S6 V6 O6 c0 c1 c2 c2' c3 c4 c4' c5 c5' gl
  go_region_held3 (fun w' => Wrote m w7 w' ∧ w'.cell? ⟨s, 0, none⟩ = some (.pointer (some ⟨r, 0, none⟩)) ∧ w'.cell? ⟨P7, 0, none⟩ = some (.int .u64 (A2 : Int)) ∧ w'.cell? ⟨P7, 1, none⟩ = some (.int .i64 (n : Int)) ∧ w'.cell? ⟨P7, 2, none⟩ = some (.int .i64 (S2 : Int)))
    (first | exact ⟨(Wrote.refl _ _).drew, s0, x7, y7, z7'⟩ | exact W4.call ‹_› ‹_› | exact W4.wrote hsm hPm7 hPm7 hPm7 ‹_› ‹_› | go_keep)
    (first
      | (go_at_call 42; refine (part_v S2 HX2.out _ HV.out hn (by have := HZ.out; omega) S63.out).mono ?_; rintro e wD7 ⟨rfl, hbD7⟩; have SD7 := (S7.keep ((Fr.refl _).drew).1).keep hbD7)
      | (go_at_call 41; refine (ramstore_v T2.out _ OK1.out A64'.out X64'.out N64.out.2 hL (by omega) SD7.2).mono ?_; rintro e wE7 ⟨rfl, RE7, WE7⟩))
  have V8 := ((V7.drew).below hbD7).trans WE7
  have S8 : ShAt wE7 s r m (q + 4) L G2 := ⟨WE7.2 _ _ hsm SD7.1, RE7⟩
  have O8 := Lib.hid (own_wrote (own_keep O7.out (((Fr.refl w7).drew.step hbD7).1)) WE7 hgm)
  have K8 := WE7.2 _ _ hPm7 (keepB (((Fr.refl w7).drew.step hbD7).1) K7)
  clear hbD7 SD7 RE7 WE7 S7 V7 O7 K7 x7 y7 z7 z7' s0 s1 s1' s2 sl
  have x8 : wE7.cell? ⟨P7, 0, none⟩ = some (.int .u64 (A2 : Int)) := by rw [cell_at K8]; rfl
  obtain ⟨s0, s1, s1', s2, sl⟩ := S8.cells
  go_wp2_with fail
  go_quiet ((first | (go_at_call 27; exact Calls.quiet_of_same (line_any A2 _ A64'.out)) | (go_at_call 43; exact Calls.quiet_of_same (kill_any s r _ _ _ _ _ _ _ (S8.keep ((Fr.refl _).drewN _).1).1))))
  have V8a := V8.drewN nq
  have S8a := S8.keep ((Fr.refl wE7).drewN nq).1
  have O8a := Lib.hid (own_keep O8.out ((Fr.refl wE7).drewN nq).1)
  obtain ⟨w8, hw8⟩ : ∃ wA, wE7.drewN nq = wA := ⟨_, rfl⟩
  rw [hw8] at V8a S8a O8a ⊢
  clear hw8 nq V8 S8 O8 K8 x8 s0 s1 s1' s2 sl
  have V8 := V8a
  have S8 := S8a
  have O8 := O8a
  clear V8a S8a O8a
  have VE := Lib.hid V8
  have SE := Lib.hid S8
  clear V8 S8
  go_wp2_with fail
  rw [rounds_succ]
  go_wp2_with fail
  go_end0
  exact ⟨rfl, VE.out, ⟨G2, SE.out, OK2.out, HN.out⟩⟩
set_option maxRecDepth 100000 in
set_option maxHeartbeats 8000000 in
theorem put_one (s r m q L a v : Nat) (k d but : Int) (g : Nat → Nat → Nat) (w : World) (okg : ∀ i, OkL (g i)) (hv : v < 18446744073709551616) (hS : ShAt w s r m q L g) (hL : L ≤ 4096) (hk : q < 900000) (ha : 2147483648 ≤ a) (ha2 : a + 8 ≤ 2147483648 + 64 * L) (hq0 : a % 64 ≤ 56) :
    Calls Try.prog 24 #[.pointer (some ⟨s, 0, none⟩), .int .i64 but, .agg (askC k a d), .int .u64 (v : Int)] w fun e w' => e = .returned (.tuple #[]) ∧ Wrote m w w' ∧ ∃ g', ShAt w' s r m (q + 2) L g' ∧ (∀ i, OkL (g' i)) ∧ numL (fl g') (a - 2147483648) 8 = v := by
  have F0 := (Fr.refl w).alloc (.cells (askC k a d) 46)
  have kz := heap_alloc_new w (.cells (askC k a d) 46)
  have S0 := hS.keep F0.1
  have hs := size_askC k a d
  have ld := ldRow (P := Try.prog) kz (size_askC k a d)
  have hq := Lib.hid hq0
  have A63 : Hid (a < 9223372036854775808) := Lib.hid (by omega)
  have A64 : Hid (a < 18446744073709551616) := Lib.hid (by omega)
  have N64 : Hid ((8 : Int) ≤ 9223372036854775807) := Lib.hid (by omega)
  obtain ⟨x1, hx1⟩ : ∃ x, v % 256 ^ 8 = x := ⟨_, rfl⟩
  have X64 : Hid (x1 < 18446744073709551616) := Lib.hid (by rw [← hx1]; exact Nat.lt_of_le_of_lt (Nat.mod_le _ _) hv)
  have HX1 : Hid (v / 2 ^ 0 % 256 ^ 8 = x1) := Lib.hid (by rw [Nat.pow_zero, Nat.div_one]; exact hx1)
  have T1 : Hid (storeR g L a 8 x1 = (storeG g (a - 2147483648) 8 x1, true)) := Lib.hid (storeR_yes (n := 8) (by omega) (by omega) ha (by omega))
  obtain ⟨G1, hG1⟩ : ∃ G, storeG g (a - 2147483648) 8 x1 = G := ⟨_, rfl⟩
  have HN : Hid (numL (fl G1) (a - 2147483648) 8 = v) := Lib.hid (by rw [← hG1, ← hx1]; exact num_stored1 g _ v hv)
  rw [hG1] at T1
  have OK1 : Hid (∀ i, OkL (G1 i)) := Lib.hid (by rw [← hG1]; exact storeG_ok okg _ _ _)
  have OK := Lib.hid okg
  have HV := Lib.hid hv
  clear ha ha2 hq0 okg hv hx1 hG1
  go_enter Try.func24, Try.ntmps24
  go_wp2_with fail
  refine (access_any k a d _).mono ?_
  rintro e w2 ⟨rfl, hb2⟩
  have F2 := F0.step hb2
  have S2' := S0.keep hb2
  clear ld kz F0 S0 hb2
  go_wp2_with fail
  refine (pieces_one a _ A63.out hq.out).mono ?_
  rintro e w4 ⟨g1, cap, rfl, ho, hb4⟩
  have V4 : Wrote m w w4 := (Wrote.refl m w).below ((F2.step hb4).1)
  have S4 := S2'.keep hb4
  have O4 := Lib.hid ho
  obtain ⟨c0, c1, c2, c2'⟩ := known_pc1 O4.out
  have gl := (own_lt ho).2
  have hgm : g1 ≠ m := by have := (own_lt ho).1; have := S2'.lts; omega
  obtain ⟨hsm, hrm⟩ := S4.ne
  clear ho F2 S2' hb4
  go_wp2_with fail
  refine wp_loop_rounds 2 ?_
  rw [rounds_succ]
  go_wp2_with fail
  have al5 := (Fr.refl w4).alloc (.cells #[.int .u64 (a : Int), .int .i64 8, .int .i64 0] 97)
  have S5 := S4.keep al5.1
  have V5 := V4.alloc (.cells #[.int .u64 (a : Int), .int .i64 8, .int .i64 0] 97)
  have O5 := Lib.hid (own_keep O4.out al5.1)
  have K5 := heap_alloc_new w4 (.cells #[.int .u64 (a : Int), .int .i64 8, .int .i64 0] 97)
  obtain ⟨P5, hP5⟩ : ∃ P, w4.heap.size = P := ⟨_, rfl⟩
  have hPm5 : P5 ≠ m := by have := S4.lts; omega
  obtain ⟨w5, hw5⟩ : ∃ wA, w4.alloc (.cells #[.int .u64 (a : Int), .int .i64 8, .int .i64 0] 97) = wA := ⟨_, rfl⟩
  rw [hP5] at K5
  rw [hw5] at S5 V5 O5 K5
  rw [hw5, hP5]
  have x5 : w5.cell? ⟨P5, 0, none⟩ = some (.int .u64 (a : Int)) := by rw [cell_at K5]; rfl
  have y5 : w5.cell? ⟨P5, 1, none⟩ = some (.int .i64 (8 : Int)) := by rw [cell_at K5]; rfl
  have z5 : w5.cell? ⟨P5, 1 + 1, none⟩ = some (.int .i64 0) := by rw [cell_at K5]; rfl
  have z5' : w5.cell? ⟨P5, 2, none⟩ = some (.int .i64 0) := by rw [cell_at K5]; rfl
  obtain ⟨s0, s1, s1', s2, sl⟩ := S5.cells
  clear hw5 hP5 al5 S4 V4 O4 c0 c1 c2 c2' gl
  go_region_held3 (fun w' => Wrote m w5 w' ∧ w'.cell? ⟨s, 0, none⟩ = some (.pointer (some ⟨r, 0, none⟩)) ∧ w'.cell? ⟨P5, 0, none⟩ = some (.int .u64 (a : Int)) ∧ w'.cell? ⟨P5, 1, none⟩ = some (.int .i64 (8 : Int)) ∧ w'.cell? ⟨P5, 2, none⟩ = some (.int .i64 0))
    (first | exact ⟨(Wrote.refl _ _).drew, s0, x5, y5, z5'⟩ | exact W4.call ‹_› ‹_› | exact W4.wrote hsm hPm5 hPm5 hPm5 ‹_› ‹_› | go_keep)
    (first
      | (go_at_call 42; refine (part_v 0 HX1.out _ HV.out (by omega) (by omega) (by omega)).mono ?_; rintro e wD5 ⟨rfl, hbD5⟩; have SD5 := (S5.keep ((Fr.refl _).drew).1).keep hbD5)
      | (go_at_call 41; refine (ramstore_v T1.out _ OK.out A64.out X64.out N64.out hL (by omega) SD5.2).mono ?_; rintro e wE5 ⟨rfl, RE5, WE5⟩))
  have V6 := ((V5.drew).below hbD5).trans WE5
  have S6 : ShAt wE5 s r m (q + 2) L G1 := ⟨WE5.2 _ _ hsm SD5.1, RE5⟩
  have O6 := Lib.hid (own_wrote (own_keep O5.out (((Fr.refl w5).drew.step hbD5).1)) WE5 hgm)
  have K6 := WE5.2 _ _ hPm5 (keepB (((Fr.refl w5).drew.step hbD5).1) K5)
  clear hbD5 SD5 RE5 WE5 S5 V5 O5 K5 x5 y5 z5 z5' s0 s1 s1' s2 sl
  have x6 : wE5.cell? ⟨P5, 0, none⟩ = some (.int .u64 (a : Int)) := by rw [cell_at K6]; rfl
  obtain ⟨s0, s1, s1', s2, sl⟩ := S6.cells
  go_wp2_with fail
  go_quiet ((first | (go_at_call 27; exact Calls.quiet_of_same (line_any a _ A64.out)) | (go_at_call 43; exact Calls.quiet_of_same (kill_any s r _ _ _ _ _ _ _ (S6.keep ((Fr.refl _).drewN _).1).1))))
  have V6a := V6.drewN nq
  have S6a := S6.keep ((Fr.refl wE5).drewN nq).1
  have O6a := Lib.hid (own_keep O6.out ((Fr.refl wE5).drewN nq).1)
  obtain ⟨w6, hw6⟩ : ∃ wA, wE5.drewN nq = wA := ⟨_, rfl⟩
  rw [hw6] at V6a S6a O6a ⊢
  clear hw6 nq V6 S6 O6 K6 x6 s0 s1 s1' s2 sl
  have V6 := V6a
  have S6 := S6a
  have O6 := O6a
  clear V6a S6a O6a
  have VE := Lib.hid V6
  have SE := Lib.hid S6
  clear V6 S6
  go_wp2_with fail
  rw [rounds_succ]
  go_wp2_with fail
  go_end0
  exact ⟨rfl, VE.out, ⟨G1, SE.out, OK1.out, HN.out⟩⟩
end Go.Proofs.Ytdeheoaeagoidaa
