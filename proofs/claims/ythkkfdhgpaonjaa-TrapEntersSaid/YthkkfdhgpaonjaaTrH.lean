/- Layer 23's law: TrapEnters. -/
import Derived.Test.YthkkfdhgpaonjaaTrG
namespace Go.Proofs.Ythkkfdhgpaonjaa
open Go.RowKit
set_option linter.unusedSimpArgs false
set_option linter.unusedVariables false

attribute [local go_sem ↓] Go.wp_at_zero Go.wp_at_succ
attribute [local simp high] sizeRv zeroRv sizeFv zeroFv sizeDv
theorem rtenter_v {s s' : FS} {i : Bool} {c p tt : Int} {pc tv v : Nat} (ho : entTo s i c p = tt) (hs : entS s i c p pc tv = s') (hv : entV s i c p = v) (w : World) (ok : OkF s) (hpc : pc < 18446744073709551616) (htv : tv < 18446744073709551616) :
    Calls Try.prog 59 #[.agg (cellsR s), .agg #[.bool i, .int .i64 c], .int .i64 p, .int .u64 (pc : Int), .int .u64 (tv : Int)] w fun e w' => e = .returned (.tuple #[.agg (cellsR s'), .int .i64 tt, .int .u64 (v : Int)]) ∧ Below w.heap.size w w' := by
  rw [← ho, ← hs, ← hv]; exact rtenter_any s i c p pc tv w ok hpc htv
theorem rtleave_v {s s' : FS} {t q : Int} {v : Nat} (ho : lvTo s t = q) (hs : lvS s t = s') (hv : lvPc s t = v) (w : World) (ok : OkF s) :
    Calls Try.prog 62 #[.agg (cellsR s), .int .i64 t] w fun e w' => e = .returned (.tuple #[.agg (cellsR s'), .int .i64 q, .int .u64 (v : Int)]) ∧ Below w.heap.size w w' := by
  rw [← ho, ← hs, ← hv]; exact rtleave_any s t w ok
theorem cellC {w : World} {b : Nat} {i : Bool} {c : Int} (h : w.heap[b]? = some (.cells #[.bool i, .int .i64 c] 91)) :
    w.cell? ⟨b, 0, none⟩ = some (.bool i) ∧ w.cell? ⟨b, 1, none⟩ = some (.int .i64 c) :=
  ⟨by rw [cell_at h]; rfl, by rw [cell_at h]; rfl⟩
theorem held5c {w w' : World} {B b c : Nat} {o p : Obj} {w0 : World} {a1 a2 a3 a4 a5 : Addr} {v1 v2 v3 v4 v5 : Value} (hb : Below w.heap.size w w') (h : ((Fr B w0 w ∧ w.heap[b]? = some o) ∧ w.heap[c]? = some p) ∧ w.cell? a1 = some v1 ∧ w.cell? a2 = some v2 ∧ w.cell? a3 = some v3 ∧ w.cell? a4 = some v4 ∧ w.cell? a5 = some v5) :
    ((Fr B w0 w' ∧ w'.heap[b]? = some o) ∧ w'.heap[c]? = some p) ∧ w'.cell? a1 = some v1 ∧ w'.cell? a2 = some v2 ∧ w'.cell? a3 = some v3 ∧ w'.cell? a4 = some v4 ∧ w'.cell? a5 = some v5 := ⟨heldR2 hb h.1, hcell hb h.2.1, hcell hb h.2.2.1, hcell hb h.2.2.2.1, hcell hb h.2.2.2.2.1, hcell hb h.2.2.2.2.2⟩
set_option maxRecDepth 100000 in
set_option maxHeartbeats 4000000 in
theorem trapenters_no (a : Option Addr) (len cap : Nat) (i : Bool) (c p : Int) (pc tv : Nat) (at_ : Int) (w : World) (h : 30 < len) (hmax : len ≤ 9223372036854775807) :
    Calls Try.prog 12 #[.slice a len cap, .agg #[.bool i, .int .i64 c, .int .i64 p, .int .u64 (pc : Int), .int .u64 (tv : Int)], .int .i64 at_] w fun e w' => e = .returned (.bool true) ∧ Below w.heap.size w w' := by
  have F0 := (Fr.refl w).alloc (.cells #[.bool i, .int .i64 c, .int .i64 p, .int .u64 (pc : Int), .int .u64 (tv : Int)] 27)
  go_enter Try.func12, Try.ntmps12
  go_wp2_with fail
  refine (tenter_nil i c p pc tv _).mono ?_
  rintro e w1 ⟨rfl, hb1⟩
  go_wp2_with fail
  refine (tleave_nil at_ _).mono ?_
  rintro e w2 ⟨rfl, hb2⟩
  go_wp2_with fail
  refine (live23_any _).mono ?_
  rintro e w3 ⟨rfl, hb3⟩
  go_wp2
  go_ret
  exact ⟨rfl, (((F0.step hb1).step hb2).step hb3).1⟩
set_option maxRecDepth 100000 in
set_option maxHeartbeats 8000000 in
theorem trapenters_yes (a : Option Addr) (len cap : Nat) (i : Bool) (c p : Int) (pc tv : Nat) (at_ : Int) (w : World) (hl : len ≤ 30) (hpc : pc < 18446744073709551616) (htv : tv < 18446744073709551616)
    (hd : ∀ j, j < len → ∃ ad d, a = some ad ∧ ad.block < w.heap.size ∧ OkD d ∧ DeedIn w ad j d) :
    Calls Try.prog 12 #[.slice a len cap, .agg #[.bool i, .int .i64 c, .int .i64 p, .int .u64 (pc : Int), .int .u64 (tv : Int)], .int .i64 at_] w fun e w' => e = .returned (.bool true) ∧ Below w.heap.size w w' := by
  have F0 := (Fr.refl w).alloc (.cells #[.bool i, .int .i64 c, .int .i64 p, .int .u64 (pc : Int), .int .u64 (tv : Int)] 27)
  have k0 := heap_alloc_new w (.cells #[.bool i, .int .i64 c, .int .i64 p, .int .u64 (pc : Int), .int .u64 (tv : Int)] 27)
  have l1 := zeroRv
  have l2 := sizeRv
  have l3 := size_cellsR
  have m1 := zeroFv
  have m2 := sizeFv
  have m3 := size_cellsF
  have HDD := Lib.hid hd
  clear hd
  go_enter Try.func12, Try.ntmps12
  go_wp2_with fail
  refine (tenter_nil i c p pc tv _).mono ?_
  rintro e w1 ⟨rfl, hb1⟩
  have k1 := keepB hb1 k0
  have F1 := F0.step hb1
  clear k0 F0 hb1
  go_wp2_with fail
  refine (tleave_nil at_ _).mono ?_
  rintro e w2 ⟨rfl, hb2⟩
  have k2 := keepB hb2 k1
  have F2 := F1.step hb2
  clear k1 F1 hb2
  go_wp2_with fail
  have HD : ∀ j, j < len → ∃ ad d, a = some ad ∧ ad.block < w2.heap.size ∧ OkD d ∧ DeedIn w2 ad j d := by
    intro j hj
    obtain ⟨ad, d, e, hb, od, hdd⟩ := HDD.out j hj
    exact ⟨ad, d, e, Nat.lt_of_lt_of_le hb F2.2, od, hdd.keep F2.1 hb⟩
  refine (files_any a len cap _ (by omega) HD).mono ?_
  rintro e w3 ⟨s, ok, al, rfl, hb3⟩
  clear HD HDD
  obtain ⟨tt, hto⟩ : ∃ x, entTo s i c p = x := ⟨_, rfl⟩
  obtain ⟨s1, hs1⟩ : ∃ x, entS s i c p pc tv = x := ⟨_, rfl⟩
  obtain ⟨v, hv⟩ : ∃ x, entV s i c p = x := ⟨_, rfl⟩
  obtain ⟨s2, hs2⟩ : ∃ x, lvS s1 at_ = x := ⟨_, rfl⟩
  obtain ⟨t2, ht2⟩ : ∃ x, lvTo s1 at_ = x := ⟨_, rfl⟩
  obtain ⟨v2, hv2⟩ : ∃ x, lvPc s1 at_ = x := ⟨_, rfl⟩
  obtain ⟨vv, hvv⟩ : ∃ x, vecOf tv i c = x := ⟨_, rfl⟩
  have ok1 : OkF s1 := by rw [← hs1]; exact ok.ent _ _ _ _ _
  have ok2 : OkF s2 := by rw [← hs2]; exact ok1.lv _
  have HT := Lib.hid hto
  have HS1 := Lib.hid hs1
  have HV := Lib.hid hv
  have HS2 := Lib.hid hs2
  have HT2 := Lib.hid ht2
  have HV2 := Lib.hid hv2
  have HVV := Lib.hid hvv
  clear hto hs1 hv hs2 ht2 hv2 hvv
  have F1 := F2.step hb3
  have k1 := keepB hb3 k2
  clear k2 F2 hb3
  have hlt := lt_of_at k1
  have ka := keep_alloc (heap_alloc_new w3 (.cells (cellsF zeroF) 31)) (.cells (cellsR zeroF) 34)
  have sa := stF Try.prog ka s
  have kz : ((w3.alloc (.cells (cellsF zeroF) 31)).alloc (.cells (cellsR zeroF) 34)).heap[w3.heap.size + 1]? = some (.cells (cellsR zeroF) 34) := by simpa using heap_alloc_new (w3.alloc (.cells (cellsF zeroF) 31)) (.cells (cellsR zeroF) 34)
  have hn1 : w3.heap.size ≠ w3.heap.size + 1 := by omega
  have hn2 : w3.heap.size + 1 ≠ w3.heap.size := by omega
  have hn3 : w3.heap.size ≠ w.heap.size := by omega
  have hn4 : w3.heap.size + 1 ≠ w.heap.size := by omega
  have hB1 : w.heap.size ≤ w3.heap.size := by omega
  have hB2 : w.heap.size ≤ w3.heap.size + 1 := by omega
  have sb := stR Try.prog (keep_row kz hn1 (cellsF s)) s
  have kf := keep_row (row_at ka (cellsF s)) hn2 (cellsR s)
  have kx := row_at (keep_row kz hn1 (cellsF s)) (cellsR s)
  have kt := keep_row (keep_row (keep_alloc (keep_alloc k1 (.cells (cellsF zeroF) 31)) (.cells (cellsR zeroF) 34)) hn3 (cellsF s)) hn4 (cellsR s)
  have F2 := ((((F1.alloc (.cells (cellsF zeroF) 31)).alloc (.cells (cellsR zeroF) 34)).row hB1 (cellsF s)).row hB2 (cellsR s))
  have hsz : ((((w3.alloc (.cells (cellsF zeroF) 31)).alloc (.cells (cellsR zeroF) 34)).setRow w3.heap.size (cellsF s)).setRow (w3.heap.size + 1) (cellsR s)).heap.size = w3.heap.size + 2 := by simp [World.setRow]
  clear k1 F1 ka kz
  go_upto_region 8 with fail
  obtain ⟨WB, hWB⟩ : ∃ WB, ((((w3.alloc (.cells (cellsF zeroF) 31)).alloc (.cells (cellsR zeroF) 34)).setRow w3.heap.size (cellsF s)).setRow (w3.heap.size + 1) (cellsR s)) = WB := ⟨_, rfl⟩
  obtain ⟨bf, hbf⟩ : ∃ b, w3.heap.size = b := ⟨_, rfl⟩
  obtain ⟨bx, hbx⟩ : ∃ b, bf + 1 = b := ⟨_, rfl⟩
  rw [hWB] at kf kx kt F2 hsz ⊢
  rw [hbf] at kf kx hsz hB1 hB2 hlt hn3 hn4 ⊢
  rw [hbx] at kx hB2 hn4 ⊢
  clear sa sb hn1 hn2 hWB hbf
  have hxf : bx ≠ bf := by omega
  have kf2 := keep_alloc kf (.cells #[.bool i, .int .i64 c] 91)
  have kx2 := keep_alloc kx (.cells #[.bool i, .int .i64 c] 91)
  have kt2 := keep_alloc kt (.cells #[.bool i, .int .i64 c] 91)
  have kc2 := heap_alloc_new WB (.cells #[.bool i, .int .i64 c] 91)
  have F3 := F2.alloc (.cells #[.bool i, .int .i64 c] 91)
  obtain ⟨c0, c1, c2, c3, c4⟩ := cellT kt
  have c0' := (cellT kt2).1
  have c1' := (cellT kt2).2.1
  have c2' := (cellT kt2).2.2.1
  have c3' := (cellT kt2).2.2.2.1
  have c4' := (cellT kt2).2.2.2.2
  clear kf kx kt F2
  go_wp2_with fail
  clear c0 c1 c2 c3 c4 c0' c1' c2' c3' c4'
  refine (tenter_v HT.out HS1.out HV.out _ ok hpc htv kf2).mono ?_
  rintro e w4 ⟨rfl, kf4, WE4⟩
  have hcf : WB.heap.size ≠ bf := by omega
  have kx4 := WE4.2 _ _ hxf kx2
  have kt4 := WE4.2 _ _ hn3.symm kt2
  have kc4 := WE4.2 _ _ hcf kc2
  have F4 := fr_of WE4 hB1 F3
  clear kf2 kx2 kt2 kc2 F3 WE4
  rw [hsz] at kc4 hcf
  obtain ⟨bc, hbc⟩ : ∃ b, bf + 2 = b := ⟨_, rfl⟩
  rw [hbc] at kc4 ⊢
  have ls4 := ldR (P := Try.prog) kx4
  obtain ⟨c0, c1, c2, c3, c4⟩ := cellT kt4
  obtain ⟨d0, d1⟩ := cellC kc4
  go_wp2_with fail
  clear c0 c1 c2 c3 c4 d0 d1 ls4
  refine (rtenter_v HT.out HS1.out HV.out _ ok hpc htv).mono ?_
  rintro e w5 ⟨rfl, hb5⟩
  have kf6 := keep_alloc (keepB hb5 kf4) (.cells (cellsR s1) 34)
  have kt6 := keep_alloc (keepB hb5 kt4) (.cells (cellsR s1) 34)
  have kc6 := keep_alloc (keepB hb5 kc4) (.cells (cellsR s1) 34)
  have ky6 := heap_alloc_new w5 (.cells (cellsR s1) 34)
  have F6 := (F4.step hb5).alloc (.cells (cellsR s1) 34)
  have hyf : w5.heap.size ≠ bf := by have := lt_of_at (keepB hb5 kf4); omega
  have hBy : w.heap.size ≤ w5.heap.size := (F4.step hb5).2
  have l4 := stnR
  clear kf4 kx4 kt4 kc4 F4 hb5
  go_upto_region 11 with fail
  clear l4
  obtain ⟨WC, hWC⟩ : ∃ WC, w5.alloc (.cells (cellsR s1) 34) = WC := ⟨_, rfl⟩
  obtain ⟨yb, hyb⟩ : ∃ b, w5.heap.size = b := ⟨_, rfl⟩
  rw [hWC] at kf6 kt6 kc6 ky6 F6 ⊢
  rw [hyb] at ky6 hyf hBy ⊢
  clear hWC hyb
  obtain ⟨c0, c1, -, -, c4⟩ := cellT kt6
  obtain ⟨d0, d1⟩ := cellC kc6
  have lsA : ∀ w' : World, w'.heap[yb]? = some (.cells (cellsR s1) 34) → (loadCellsFrom ⟨yb, 0, none⟩ 0 szR #[]).run Try.prog w' = .ok (cellsR s1) w' := fun w' h => ldR h
  clear kt6 kc6
  go_region_held3 (fun w' => ((Fr w.heap.size w w' ∧ w'.heap[bf]? = some (.cells (cellsF s1) 31)) ∧ w'.heap[yb]? = some (.cells (cellsR s1) 34)) ∧ w'.cell? ⟨w.heap.size, 0, none⟩ = some (.bool i) ∧ w'.cell? ⟨w.heap.size, 1, none⟩ = some (.int .i64 c) ∧ w'.cell? ⟨w.heap.size, 4, none⟩ = some (.int .u64 (tv : Int)) ∧ w'.cell? ⟨bc, 0, none⟩ = some (.bool i) ∧ w'.cell? ⟨bc, 1, none⟩ = some (.int .i64 c))
    (first | exact held5c ‹_› ‹_› | exact ⟨⟨⟨F6, kf6⟩, ky6⟩, c0, c1, c4, d0, d1⟩ | exact ⟨⟨⟨F6.drew, kf6⟩, ky6⟩, c0, c1, c4, d0, d1⟩ | go_keep)
    (first
      | (go_at_call 43; refine (same_h (L := 0) ok1 (by omega) ‹_›).mono ?_; rintro e w' ⟨rfl, hb⟩)
      | (go_at_call 60; refine (vec_v HVV.out _ htv).mono ?_; rintro e w' ⟨rfl, hb⟩)
      | (go_at_call 61; refine (rvec_v HVV.out _ htv).mono ?_; rintro e w' ⟨rfl, hb⟩))
  rename_i w9 hS9
  obtain ⟨⟨⟨f9, b9⟩, y9⟩, -⟩ := hS9
  clear F6 kf6 ky6 c0 c1 c4 d0 d1 lsA
  go_wp2_with fail
  refine (tleave_v HT2.out HS2.out HV2.out _ ok1 b9).mono ?_
  rintro e w10 ⟨rfl, b10, WE10⟩
  have y10 := WE10.2 _ _ hyf y9
  have F10 := fr_of WE10 hB1 f9
  have ls10 := ldR (P := Try.prog) y10
  clear f9 b9 y9 WE10
  go_wp2_with fail
  refine (rtleave_v HT2.out HS2.out HV2.out _ ok1).mono ?_
  rintro e w11 ⟨rfl, hb11⟩
  have y11 := keepB hb11 y10
  have b12 := keep_row (keepB hb11 b10) hyf (cellsR s2)
  have y12 := row_at y11 (cellsR s2)
  have F12 := (F10.step hb11).row hBy (cellsR s2)
  have ss11 := stR Try.prog y11 s2
  have ls12 := ldR (P := Try.prog) y12
  clear y10 y11 b10 F10 ls10 hb11
  go_wp2_with fail
  refine (same_any _ s2 0 _ ok2 (by omega) b12).mono ?_
  rintro e w13 ⟨rfl, hb13⟩
  have F13 := F12.step hb13
  clear ss11 ls12
  go_wp2_with fail
  refine (live23_any _).mono ?_
  rintro e w14 ⟨rfl, hb14⟩
  go_wp2
  go_ret
  exact ⟨rfl, (F13.step hb14).1⟩
theorem trapenters_any (a : Option Addr) (len cap : Nat) (i : Bool) (c p : Int) (pc tv : Nat) (at_ : Int) (w : World) (hmax : len ≤ 9223372036854775807) (hpc : pc < 18446744073709551616) (htv : tv < 18446744073709551616)
    (hd : ∀ j, j < len → ∃ ad d, a = some ad ∧ ad.block < w.heap.size ∧ OkD d ∧ DeedIn w ad j d) :
    Calls Try.prog 12 #[.slice a len cap, .agg #[.bool i, .int .i64 c, .int .i64 p, .int .u64 (pc : Int), .int .u64 (tv : Int)], .int .i64 at_] w fun e w' => e = .returned (.bool true) ∧ Below w.heap.size w w' := by
  by_cases h : 30 < len
  · exact trapenters_no a len cap i c p pc tv at_ w h hmax
  · exact trapenters_yes a len cap i c p pc tv at_ w (by omega) hpc htv hd
end Go.Proofs.Ythkkfdhgpaonjaa
