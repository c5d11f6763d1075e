/- Layer 23's law: TrapBack. -/
import Derived.Test.YthkkfdhgpaonjaaMTr
import Derived.Test.YthkkfdhgpaonjaaFiles
namespace Go.Proofs.Ythkkfdhgpaonjaa
open Go.RowKit
set_option linter.unusedSimpArgs false
set_option linter.unusedVariables false

attribute [local go_sem ↓] Go.wp_at_zero Go.wp_at_succ
attribute [local simp high] sizeRv zeroRv sizeFv zeroFv sizeDv
theorem cellT {w : World} {b : Nat} {i : Bool} {c p : Int} {pc tv : Nat} (h : w.heap[b]? = some (.cells #[.bool i, .int .i64 c, .int .i64 p, .int .u64 (pc : Int), .int .u64 (tv : Int)] 27)) :
    w.cell? ⟨b, 0, none⟩ = some (.bool i) ∧ w.cell? ⟨b, 1, none⟩ = some (.int .i64 c) ∧ w.cell? ⟨b, 2, none⟩ = some (.int .i64 p) ∧ w.cell? ⟨b, 3, none⟩ = some (.int .u64 (pc : Int)) ∧ w.cell? ⟨b, 4, none⟩ = some (.int .u64 (tv : Int)) :=
  ⟨by rw [cell_at h]; rfl, by rw [cell_at h]; rfl, by rw [cell_at h]; rfl, by rw [cell_at h]; rfl, by rw [cell_at h]; rfl⟩
theorem tenter_v {b : Nat} {s s' : FS} {i : Bool} {c p tt : Int} {pc tv v : Nat} (ho : entTo s i c p = tt) (hs : entS s i c p pc tv = s') (hv : entV s i c p = v) (w : World) (ok : OkF s) (hpc : pc < 18446744073709551616) (htv : tv < 18446744073709551616) (h : w.heap[b]? = some (.cells (cellsF s) 31)) :
    Calls Try.prog 16 #[.pointer (some ⟨b, 0, none⟩), .agg #[.bool i, .int .i64 c], .int .i64 p, .int .u64 (pc : Int), .int .u64 (tv : Int)] w fun e w' => e = .returned (.tuple #[.int .i64 tt, .int .u64 (v : Int)]) ∧ w'.heap[b]? = some (.cells (cellsF s') 31) ∧ Wrote b w w' := by
  rw [← ho, ← hs, ← hv]; exact tenter_any b s i c p pc tv w ok hpc htv h
theorem tleave_v {b : Nat} {s s' : FS} {t q : Int} {v : Nat} (ho : lvTo s t = q) (hs : lvS s t = s') (hv : lvPc s t = v) (w : World) (ok : OkF s) (h : w.heap[b]? = some (.cells (cellsF s) 31)) :
    Calls Try.prog 20 #[.pointer (some ⟨b, 0, none⟩), .int .i64 t] w fun e w' => e = .returned (.tuple #[.int .i64 q, .int .u64 (v : Int)]) ∧ w'.heap[b]? = some (.cells (cellsF s') 31) ∧ Wrote b w w' := by
  rw [← ho, ← hs, ← hv]; exact tleave_any b s t w ok h
set_option maxRecDepth 100000 in
set_option maxHeartbeats 4000000 in
theorem trapback_no (a : Option Addr) (len cap : Nat) (i : Bool) (c p : Int) (pc tv : Nat) (w : World) (h : 30 < len ∨ (p ≠ 0 ∧ p ≠ 1 ∧ p ≠ 3)) (hmax : len ≤ 9223372036854775807) :
    Calls Try.prog 13 #[.slice a len cap, .agg #[.bool i, .int .i64 c, .int .i64 p, .int .u64 (pc : Int), .int .u64 (tv : Int)]] w fun e w' => e = .returned (.bool true) ∧ Below w.heap.size w w' := by
  have F0 := (Fr.refl w).alloc (.cells #[.bool i, .int .i64 c, .int .i64 p, .int .u64 (pc : Int), .int .u64 (tv : Int)] 27)
  by_cases hl : 30 < len
  · go_enter Try.func13, Try.ntmps13
    go_wp2_with fail
    refine (live23_any _).mono ?_
    rintro e w1 ⟨rfl, hb1⟩
    go_wp2
    go_ret
    exact ⟨rfl, (F0.step hb1).1⟩
  · have b0 : (p != 0) = true := by simp; omega
    have b1 : (p != 1) = true := by simp; omega
    have b3 : (p != 3) = true := by simp; omega
    go_enter Try.func13, Try.ntmps13
    go_wp2_with fail
    refine (live23_any _).mono ?_
    rintro e w1 ⟨rfl, hb1⟩
    go_wp2
    go_ret
    exact ⟨rfl, (F0.step hb1).1⟩
set_option maxRecDepth 100000 in
set_option maxHeartbeats 4000000 in
theorem trapback_yes (a : Option Addr) (len cap : Nat) (i : Bool) (c p : Int) (pc tv : Nat) (w : World) (hl : len ≤ 30) (hp : p = 0 ∨ p = 1 ∨ p = 3) (hpc : pc < 18446744073709551616) (htv : tv < 18446744073709551616)
    (hd : ∀ j, j < len → ∃ ad d, a = some ad ∧ ad.block < w.heap.size ∧ OkD d ∧ DeedIn w ad j d) :
    Calls Try.prog 13 #[.slice a len cap, .agg #[.bool i, .int .i64 c, .int .i64 p, .int .u64 (pc : Int), .int .u64 (tv : Int)]] w fun e w' => e = .returned (.bool true) ∧ Below w.heap.size w w' := by
  have HD : ∀ j, j < len → ∃ ad d, a = some ad ∧ ad.block < (w.alloc (.cells #[.bool i, .int .i64 c, .int .i64 p, .int .u64 (pc : Int), .int .u64 (tv : Int)] 27)).heap.size ∧ OkD d ∧ DeedIn (w.alloc (.cells #[.bool i, .int .i64 c, .int .i64 p, .int .u64 (pc : Int), .int .u64 (tv : Int)] 27)) ad j d := by
    intro j hj
    obtain ⟨ad, d, e, hb, od, hdd⟩ := hd j hj
    exact ⟨ad, d, e, by simp; omega, od, hdd.keep ((Fr.refl w).alloc (.cells #[.bool i, .int .i64 c, .int .i64 p, .int .u64 (pc : Int), .int .u64 (tv : Int)] 27)).1 hb⟩
  have F0 := (Fr.refl w).alloc (.cells #[.bool i, .int .i64 c, .int .i64 p, .int .u64 (pc : Int), .int .u64 (tv : Int)] 27)
  have k0 := heap_alloc_new w (.cells #[.bool i, .int .i64 c, .int .i64 p, .int .u64 (pc : Int), .int .u64 (tv : Int)] 27)
  have hp' := Lib.hid hp
  have l1 := zeroRv
  have l2 := sizeRv
  have l3 := size_cellsR
  have m1 := zeroFv
  have m2 := sizeFv
  have m3 := size_cellsF
  clear hd
  have hg : (p != 0) = false ∨ ((p != 0) = true ∧ (p != 1) = false) ∨ ((p != 0) = true ∧ (p != 1) = true ∧ (p != 3) = false) := by
    rcases hp with rfl | rfl | rfl
    · exact Or.inl rfl
    · exact Or.inr (Or.inl ⟨rfl, rfl⟩)
    · exact Or.inr (Or.inr ⟨rfl, rfl, rfl⟩)
  clear hp
  rcases hg with b0 | ⟨b0, b1⟩ | ⟨b0, b1, b3⟩
  all_goals
    go_enter Try.func13, Try.ntmps13
    go_wp2_with fail
    refine (files_any a len cap _ (by omega) HD).mono ?_
    rintro e w1 ⟨s, ok, al, rfl, hb1⟩
    obtain ⟨tt, hto⟩ : ∃ x, entTo s i c p = x := ⟨_, rfl⟩
    obtain ⟨s1, hs1⟩ : ∃ x, entS s i c p pc tv = x := ⟨_, rfl⟩
    obtain ⟨v, hv⟩ : ∃ x, entV s i c p = x := ⟨_, rfl⟩
    obtain ⟨s2, hs2⟩ : ∃ x, lvS s1 tt = x := ⟨_, rfl⟩
    obtain ⟨q, hq⟩ : ∃ x, pc / 4 * 4 = x := ⟨_, rfl⟩
    have hbits := base_val pc hpc
    rw [hq] at hbits
    have hge := to_ge s i c _ hp'.out
    have ho2 : Hid (lvTo s1 tt = p) := by show _ = _; rw [← hs1, ← hto]; exact back_to s i c _ pc tv hp'.out
    have hv2 : Hid (lvPc s1 tt = q) := by show _ = _; rw [← hs1, ← hto, ← hq]; exact back_pc al i c _ pc tv hpc
    have ok1 : OkF s1 := by rw [← hs1]; exact ok.ent _ _ _ _ _
    rw [hto] at hge
    have HT := Lib.hid hto
    have HS1 := Lib.hid hs1
    have HV := Lib.hid hv
    have HS2 := Lib.hid hs2
    clear hto hs1 hv hs2 hq
    have F1 := F0.step hb1
    have k1 := keepB hb1 k0
    have hlt := lt_of_at k1
    have ka := keep_alloc (heap_alloc_new w1 (.cells (cellsF zeroF) 31)) (.cells (cellsR zeroF) 34)
    have sa := stF Try.prog ka s
    have kz : ((w1.alloc (.cells (cellsF zeroF) 31)).alloc (.cells (cellsR zeroF) 34)).heap[w1.heap.size + 1]? = some (.cells (cellsR zeroF) 34) := by simpa using heap_alloc_new (w1.alloc (.cells (cellsF zeroF) 31)) (.cells (cellsR zeroF) 34)
    have hn1 : w1.heap.size ≠ w1.heap.size + 1 := by omega
    have hn2 : w1.heap.size + 1 ≠ w1.heap.size := by omega
    have hn3 : w1.heap.size ≠ w.heap.size := by omega
    have hn4 : w1.heap.size + 1 ≠ w.heap.size := by omega
    have hB1 : w.heap.size ≤ w1.heap.size := by omega
    have hB2 : w.heap.size ≤ w1.heap.size + 1 := by omega
    have sb := stR Try.prog (keep_row kz hn1 (cellsF s)) s
    have kf := keep_row (row_at ka (cellsF s)) hn2 (cellsR s)
    have kt := keep_row (keep_row (keep_alloc (keep_alloc k1 (.cells (cellsF zeroF) 31)) (.cells (cellsR zeroF) 34)) hn3 (cellsF s)) hn4 (cellsR s)
    have F2 := ((((F1.alloc (.cells (cellsF zeroF) 31)).alloc (.cells (cellsR zeroF) 34)).row hB1 (cellsF s)).row hB2 (cellsR s))
    obtain ⟨c0, c1, c2, c3, c4⟩ := cellT kt
    have KF := Lib.hid kf
    have KT := Lib.hid kt
    have FF2 := Lib.hid F2
    clear k0 k1 F0 F1 ka kz kf kt F2
    go_wp2_with fail
    clear c0 c1 c2 c3 c4
    refine (tenter_v HT.out HS1.out HV.out _ ok hpc htv KF.out).mono ?_
    rintro e w2 ⟨rfl, kf2, WE2⟩
    have kt2 := WE2.2 _ _ hn3.symm KT.out
    have FF3 := Lib.hid (fr_of WE2 hB1 FF2.out)
    obtain ⟨c0, c1, c2, c3, c4⟩ := cellT kt2
    clear KF KT FF2
    go_wp2_with fail
    clear c0 c1 c2 c3 c4
    refine (tleave_v ho2.out HS2.out hv2.out _ ok1 kf2).mono ?_
    rintro e w3 ⟨rfl, kf3, WE3⟩
    have kt3 := WE3.2 _ _ hn3.symm kt2
    have FF4 := Lib.hid (fr_of WE3 hB1 FF3.out)
    obtain ⟨c0, c1, c2, c3, c4⟩ := cellT kt3
    go_wp2_with fail
    refine (live23_any _).mono ?_
    rintro e w4 ⟨rfl, hb4⟩
    go_wp2
    go_ret
    exact ⟨rfl, (FF4.out.step hb4).1⟩
theorem trapback_any (a : Option Addr) (len cap : Nat) (i : Bool) (c p : Int) (pc tv : Nat) (w : World) (hmax : len ≤ 9223372036854775807) (hpc : pc < 18446744073709551616) (htv : tv < 18446744073709551616)
    (hd : ∀ j, j < len → ∃ ad d, a = some ad ∧ ad.block < w.heap.size ∧ OkD d ∧ DeedIn w ad j d) :
    Calls Try.prog 13 #[.slice a len cap, .agg #[.bool i, .int .i64 c, .int .i64 p, .int .u64 (pc : Int), .int .u64 (tv : Int)]] w fun e w' => e = .returned (.bool true) ∧ Below w.heap.size w w' := by
  by_cases h : 30 < len ∨ (p ≠ 0 ∧ p ≠ 1 ∧ p ≠ 3)
  · exact trapback_no a len cap i c p pc tv w h hmax
  · exact trapback_yes a len cap i c p pc tv w (by omega) (by omega) hpc htv hd
end Go.Proofs.Ythkkfdhgpaonjaa
