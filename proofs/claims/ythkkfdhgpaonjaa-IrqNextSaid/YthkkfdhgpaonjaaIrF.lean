/- Layer 24's law: IrqNext. -/
import Derived.Test.YthkkfdhgpaonjaaIrE
import Derived.Test.YthkkfdhgpaonjaaEqF
namespace Go.Proofs.Ythkkfdhgpaonjaa
open Go.RowKit
set_option linter.unusedSimpArgs false
set_option linter.unusedVariables false

attribute [local go_sem ↓] Go.wp_at_zero Go.wp_at_succ
attribute [local simp high] sizeRv zeroRv sizeFv zeroFv sizeDv
set_option maxRecDepth 100000 in
set_option maxHeartbeats 8000000 in
theorem irqnext_yes (a : Option Addr) (len cap : Nat) (p : Int) (L : Nat) (w : World) (hl : len ≤ 30) (hL : L < 18446744073709551616)
    (hd : ∀ j, j < len → ∃ ad d, a = some ad ∧ ad.block < w.heap.size ∧ OkD d ∧ DeedIn w ad j d) :
    Calls Try.prog 9 #[.slice a len cap, .int .i64 p, .int .u64 (L : Int)] w fun e w' => e = .returned (.bool true) ∧ Below w.heap.size w w' := by
  have F0 := Fr.refl w
  have l1 := zeroRv
  have l2 := sizeRv
  have l3 := size_cellsR
  have m1 := zeroFv
  have m2 := sizeFv
  have m3 := size_cellsF
  have HDD := Lib.hid hd
  clear hd
  go_enter Try.func9, Try.ntmps9
  go_wp2_with fail
  refine (next_nil p L _).mono ?_
  rintro e w1 ⟨rfl, hb1⟩
  simp only [causeV]
  have F1 := (F0.step hb1).alloc (.cells #[.bool false, .int .i64 0] 24)
  go_wp2_with fail
  refine (waiting_nil L _).mono ?_
  rintro e w2 ⟨rfl, hb2⟩
  have F2 := F1.step hb2
  go_wp2_with fail
  refine (wakes_nil L _).mono ?_
  rintro e w4 ⟨rfl, hb4⟩
  have F4 := F2.step hb4
  clear F0 F1 F2 hb1 hb2 hb4
  go_wp2_with fail
  have HD : ∀ j, j < len → ∃ ad d, a = some ad ∧ ad.block < w4.heap.size ∧ OkD d ∧ DeedIn w4 ad j d := by
    intro j hj
    obtain ⟨ad, d, e, hb, od, hdd⟩ := HDD.out j hj
    exact ⟨ad, d, e, Nat.lt_of_lt_of_le hb F4.2, od, hdd.keep F4.1 hb⟩
  refine (files_any a len cap _ (by omega) HD).mono ?_
  rintro e w3 ⟨s, ok, al, rfl, hb3⟩
  clear HD HDD
  have F1 := F4.step hb3
  have ka := keep_alloc (heap_alloc_new w3 (.cells (cellsF zeroF) 31)) (.cells (cellsR zeroF) 34)
  have sa := stF Try.prog ka s
  have kz : ((w3.alloc (.cells (cellsF zeroF) 31)).alloc (.cells (cellsR zeroF) 34)).heap[w3.heap.size + 1]? = some (.cells (cellsR zeroF) 34) := by simpa using heap_alloc_new (w3.alloc (.cells (cellsF zeroF) 31)) (.cells (cellsR zeroF) 34)
  have hn1' : w3.heap.size ≠ w3.heap.size + 1 := by omega
  have hn2 : w3.heap.size + 1 ≠ w3.heap.size := by omega
  have hB1 : w.heap.size ≤ w3.heap.size := F1.2
  have hB2 : w.heap.size ≤ w3.heap.size + 1 := by omega
  have sb := stR Try.prog (keep_row kz hn1' (cellsF s)) s
  have kf := keep_row (row_at ka (cellsF s)) hn2 (cellsR s)
  have kx := row_at (keep_row kz hn1' (cellsF s)) (cellsR s)
  have F2 := ((((F1.alloc (.cells (cellsF zeroF) 31)).alloc (.cells (cellsR zeroF) 34)).row hB1 (cellsF s)).row hB2 (cellsR s))
  have hsz : ((((w3.alloc (.cells (cellsF zeroF) 31)).alloc (.cells (cellsR zeroF) 34)).setRow w3.heap.size (cellsF s)).setRow (w3.heap.size + 1) (cellsR s)).heap.size = w3.heap.size + 2 := by simp [World.setRow]
  clear F1 ka kz
  go_upto_region 7 with fail
  obtain ⟨WB, hWB⟩ : ∃ WB, ((((w3.alloc (.cells (cellsF zeroF) 31)).alloc (.cells (cellsR zeroF) 34)).setRow w3.heap.size (cellsF s)).setRow (w3.heap.size + 1) (cellsR s)) = WB := ⟨_, rfl⟩
  obtain ⟨bf, hbf⟩ : ∃ b, w3.heap.size = b := ⟨_, rfl⟩
  obtain ⟨bx, hbx⟩ : ∃ b, bf + 1 = b := ⟨_, rfl⟩
  rw [hWB] at kf kx F2 hsz ⊢
  rw [hbf] at kf kx hsz hB1 hB2 ⊢
  rw [hbx] at kx hB2 ⊢
  clear sa sb hn1' hn2 hWB hbf hb3
  have hxf : bx ≠ bf := by omega
  obtain ⟨x, hx⟩ : ∃ x, waitOf s L = x := ⟨_, rfl⟩
  obtain ⟨y, hy⟩ : ∃ y, nextOf s p L = y := ⟨_, rfl⟩
  have X := Lib.hid hx
  have Y := Lib.hid hy
  clear hx hy
  have lF := ldF (P := Try.prog) kf
  have l4 := stnF WB zeroF s
  rw [hsz] at l4
  have k2 := keep_alloc kf (.cells (cellsF s) 31)
  have x2 := keep_alloc kx (.cells (cellsF s) 31)
  have o2 := heap_alloc_new WB (.cells (cellsF s) 31)
  rw [hsz] at o2
  have F3 := F2.alloc (.cells (cellsF s) 31)
  go_upto_region 8 with fail
  obtain ⟨WC, hWC⟩ : ∃ WC, WB.alloc (.cells (cellsF s) 31) = WC := ⟨_, rfl⟩
  rw [hWC] at k2 x2 o2 F3 ⊢
  obtain ⟨bo, hbo⟩ : ∃ b, bf + 2 = b := ⟨_, rfl⟩
  rw [hbo] at o2 hsz ⊢
  clear lF l4 kf kx F2 hWC hsz
  go_wp2_with fail
  refine (next_v Y.out _ ok hL k2).mono ?_
  rintro e w5 ⟨rfl, hb5⟩
  have HK := Lib.hid (keepB hb5 k2)
  have HX := Lib.hid (keepB hb5 x2)
  have HO := Lib.hid (keepB hb5 o2)
  have HF := Lib.hid (F3.step hb5)
  clear k2 x2 o2 F3 hb5
  cases y with
  | none =>
    simp only [causeV]
    have k6 := keep_alloc HK.out (.cells #[.bool false, .int .i64 0] 24)
    have x6 := keep_alloc HX.out (.cells #[.bool false, .int .i64 0] 24)
    have o6 := keep_alloc HO.out (.cells #[.bool false, .int .i64 0] 24)
    have c6 := heap_alloc_new w5 (.cells #[.bool false, .int .i64 0] 24)
    have F6 := HF.out.alloc (.cells #[.bool false, .int .i64 0] 24)
    have ls6 := ldR (P := Try.prog) x6
    clear HK HX HO HF
    go_wp2_with fail
    refine (rnext_v Y.out _ ok hL).mono ?_
    rintro e w7 ⟨rfl, hb7⟩
    simp only [causeV]
    have k8 := keep_alloc (keepB hb7 k6) (.cells #[.bool false, .int .i64 0] 91)
    have x8 := keep_alloc (keepB hb7 x6) (.cells #[.bool false, .int .i64 0] 91)
    have o8 := keep_alloc (keepB hb7 o6) (.cells #[.bool false, .int .i64 0] 91)
    have c8 := keep_alloc (keepB hb7 c6) (.cells #[.bool false, .int .i64 0] 91)
    have d8 := heap_alloc_new w7 (.cells #[.bool false, .int .i64 0] 91)
    have F8 := (F6.step hb7).alloc (.cells #[.bool false, .int .i64 0] 91)
    have ls8 := ldR (P := Try.prog) x8
    clear ls6 k6 x6 o6 c6 F6 hb7
    go_wp2_with fail
    refine (rwaiting_v X.out _ ok hL).mono ?_
    rintro e w9 ⟨rfl, hb9⟩
    have k9 := keepB hb9 k8
    have o9 := keepB hb9 o8
    have c9 := keepB hb9 c8
    have d9 := keepB hb9 d8
    have F9 := F8.step hb9
    clear ls8 k8 x8 o8 c8 d8 F8 hb9
    obtain ⟨e0, e1⟩ := two_cells c9
    obtain ⟨g0, g1⟩ := two_cells d9
    clear c9 d9
    go_wp2_with fail
    refine (waiting_v X.out _ ok hL k9).mono ?_
    rintro e w10 ⟨rfl, hb10⟩
    have k10 := keepB hb10 k9
    have o10 := keepB hb10 o9
    have F10 := F9.step hb10
    clear k9 o9 F9 hb10 e0 e1 g0 g1
    go_wp2_with fail
    refine (wakes_v X.out _ ok hL k10).mono ?_
    rintro e w11 ⟨rfl, hb11⟩
    have k11 := keepB hb11 k10
    have o11 := keepB hb11 o10
    have F11 := F10.step hb11
    have lk := ldF (P := Try.prog) k11
    have lo := ldF (P := Try.prog) o11
    clear k10 o10 F10 hb11
    have eqk : ∀ w, (Op.equalIn 10000 31 (.agg (cellsF s)) (.agg (cellsF s))).run Try.prog w = .ok true w := fun w => eqF s ok w
    go_wp2_with fail
    refine (live24_any _).mono ?_
    rintro e w12 ⟨rfl, hb12⟩
    clear lk lo eqk
    go_wp2
    go_ret
    exact ⟨rfl, (F11.step hb12).1⟩
  | some c =>
    simp only [causeV]
    have k6 := keep_alloc HK.out (.cells #[.bool true, .int .i64 c] 24)
    have x6 := keep_alloc HX.out (.cells #[.bool true, .int .i64 c] 24)
    have o6 := keep_alloc HO.out (.cells #[.bool true, .int .i64 c] 24)
    have c6 := heap_alloc_new w5 (.cells #[.bool true, .int .i64 c] 24)
    have F6 := HF.out.alloc (.cells #[.bool true, .int .i64 c] 24)
    have ls6 := ldR (P := Try.prog) x6
    clear HK HX HO HF
    go_wp2_with fail
    refine (rnext_v Y.out _ ok hL).mono ?_
    rintro e w7 ⟨rfl, hb7⟩
    simp only [causeV]
    have k8 := keep_alloc (keepB hb7 k6) (.cells #[.bool true, .int .i64 c] 91)
    have x8 := keep_alloc (keepB hb7 x6) (.cells #[.bool true, .int .i64 c] 91)
    have o8 := keep_alloc (keepB hb7 o6) (.cells #[.bool true, .int .i64 c] 91)
    have c8 := keep_alloc (keepB hb7 c6) (.cells #[.bool true, .int .i64 c] 91)
    have d8 := heap_alloc_new w7 (.cells #[.bool true, .int .i64 c] 91)
    have F8 := (F6.step hb7).alloc (.cells #[.bool true, .int .i64 c] 91)
    have ls8 := ldR (P := Try.prog) x8
    clear ls6 k6 x6 o6 c6 F6 hb7
    go_wp2_with fail
    refine (rwaiting_v X.out _ ok hL).mono ?_
    rintro e w9 ⟨rfl, hb9⟩
    have k9 := keepB hb9 k8
    have o9 := keepB hb9 o8
    have c9 := keepB hb9 c8
    have d9 := keepB hb9 d8
    have F9 := F8.step hb9
    clear ls8 k8 x8 o8 c8 d8 F8 hb9
    obtain ⟨e0, e1⟩ := two_cells c9
    obtain ⟨g0, g1⟩ := two_cells d9
    clear c9 d9
    go_wp2_with fail
    refine (waiting_v X.out _ ok hL k9).mono ?_
    rintro e w10 ⟨rfl, hb10⟩
    have k10 := keepB hb10 k9
    have o10 := keepB hb10 o9
    have F10 := F9.step hb10
    clear k9 o9 F9 hb10 e0 e1 g0 g1
    go_wp2_with fail
    refine (wakes_v X.out _ ok hL k10).mono ?_
    rintro e w11 ⟨rfl, hb11⟩
    have k11 := keepB hb11 k10
    have o11 := keepB hb11 o10
    have F11 := F10.step hb11
    have lk := ldF (P := Try.prog) k11
    have lo := ldF (P := Try.prog) o11
    clear k10 o10 F10 hb11
    have eqk : ∀ w, (Op.equalIn 10000 31 (.agg (cellsF s)) (.agg (cellsF s))).run Try.prog w = .ok true w := fun w => eqF s ok w
    go_wp2_with fail
    refine (live24_any _).mono ?_
    rintro e w12 ⟨rfl, hb12⟩
    clear lk lo eqk
    go_wp2
    go_ret
    exact ⟨rfl, (F11.step hb12).1⟩
set_option maxRecDepth 100000 in
set_option maxHeartbeats 4000000 in
theorem irqnext_no (a : Option Addr) (len cap : Nat) (p : Int) (L : Nat) (w : World) (h : 30 < len) (hmax : len ≤ 9223372036854775807) :
    Calls Try.prog 9 #[.slice a len cap, .int .i64 p, .int .u64 (L : Int)] w fun e w' => e = .returned (.bool true) ∧ Below w.heap.size w w' := by
  have F0 := Fr.refl w
  go_enter Try.func9, Try.ntmps9
  go_wp2_with fail
  refine (next_nil p L _).mono ?_
  rintro e w1 ⟨rfl, hb1⟩
  simp only [causeV]
  have F1 := (F0.step hb1).alloc (.cells #[.bool false, .int .i64 0] 24)
  go_wp2_with fail
  refine (waiting_nil L _).mono ?_
  rintro e w2 ⟨rfl, hb2⟩
  have F2 := F1.step hb2
  go_wp2_with fail
  refine (wakes_nil L _).mono ?_
  rintro e w4 ⟨rfl, hb4⟩
  have F4 := F2.step hb4
  clear F0 F1 F2 hb1 hb2 hb4
  go_wp2_with fail
  refine (live24_any _).mono ?_
  rintro e w5 ⟨rfl, hb5⟩
  go_wp2
  go_ret
  exact ⟨rfl, (F4.step hb5).1⟩
theorem irqnext_any (a : Option Addr) (len cap : Nat) (p : Int) (L : Nat) (w : World) (hmax : len ≤ 9223372036854775807) (hL : L < 18446744073709551616)
    (hd : ∀ j, j < len → ∃ ad d, a = some ad ∧ ad.block < w.heap.size ∧ OkD d ∧ DeedIn w ad j d) :
    Calls Try.prog 9 #[.slice a len cap, .int .i64 p, .int .u64 (L : Int)] w fun e w' => e = .returned (.bool true) ∧ Below w.heap.size w w' := by
  by_cases h : 30 < len
  · exact irqnext_no a len cap p L w h hmax
  · exact irqnext_yes a len cap p L w (by omega) hL hd
end Go.Proofs.Ythkkfdhgpaonjaa
