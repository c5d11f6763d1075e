/- Layer 24's law: IrqRises. -/
import Derived.Test.YthkkfdhgpaonjaaIrD
import Derived.Test.YthkkfdhgpaonjaaFiles
import Derived.Test.YthkkfdhgpaonjaaTrG
namespace Go.Proofs.Ythkkfdhgpaonjaa
open Go.RowKit
set_option linter.unusedSimpArgs false
set_option linter.unusedVariables false

attribute [local go_sem ↓] Go.wp_at_zero Go.wp_at_succ
attribute [local simp high] sizeRv zeroRv sizeFv zeroFv sizeDv
theorem and_bit (st k m : Nat) (hst : st < 18446744073709551616) (hm : m < 18446744073709551616) (h : st.testBit k = true) (h2 : m.testBit k = true) : (bits .and .u64 (st : Int) (m : Int) == 0) = false := by
  rw [show bits .and .u64 (st : Int) (m : Int) = ((st &&& m : Nat) : Int) from u64_and_nat st m hst hm]
  have hne : st &&& m ≠ 0 := by
    intro e
    have : (st &&& m).testBit k = true := by rw [Nat.testBit_and, h, h2]; rfl
    rw [e] at this; simp at this
  simp; omega
theorem heldkc {w w' : World} {B b : Nat} {o : Obj} {w0 : World} {a0 a1 : Addr} {v0 v1 : Value} (hb : Below w.heap.size w w') (h : ((Fr B w0 w ∧ w.heap[b]? = some o) ∧ w.cell? a0 = some v0) ∧ w.cell? a1 = some v1) : ((Fr B w0 w' ∧ w'.heap[b]? = some o) ∧ w'.cell? a0 = some v0) ∧ w'.cell? a1 = some v1 := ⟨heldk hb h.1, hcell hb h.2⟩
theorem waiting_h {B b : Nat} {s : FS} {L y : Nat} {w0 w : World} {R R2 : Prop} (hy : waitOf s L = y) (ok : OkF s) (hL : L < 18446744073709551616) (h : ((Fr B w0 w ∧ w.heap[b]? = some (.cells (cellsF s) 31)) ∧ R) ∧ R2) :
    Calls Try.prog 50 #[.pointer (some ⟨b, 0, none⟩), .int .u64 (L : Int)] w fun e w' => e = .returned (.int .u64 (y : Int)) ∧ Below w.heap.size w w' := waiting_v hy w ok hL h.1.1.2
theorem wakes_h {B b : Nat} {s : FS} {L y : Nat} {w0 w : World} {R R2 : Prop} (hy : waitOf s L = y) (ok : OkF s) (hL : L < 18446744073709551616) (h : ((Fr B w0 w ∧ w.heap[b]? = some (.cells (cellsF s) 31)) ∧ R) ∧ R2) :
    Calls Try.prog 51 #[.pointer (some ⟨b, 0, none⟩), .int .u64 (L : Int)] w fun e w' => e = .returned (.bool ((y : Int) != 0)) ∧ Below w.heap.size w w' := wakes_v hy w ok hL h.1.1.2
set_option maxRecDepth 100000 in
theorem irqrises_no (a : Option Addr) (len cap : Nat) (n : Int) (L : Nat) (w : World) (h : 30 < len) (hmax : len ≤ 9223372036854775807) :
    Calls Try.prog 10 #[.slice a len cap, .int .u8 n, .int .u64 (L : Int)] w fun e w' => e = .returned (.bool true) ∧ Below w.heap.size w w' := by
  go_enter Try.func10, Try.ntmps10
  go_wp2_with fail
  refine (live24_any _).mono ?_
  rintro e w1 ⟨rfl, hb1⟩
  go_wp2
  go_ret
  exact ⟨rfl, hb1⟩
set_option maxRecDepth 100000 in
set_option maxHeartbeats 8000000 in
theorem irqrises_yes (a : Option Addr) (len cap : Nat) (n : Int) (L : Nat) (w : World) (hl : len ≤ 30) (hn0 : 0 ≤ n) (hn1 : n < 256) (hL : L < 18446744073709551616)
    (hd : ∀ j, j < len → ∃ ad d, a = some ad ∧ ad.block < w.heap.size ∧ OkD d ∧ DeedIn w ad j d) :
    Calls Try.prog 10 #[.slice a len cap, .int .u8 n, .int .u64 (L : Int)] w fun e w' => e = .returned (.bool true) ∧ Below w.heap.size w w' := by
  have F0 := Fr.refl w
  have l1 := zeroRv
  have l2 := sizeRv
  have l3 := size_cellsR
  have m1 := zeroFv
  have m2 := sizeFv
  have m3 := size_cellsF
  go_enter Try.func10, Try.ntmps10
  go_wp2_with fail
  refine (files_any a len cap _ (by omega) hd).mono ?_
  rintro e w3 ⟨s, ok, al, rfl, hb3⟩
  clear hd
  have F1 := F0.step hb3
  have ka := keep_alloc (heap_alloc_new w3 (.cells (cellsF zeroF) 31)) (.cells (cellsR zeroF) 34)
  have sa := stF Try.prog ka s
  have kz : ((w3.alloc (.cells (cellsF zeroF) 31)).alloc (.cells (cellsR zeroF) 34)).heap[w3.heap.size + 1]? = some (.cells (cellsR zeroF) 34) := by simpa using heap_alloc_new (w3.alloc (.cells (cellsF zeroF) 31)) (.cells (cellsR zeroF) 34)
  have hn1' : w3.heap.size ≠ w3.heap.size + 1 := by omega
  have hn2 : w3.heap.size + 1 ≠ w3.heap.size := by omega
  have hB1 : w.heap.size ≤ w3.heap.size := F1.2
  have hB2 : w.heap.size ≤ w3.heap.size + 1 := by omega
  have sb := stR Try.prog (keep_row kz hn1' (cellsF s)) s
  have kf := keep_row (row_at ka (cellsF s)) hn2 (cellsR s)
  have F2 := ((((F1.alloc (.cells (cellsF zeroF) 31)).alloc (.cells (cellsR zeroF) 34)).row hB1 (cellsF s)).row hB2 (cellsR s))
  have hsz : ((((w3.alloc (.cells (cellsF zeroF) 31)).alloc (.cells (cellsR zeroF) 34)).setRow w3.heap.size (cellsF s)).setRow (w3.heap.size + 1) (cellsR s)).heap.size = w3.heap.size + 2 := by simp [World.setRow]
  clear F1 ka kz
  go_upto_region 4 with fail
  obtain ⟨WB, hWB⟩ : ∃ WB, ((((w3.alloc (.cells (cellsF zeroF) 31)).alloc (.cells (cellsR zeroF) 34)).setRow w3.heap.size (cellsF s)).setRow (w3.heap.size + 1) (cellsR s)) = WB := ⟨_, rfl⟩
  obtain ⟨bf, hbf⟩ : ∃ b, w3.heap.size = b := ⟨_, rfl⟩
  rw [hWB] at kf F2 hsz ⊢
  rw [hbf] at kf hsz hB1 hB2 ⊢
  clear sa sb hn1' hn2 hWB hbf hb3 hB2
  have hrem : n.tmod 3 = 0 ∨ n.tmod 3 = 1 ∨ n.tmod 3 = 2 := by
    rw [Int.tmod_eq_emod_of_nonneg hn0]; omega
  clear hn0 hn1
  have hp : ∀ p : Int, p = 0 ∨ p = 1 ∨ p = 3 → ∀ c, nextOf s p L = some c → Rises s p L c := fun p hp c h => rises ok hp h
  rcases hrem with hr | hr | hr
  · obtain ⟨y, hy⟩ : ∃ y, nextOf s 0 L = y := ⟨_, rfl⟩
    have HR := hp 0 (by omega)
    rw [hy] at HR
    have HY := Lib.hid hy
    clear hy hp
    have k4 := keep_alloc kf (.cells #[.int .i64 0, .int .i64 1, .int .i64 3] 37)
    have F4 := F2.alloc (.cells #[.int .i64 0, .int .i64 1, .int .i64 3] 37)
    clear kf F2
    go_wp2_with fail
    refine (next_v HY.out _ ok hL k4).mono ?_
    rintro e w5 ⟨rfl, hb5⟩
    have k5 := keepB hb5 k4
    have F5 := F4.step hb5
    clear k4 F4 hb5
    cases y with
    | none =>
      simp only [causeV]
      go_wp2_with fail
      refine (live24_any _).mono ?_
      rintro e w6 ⟨rfl, hb6⟩
      go_wp2
      go_ret
      exact ⟨rfl, ((F5.alloc (.cells #[.bool false, .int .i64 0] 24)).step hb6).1⟩
    | some c =>
      obtain ⟨⟨k, rfl, hk, hb⟩, hm, hu, hr'⟩ := HR _ rfl
      obtain ⟨tt, htt⟩ : ∃ t, toOf true (k : Int) 0 (getOf s 770 0) (getOf s 771 0) = t := ⟨_, rfl⟩
      rw [← to_getOf, htt] at hu hr'
      have hto := toOf_13 true (k : Int) 0 (getOf s 770 0) (getOf s 771 0)
      rw [htt] at hto
      obtain ⟨x, hx⟩ : ∃ x, waitOf s L = x := ⟨_, rfl⟩
      have hx64 : x < 18446744073709551616 := by rw [← hx]; exact waitOf_lt ok hL
      rw [hx] at hb
      have hbt := bit_test x k hx64
      rw [hb] at hbt
      have hbt2 : (bits .and .u64 ((x : Int) / 2 ^ k) 1 == 1) = true := by rw [← hbt]; simp
      have hwk : IntKind.u64.wrap (k : Int) = (k : Int) := by rw [IntKind.wrap_u64]; omega
      have hk0 : (0 : Int) ≤ k := by omega
      have hk64 : (k : Int) ≤ 64 := by omega
      have hmin : min k 64 = k := by omega
      have hxne : ((x : Int) != 0) = true := by
        have : x ≠ 0 := by rintro rfl; simp at hb
        simp; omega
      obtain ⟨st, hst⟩ : ∃ x, getOf s 768 0 = x := ⟨_, rfl⟩
      have hst64 : st < 18446744073709551616 := by rw [← hst]; exact getOf_lt ok _ _ (by omega)
      rw [show s.g 7 = st from hst] at hm hu
      have d64 : getOf s 770 0 < 18446744073709551616 := getOf_lt ok _ _ (by omega)
      have i64 : getOf s 771 0 < 18446744073709551616 := getOf_lt ok _ _ (by omega)
      have TT := Lib.hid htt
      have X := Lib.hid hx
      have ST := Lib.hid hst
      clear htt hx hst hb HR
      simp only [causeV]
      have k6 := keep_alloc k5 (.cells #[.bool true, .int .i64 (k : Int)] 24)
      have c6 := heap_alloc_new w5 (.cells #[.bool true, .int .i64 (k : Int)] 24)
      have F6 := F5.alloc (.cells #[.bool true, .int .i64 (k : Int)] 24)
      clear k5 F5
      go_wp2_with fail
      obtain ⟨WC, hWC⟩ : ∃ WC, w5.alloc (.cells #[.bool true, .int .i64 (k : Int)] 24) = WC := ⟨_, rfl⟩
      obtain ⟨bc, hbc⟩ : ∃ b, w5.heap.size = b := ⟨_, rfl⟩
      rw [hWC] at k6 c6 F6 ⊢
      rw [hbc] at c6 ⊢
      clear hWC hbc
      obtain ⟨d0, d1⟩ := two_cells c6
      go_region_held3 (fun w' => ((Fr w.heap.size w w' ∧ w'.heap[bf]? = some (.cells (cellsF s) 31)) ∧ w'.cell? ⟨bc, 0, none⟩ = some (.bool true)) ∧ w'.cell? ⟨bc, 1, none⟩ = some (.int .i64 (k : Int)))
        (first | exact heldkc ‹_› ‹_› | exact ⟨⟨⟨F6, k6⟩, d0⟩, d1⟩ | exact ⟨⟨⟨F6.drew, k6⟩, d0⟩, d1⟩ | go_keep)
        (first
          | (go_at_call 17; refine (get_hh ok (L := 0) (by omega) ‹_›).mono ?_; rintro e w' ⟨rfl, hb⟩)
          | (go_at_call 19; refine (cto_v TT.out _ d64 i64).mono ?_; rintro e w' ⟨rfl, hb⟩))
      rename_i w9 hS9
      obtain ⟨⟨⟨F9, k9⟩, d0'⟩, d1'⟩ := hS9
      clear F6 k6 c6 d0 d1
      go_wp2_with fail
      refine (get_v (L := 0) ST.out _ ok (by omega) k9).mono ?_
      rintro e w10 ⟨rfl, hb10⟩
      have F10 := F9.step hb10
      have k10 := keepB hb10 k9
      have d0 := hcell hb10 d0'
      have d1 := hcell hb10 d1'
      clear F9 k9 d0' d1' hb10
      rcases hto with rfl | rfl
      · clear hm hu hr'
        go_wp2_with fail
        have b10 := k10
        have e0 := d0
        have e1 := d1
        go_region_held3 (fun w' => ((Fr w.heap.size w w' ∧ w'.heap[bf]? = some (.cells (cellsF s) 31)) ∧ w'.cell? ⟨bc, 0, none⟩ = some (.bool true)) ∧ w'.cell? ⟨bc, 1, none⟩ = some (.int .i64 (k : Int)))
          (first | exact heldkc ‹_› ‹_› | exact ⟨⟨⟨F10, k10⟩, d0⟩, d1⟩ | exact ⟨⟨⟨F10.drew, k10⟩, d0⟩, d1⟩ | go_keep)
          (first
            | (go_at_call 50; refine (waiting_h X.out ok hL ‹_›).mono ?_; rintro e w' ⟨rfl, hb⟩)
            | (go_at_call 51; refine (wakes_h X.out ok hL ‹_›).mono ?_; rintro e w' ⟨rfl, hb⟩)
            | (go_at_call 52; refine (live24_any _).mono ?_; rintro e w' ⟨rfl, hb⟩))
        rename_i wZ hZ
        go_wp2
        go_ret
        exact ⟨rfl, hZ.1.1.1.1⟩
      · clear hm hu hr'
        go_wp2_with fail
        have b10 := k10
        have e0 := d0
        have e1 := d1
        go_region_held3 (fun w' => ((Fr w.heap.size w w' ∧ w'.heap[bf]? = some (.cells (cellsF s) 31)) ∧ w'.cell? ⟨bc, 0, none⟩ = some (.bool true)) ∧ w'.cell? ⟨bc, 1, none⟩ = some (.int .i64 (k : Int)))
          (first | exact heldkc ‹_› ‹_› | exact ⟨⟨⟨F10, k10⟩, d0⟩, d1⟩ | exact ⟨⟨⟨F10.drew, k10⟩, d0⟩, d1⟩ | go_keep)
          (first
            | (go_at_call 50; refine (waiting_h X.out ok hL ‹_›).mono ?_; rintro e w' ⟨rfl, hb⟩)
            | (go_at_call 51; refine (wakes_h X.out ok hL ‹_›).mono ?_; rintro e w' ⟨rfl, hb⟩)
            | (go_at_call 52; refine (live24_any _).mono ?_; rintro e w' ⟨rfl, hb⟩))
        rename_i wZ hZ
        go_wp2
        go_ret
        exact ⟨rfl, hZ.1.1.1.1⟩
  · obtain ⟨y, hy⟩ : ∃ y, nextOf s 1 L = y := ⟨_, rfl⟩
    have HR := hp 1 (by omega)
    rw [hy] at HR
    have HY := Lib.hid hy
    clear hy hp
    have k4 := keep_alloc kf (.cells #[.int .i64 0, .int .i64 1, .int .i64 3] 37)
    have F4 := F2.alloc (.cells #[.int .i64 0, .int .i64 1, .int .i64 3] 37)
    clear kf F2
    go_wp2_with fail
    refine (next_v HY.out _ ok hL k4).mono ?_
    rintro e w5 ⟨rfl, hb5⟩
    have k5 := keepB hb5 k4
    have F5 := F4.step hb5
    clear k4 F4 hb5
    cases y with
    | none =>
      simp only [causeV]
      go_wp2_with fail
      refine (live24_any _).mono ?_
      rintro e w6 ⟨rfl, hb6⟩
      go_wp2
      go_ret
      exact ⟨rfl, ((F5.alloc (.cells #[.bool false, .int .i64 0] 24)).step hb6).1⟩
    | some c =>
      obtain ⟨⟨k, rfl, hk, hb⟩, hm, hu, hr'⟩ := HR _ rfl
      obtain ⟨tt, htt⟩ : ∃ t, toOf true (k : Int) 1 (getOf s 770 0) (getOf s 771 0) = t := ⟨_, rfl⟩
      rw [← to_getOf, htt] at hu hr'
      have hto := toOf_13 true (k : Int) 1 (getOf s 770 0) (getOf s 771 0)
      rw [htt] at hto
      obtain ⟨x, hx⟩ : ∃ x, waitOf s L = x := ⟨_, rfl⟩
      have hx64 : x < 18446744073709551616 := by rw [← hx]; exact waitOf_lt ok hL
      rw [hx] at hb
      have hbt := bit_test x k hx64
      rw [hb] at hbt
      have hbt2 : (bits .and .u64 ((x : Int) / 2 ^ k) 1 == 1) = true := by rw [← hbt]; simp
      have hwk : IntKind.u64.wrap (k : Int) = (k : Int) := by rw [IntKind.wrap_u64]; omega
      have hk0 : (0 : Int) ≤ k := by omega
      have hk64 : (k : Int) ≤ 64 := by omega
      have hmin : min k 64 = k := by omega
      have hxne : ((x : Int) != 0) = true := by
        have : x ≠ 0 := by rintro rfl; simp at hb
        simp; omega
      obtain ⟨st, hst⟩ : ∃ x, getOf s 768 0 = x := ⟨_, rfl⟩
      have hst64 : st < 18446744073709551616 := by rw [← hst]; exact getOf_lt ok _ _ (by omega)
      rw [show s.g 7 = st from hst] at hm hu
      have d64 : getOf s 770 0 < 18446744073709551616 := getOf_lt ok _ _ (by omega)
      have i64 : getOf s 771 0 < 18446744073709551616 := getOf_lt ok _ _ (by omega)
      have TT := Lib.hid htt
      have X := Lib.hid hx
      have ST := Lib.hid hst
      clear htt hx hst hb HR
      simp only [causeV]
      have k6 := keep_alloc k5 (.cells #[.bool true, .int .i64 (k : Int)] 24)
      have c6 := heap_alloc_new w5 (.cells #[.bool true, .int .i64 (k : Int)] 24)
      have F6 := F5.alloc (.cells #[.bool true, .int .i64 (k : Int)] 24)
      clear k5 F5
      go_wp2_with fail
      obtain ⟨WC, hWC⟩ : ∃ WC, w5.alloc (.cells #[.bool true, .int .i64 (k : Int)] 24) = WC := ⟨_, rfl⟩
      obtain ⟨bc, hbc⟩ : ∃ b, w5.heap.size = b := ⟨_, rfl⟩
      rw [hWC] at k6 c6 F6 ⊢
      rw [hbc] at c6 ⊢
      clear hWC hbc
      obtain ⟨d0, d1⟩ := two_cells c6
      go_region_held3 (fun w' => ((Fr w.heap.size w w' ∧ w'.heap[bf]? = some (.cells (cellsF s) 31)) ∧ w'.cell? ⟨bc, 0, none⟩ = some (.bool true)) ∧ w'.cell? ⟨bc, 1, none⟩ = some (.int .i64 (k : Int)))
        (first | exact heldkc ‹_› ‹_› | exact ⟨⟨⟨F6, k6⟩, d0⟩, d1⟩ | exact ⟨⟨⟨F6.drew, k6⟩, d0⟩, d1⟩ | go_keep)
        (first
          | (go_at_call 17; refine (get_hh ok (L := 0) (by omega) ‹_›).mono ?_; rintro e w' ⟨rfl, hb⟩)
          | (go_at_call 19; refine (cto_v TT.out _ d64 i64).mono ?_; rintro e w' ⟨rfl, hb⟩))
      rename_i w9 hS9
      obtain ⟨⟨⟨F9, k9⟩, d0'⟩, d1'⟩ := hS9
      clear F6 k6 c6 d0 d1
      go_wp2_with fail
      refine (get_v (L := 0) ST.out _ ok (by omega) k9).mono ?_
      rintro e w10 ⟨rfl, hb10⟩
      have F10 := F9.step hb10
      have k10 := keepB hb10 k9
      have d0 := hcell hb10 d0'
      have d1 := hcell hb10 d1'
      clear F9 k9 d0' d1' hb10
      rcases hto with rfl | rfl
      · have hst2 : (bits .and .u64 (st : Int) 2 == 0) = false := and_bit st 1 2 hst64 (by omega) (hu (by trivial) (by trivial)) (by decide)
        clear hm hu hr'
        go_wp2_with fail
        have b10 := k10
        have e0 := d0
        have e1 := d1
        go_region_held3 (fun w' => ((Fr w.heap.size w w' ∧ w'.heap[bf]? = some (.cells (cellsF s) 31)) ∧ w'.cell? ⟨bc, 0, none⟩ = some (.bool true)) ∧ w'.cell? ⟨bc, 1, none⟩ = some (.int .i64 (k : Int)))
          (first | exact heldkc ‹_› ‹_› | exact ⟨⟨⟨F10, k10⟩, d0⟩, d1⟩ | exact ⟨⟨⟨F10.drew, k10⟩, d0⟩, d1⟩ | go_keep)
          (first
            | (go_at_call 50; refine (waiting_h X.out ok hL ‹_›).mono ?_; rintro e w' ⟨rfl, hb⟩)
            | (go_at_call 51; refine (wakes_h X.out ok hL ‹_›).mono ?_; rintro e w' ⟨rfl, hb⟩)
            | (go_at_call 52; refine (live24_any _).mono ?_; rintro e w' ⟨rfl, hb⟩))
        rename_i wZ hZ
        go_wp2
        go_ret
        exact ⟨rfl, hZ.1.1.1.1⟩
      · clear hm hu hr'
        go_wp2_with fail
        have b10 := k10
        have e0 := d0
        have e1 := d1
        go_region_held3 (fun w' => ((Fr w.heap.size w w' ∧ w'.heap[bf]? = some (.cells (cellsF s) 31)) ∧ w'.cell? ⟨bc, 0, none⟩ = some (.bool true)) ∧ w'.cell? ⟨bc, 1, none⟩ = some (.int .i64 (k : Int)))
          (first | exact heldkc ‹_› ‹_› | exact ⟨⟨⟨F10, k10⟩, d0⟩, d1⟩ | exact ⟨⟨⟨F10.drew, k10⟩, d0⟩, d1⟩ | go_keep)
          (first
            | (go_at_call 50; refine (waiting_h X.out ok hL ‹_›).mono ?_; rintro e w' ⟨rfl, hb⟩)
            | (go_at_call 51; refine (wakes_h X.out ok hL ‹_›).mono ?_; rintro e w' ⟨rfl, hb⟩)
            | (go_at_call 52; refine (live24_any _).mono ?_; rintro e w' ⟨rfl, hb⟩))
        rename_i wZ hZ
        go_wp2
        go_ret
        exact ⟨rfl, hZ.1.1.1.1⟩
  · obtain ⟨y, hy⟩ : ∃ y, nextOf s 3 L = y := ⟨_, rfl⟩
    have HR := hp 3 (by omega)
    rw [hy] at HR
    have HY := Lib.hid hy
    clear hy hp
    have k4 := keep_alloc kf (.cells #[.int .i64 0, .int .i64 1, .int .i64 3] 37)
    have F4 := F2.alloc (.cells #[.int .i64 0, .int .i64 1, .int .i64 3] 37)
    clear kf F2
    go_wp2_with fail
    refine (next_v HY.out _ ok hL k4).mono ?_
    rintro e w5 ⟨rfl, hb5⟩
    have k5 := keepB hb5 k4
    have F5 := F4.step hb5
    clear k4 F4 hb5
    cases y with
    | none =>
      simp only [causeV]
      go_wp2_with fail
      refine (live24_any _).mono ?_
      rintro e w6 ⟨rfl, hb6⟩
      go_wp2
      go_ret
      exact ⟨rfl, ((F5.alloc (.cells #[.bool false, .int .i64 0] 24)).step hb6).1⟩
    | some c =>
      obtain ⟨⟨k, rfl, hk, hb⟩, hm, hu, hr'⟩ := HR _ rfl
      obtain ⟨tt, htt⟩ : ∃ t, toOf true (k : Int) 3 (getOf s 770 0) (getOf s 771 0) = t := ⟨_, rfl⟩
      rw [← to_getOf, htt] at hu hr'
      have hto := toOf_13 true (k : Int) 3 (getOf s 770 0) (getOf s 771 0)
      rw [htt] at hto
      obtain ⟨x, hx⟩ : ∃ x, waitOf s L = x := ⟨_, rfl⟩
      have hx64 : x < 18446744073709551616 := by rw [← hx]; exact waitOf_lt ok hL
      rw [hx] at hb
      have hbt := bit_test x k hx64
      rw [hb] at hbt
      have hbt2 : (bits .and .u64 ((x : Int) / 2 ^ k) 1 == 1) = true := by rw [← hbt]; simp
      have hwk : IntKind.u64.wrap (k : Int) = (k : Int) := by rw [IntKind.wrap_u64]; omega
      have hk0 : (0 : Int) ≤ k := by omega
      have hk64 : (k : Int) ≤ 64 := by omega
      have hmin : min k 64 = k := by omega
      have hxne : ((x : Int) != 0) = true := by
        have : x ≠ 0 := by rintro rfl; simp at hb
        simp; omega
      obtain ⟨st, hst⟩ : ∃ x, getOf s 768 0 = x := ⟨_, rfl⟩
      have hst64 : st < 18446744073709551616 := by rw [← hst]; exact getOf_lt ok _ _ (by omega)
      rw [show s.g 7 = st from hst] at hm hu
      have d64 : getOf s 770 0 < 18446744073709551616 := getOf_lt ok _ _ (by omega)
      have i64 : getOf s 771 0 < 18446744073709551616 := getOf_lt ok _ _ (by omega)
      have TT := Lib.hid htt
      have X := Lib.hid hx
      have ST := Lib.hid hst
      clear htt hx hst hb HR
      simp only [causeV]
      have k6 := keep_alloc k5 (.cells #[.bool true, .int .i64 (k : Int)] 24)
      have c6 := heap_alloc_new w5 (.cells #[.bool true, .int .i64 (k : Int)] 24)
      have F6 := F5.alloc (.cells #[.bool true, .int .i64 (k : Int)] 24)
      clear k5 F5
      go_wp2_with fail
      obtain ⟨WC, hWC⟩ : ∃ WC, w5.alloc (.cells #[.bool true, .int .i64 (k : Int)] 24) = WC := ⟨_, rfl⟩
      obtain ⟨bc, hbc⟩ : ∃ b, w5.heap.size = b := ⟨_, rfl⟩
      rw [hWC] at k6 c6 F6 ⊢
      rw [hbc] at c6 ⊢
      clear hWC hbc
      obtain ⟨d0, d1⟩ := two_cells c6
      go_region_held3 (fun w' => ((Fr w.heap.size w w' ∧ w'.heap[bf]? = some (.cells (cellsF s) 31)) ∧ w'.cell? ⟨bc, 0, none⟩ = some (.bool true)) ∧ w'.cell? ⟨bc, 1, none⟩ = some (.int .i64 (k : Int)))
        (first | exact heldkc ‹_› ‹_› | exact ⟨⟨⟨F6, k6⟩, d0⟩, d1⟩ | exact ⟨⟨⟨F6.drew, k6⟩, d0⟩, d1⟩ | go_keep)
        (first
          | (go_at_call 17; refine (get_hh ok (L := 0) (by omega) ‹_›).mono ?_; rintro e w' ⟨rfl, hb⟩)
          | (go_at_call 19; refine (cto_v TT.out _ d64 i64).mono ?_; rintro e w' ⟨rfl, hb⟩))
      rename_i w9 hS9
      obtain ⟨⟨⟨F9, k9⟩, d0'⟩, d1'⟩ := hS9
      clear F6 k6 c6 d0 d1
      go_wp2_with fail
      refine (get_v (L := 0) ST.out _ ok (by omega) k9).mono ?_
      rintro e w10 ⟨rfl, hb10⟩
      have F10 := F9.step hb10
      have k10 := keepB hb10 k9
      have d0 := hcell hb10 d0'
      have d1 := hcell hb10 d1'
      clear F9 k9 d0' d1' hb10
      have hst8 : (bits .and .u64 (st : Int) 8 == 0) = false := and_bit st 3 8 hst64 (by omega) (hm (by trivial)) (by decide)
      obtain rfl : tt = 3 := by omega
      clear hm hu hto hr'
      go_wp2_with fail
      have b10 := k10
      have e0 := d0
      have e1 := d1
      go_region_held3 (fun w' => ((Fr w.heap.size w w' ∧ w'.heap[bf]? = some (.cells (cellsF s) 31)) ∧ w'.cell? ⟨bc, 0, none⟩ = some (.bool true)) ∧ w'.cell? ⟨bc, 1, none⟩ = some (.int .i64 (k : Int)))
        (first | exact heldkc ‹_› ‹_› | exact ⟨⟨⟨F10, k10⟩, d0⟩, d1⟩ | exact ⟨⟨⟨F10.drew, k10⟩, d0⟩, d1⟩ | go_keep)
        (first
          | (go_at_call 50; refine (waiting_h X.out ok hL ‹_›).mono ?_; rintro e w' ⟨rfl, hb⟩)
          | (go_at_call 51; refine (wakes_h X.out ok hL ‹_›).mono ?_; rintro e w' ⟨rfl, hb⟩)
          | (go_at_call 52; refine (live24_any _).mono ?_; rintro e w' ⟨rfl, hb⟩))
      rename_i wZ hZ
      go_wp2
      go_ret
      exact ⟨rfl, hZ.1.1.1.1⟩
theorem irqrises_any (a : Option Addr) (len cap : Nat) (n : Int) (L : Nat) (w : World) (hmax : len ≤ 9223372036854775807) (hn0 : 0 ≤ n) (hn1 : n < 256) (hL : L < 18446744073709551616)
    (hd : ∀ j, j < len → ∃ ad d, a = some ad ∧ ad.block < w.heap.size ∧ OkD d ∧ DeedIn w ad j d) :
    Calls Try.prog 10 #[.slice a len cap, .int .u8 n, .int .u64 (L : Int)] w fun e w' => e = .returned (.bool true) ∧ Below w.heap.size w w' := by
  by_cases h : 30 < len
  · exact irqrises_no a len cap n L w h hmax
  · exact irqrises_yes a len cap n L w (by omega) hn0 hn1 hL hd
end Go.Proofs.Ythkkfdhgpaonjaa
