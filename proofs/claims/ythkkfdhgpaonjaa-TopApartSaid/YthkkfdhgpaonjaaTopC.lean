/- T2: TopApart's walk. Printed by wip/gen_top.py. -/
import Derived.Test.YthkkfdhgpaonjaaTopB
import Derived.BigQuiet
namespace Go.Proofs.Ythkkfdhgpaonjaa
open Go.RowKit
set_option linter.unusedSimpArgs false
set_option linter.unusedVariables false

attribute [local go_sem ↓] Go.wp_at_zero Go.wp_at_succ
attribute [local simp high] sizeRv zeroRv sizeFv zeroFv sizeDv
theorem getT1 {B b c d e : Nat} {s : FS} {n : Int} {y : Nat} {w0 w : World} {o q r : Obj} {X : Prop} (hy : getOf s n 0 = y) (ok : OkF s) (h : ((((Fr B w0 w ∧ w.heap[b]? = some (.cells (cellsF s) 31)) ∧ w.heap[c]? = some o) ∧ w.heap[d]? = some q) ∧ w.heap[e]? = some r) ∧ X) :
    Calls Try.prog 17 #[.pointer (some ⟨b, 0, none⟩), .int .i64 n, .int .u64 0] w fun e w' => e = .returned (.int .u64 (y : Int)) ∧ Below w.heap.size w w' := get_v (L := 0) hy w ok (by omega) h.1.1.1.1.2
theorem getT2 {B b c d e : Nat} {s : FS} {n : Int} {y : Nat} {w0 w : World} {o q r : Obj} {X : Prop} (hy : getOf s n 0 = y) (ok : OkF s) (h : ((((Fr B w0 w ∧ w.heap[c]? = some o) ∧ w.heap[b]? = some (.cells (cellsF s) 31)) ∧ w.heap[d]? = some q) ∧ w.heap[e]? = some r) ∧ X) :
    Calls Try.prog 17 #[.pointer (some ⟨b, 0, none⟩), .int .i64 n, .int .u64 0] w fun e w' => e = .returned (.int .u64 (y : Int)) ∧ Below w.heap.size w w' := get_v (L := 0) hy w ok (by omega) h.1.1.1.2
theorem heldT {B b c d e : Nat} {w0 w w' : World} {o p q r : Obj} {a : Addr} {v : Value} (hb : Below w.heap.size w w') (h : ((((Fr B w0 w ∧ w.heap[b]? = some o) ∧ w.heap[c]? = some p) ∧ w.heap[d]? = some q) ∧ w.heap[e]? = some r) ∧ w.cell? a = some v) :
    ((((Fr B w0 w' ∧ w'.heap[b]? = some o) ∧ w'.heap[c]? = some p) ∧ w'.heap[d]? = some q) ∧ w'.heap[e]? = some r) ∧ w'.cell? a = some v := ⟨⟨heldS hb h.1.1, keepB hb h.1.2⟩, hcell hb h.2⟩
theorem getT3 {B b c d : Nat} {s : FS} {n : Int} {y : Nat} {w0 w : World} {o q : Obj} {X : Prop} (hy : getOf s n 0 = y) (ok : OkF s) (h : (((Fr B w0 w ∧ w.heap[b]? = some (.cells (cellsF s) 31)) ∧ w.heap[c]? = some o) ∧ w.heap[d]? = some q) ∧ X) :
    Calls Try.prog 17 #[.pointer (some ⟨b, 0, none⟩), .int .i64 n, .int .u64 0] w fun e w' => e = .returned (.int .u64 (y : Int)) ∧ Below w.heap.size w w' := get_v (L := 0) hy w ok (by omega) h.1.1.1.2
theorem heldT2 {B b c d : Nat} {w0 w w' : World} {o p q : Obj} {a a' : Addr} {v v' : Value} (hb : Below w.heap.size w w') (h : (((Fr B w0 w ∧ w.heap[b]? = some o) ∧ w.heap[c]? = some p) ∧ w.heap[d]? = some q) ∧ w.cell? a = some v ∧ w.cell? a' = some v') :
    (((Fr B w0 w' ∧ w'.heap[b]? = some o) ∧ w'.heap[c]? = some p) ∧ w'.heap[d]? = some q) ∧ w'.cell? a = some v ∧ w'.cell? a' = some v' := ⟨heldS hb h.1, hcell hb h.2.1, hcell hb h.2.2⟩
set_option maxRecDepth 100000 in
set_option maxHeartbeats 16000000 in
theorem topapart_yes (a : Option Addr) (len cap : Nat) (i : Bool) (c p : Int) (pc tv L : Nat) (w : World) (hl : len ≤ 30) (hp : p = 0 ∨ p = 1 ∨ p = 3) (hpc : pc < 18446744073709551616) (htv : tv < 18446744073709551616) (hL : L < 18446744073709551616)
    (hd : ∀ j, j < len → ∃ ad d, a = some ad ∧ ad.block < w.heap.size ∧ OkD d ∧ DeedIn w ad j d) :
    Calls Try.prog 3 #[.slice a len cap, .agg #[.bool i, .int .i64 c, .int .i64 p, .int .u64 (pc : Int), .int .u64 (tv : Int)], .int .u64 (L : Int)] w fun e w' => e = .returned (.bool true) ∧ Below w.heap.size w w' := by
  have HD : ∀ j, j < len → ∃ ad d, a = some ad ∧ ad.block < (w.alloc (.cells #[.bool i, .int .i64 c, .int .i64 p, .int .u64 (pc : Int), .int .u64 (tv : Int)] 27)).heap.size ∧ OkD d ∧ DeedIn (w.alloc (.cells #[.bool i, .int .i64 c, .int .i64 p, .int .u64 (pc : Int), .int .u64 (tv : Int)] 27)) ad j d := by
    intro j hj
    obtain ⟨ad, d, e, hb, od, hdd⟩ := hd j hj
    exact ⟨ad, d, e, by simp; omega, od, hdd.keep ((Fr.refl w).alloc (.cells #[.bool i, .int .i64 c, .int .i64 p, .int .u64 (pc : Int), .int .u64 (tv : Int)] 27)).1 hb⟩
  have F0 := (Fr.refl w).alloc (.cells #[.bool i, .int .i64 c, .int .i64 p, .int .u64 (pc : Int), .int .u64 (tv : Int)] 27)
  have k0 := heap_alloc_new w (.cells #[.bool i, .int .i64 c, .int .i64 p, .int .u64 (pc : Int), .int .u64 (tv : Int)] 27)
  have hp' := Lib.hid hp
  have l1 := zeroRv
  have l2 := sizeRv
  have l3 := size_cellsR
  have m1 := zeroFv
  have m2 := sizeFv
  have m3 := size_cellsF
  clear hd
  have hg : (p != 0) = false ∨ ((p != 0) = true ∧ (p != 1) = false) ∨ ((p != 0) = true ∧ (p != 1) = true ∧ (p != 3) = false) := by
    rcases hp with rfl | rfl | rfl
    · exact Or.inl rfl
    · exact Or.inr (Or.inl ⟨rfl, rfl⟩)
    · exact Or.inr (Or.inr ⟨rfl, rfl, rfl⟩)
  clear hp
  rcases hg with b0 | ⟨b0, b1⟩ | ⟨b0, b1, b3⟩
  all_goals
    go_enter Try.func3, Try.ntmps3
    go_wp2_with fail
    refine (files_any a len cap _ (by omega) HD).mono ?_
    rintro e w1 ⟨s, ok, al, rfl, hb1⟩
    obtain ⟨tt, hto⟩ : ∃ x, entTo s i c p = x := ⟨_, rfl⟩
    obtain ⟨s1, hs1⟩ : ∃ x, entS s i c p pc tv = x := ⟨_, rfl⟩
    obtain ⟨v, hv⟩ : ∃ x, entV s i c p = x := ⟨_, rfl⟩
    have ok1 : OkF s1 := by rw [← hs1]; exact ok.ent _ _ _ _ _
    have hoth : ∀ k, k < 3 → getOf s1 (otherN tt k) 0 = getOf s (otherN tt k) 0 := by
      intro k hk; rw [← hs1, ← hto]; exact others_same s i c p pc tv k hk
    have h13 := entTo_13 s i c p
    rw [hto] at h13
    have HT := Lib.hid hto
    have HS1 := Lib.hid hs1
    have HV := Lib.hid hv
    have HAL := Lib.hid al
    clear hto hs1 hv al
    have F1 := F0.step hb1
    have k1 := keepB hb1 k0
    have hlt := lt_of_at k1
    have ka := keep_alloc (heap_alloc_new w1 (.cells (cellsF zeroF) 31)) (.cells (cellsR zeroF) 34)
    have sa := stF Try.prog ka s
    have kz : ((w1.alloc (.cells (cellsF zeroF) 31)).alloc (.cells (cellsR zeroF) 34)).heap[w1.heap.size + 1]? = some (.cells (cellsR zeroF) 34) := by simpa using heap_alloc_new (w1.alloc (.cells (cellsF zeroF) 31)) (.cells (cellsR zeroF) 34)
    have hn1 : w1.heap.size ≠ w1.heap.size + 1 := by omega
    have hn2 : w1.heap.size + 1 ≠ w1.heap.size := by omega
    have hn3 : w1.heap.size ≠ w.heap.size := by omega
    have hn4 : w1.heap.size + 1 ≠ w.heap.size := by omega
    have hB1 : w.heap.size ≤ w1.heap.size := by omega
    have hB2 : w.heap.size ≤ w1.heap.size + 1 := by omega
    have sb := stR Try.prog (keep_row kz hn1 (cellsF s)) s
    have kf := keep_row (row_at ka (cellsF s)) hn2 (cellsR s)
    have kt := keep_row (keep_row (keep_alloc (keep_alloc k1 (.cells (cellsF zeroF) 31)) (.cells (cellsR zeroF) 34)) hn3 (cellsF s)) hn4 (cellsR s)
    have F2 := ((((F1.alloc (.cells (cellsF zeroF) 31)).alloc (.cells (cellsR zeroF) 34)).row hB1 (cellsF s)).row hB2 (cellsR s))
    have hsz : ((((w1.alloc (.cells (cellsF zeroF) 31)).alloc (.cells (cellsR zeroF) 34)).setRow w1.heap.size (cellsF s)).setRow (w1.heap.size + 1) (cellsR s)).heap.size = w1.heap.size + 2 := by simp [World.setRow]
    clear k0 k1 F0 F1 ka kz hb1 HD
    go_upto_region 4 with fail
    obtain ⟨WB, hWB⟩ : ∃ WB, ((((w1.alloc (.cells (cellsF zeroF) 31)).alloc (.cells (cellsR zeroF) 34)).setRow w1.heap.size (cellsF s)).setRow (w1.heap.size + 1) (cellsR s)) = WB := ⟨_, rfl⟩
    obtain ⟨bf, hbf⟩ : ∃ b, w1.heap.size = b := ⟨_, rfl⟩
    rw [hWB] at kf kt F2 hsz ⊢
    rw [hbf] at kf hsz hB1 hn3 hlt ⊢
    clear sa sb hn1 hn2 hn4 hWB hbf hB2
    have lF := ldF (P := Try.prog) kf
    have l4 := stnF WB zeroF s
    rw [hsz] at l4
    have k2 := keep_alloc kf (.cells (cellsF s) 31)
    have t2 := keep_alloc kt (.cells (cellsF s) 31)
    have o2 := heap_alloc_new WB (.cells (cellsF s) 31)
    rw [hsz] at o2
    have F3 := F2.alloc (.cells (cellsF s) 31)
    go_upto_region 5 with fail
    obtain ⟨WC, hWC⟩ : ∃ WC, WB.alloc (.cells (cellsF s) 31) = WC := ⟨_, rfl⟩
    rw [hWC] at k2 t2 o2 F3 ⊢
    obtain ⟨bo, hbo⟩ : ∃ b, bf + 2 = b := ⟨_, rfl⟩
    have hof : bo ≠ bf := by omega
    rw [hbo] at o2 hsz ⊢
    clear lF l4 kf kt F2 hWC hsz hbo
    obtain ⟨c0, c1, c2, c3, c4⟩ := cellT t2
    go_wp2_with fail
    clear c0 c1 c2 c3 c4
    refine (tenter_v HT.out HS1.out HV.out _ ok hpc htv k2).mono ?_
    rintro e w4 ⟨rfl, k4, WE4⟩
    have t4 := WE4.2 _ _ hn3.symm t2
    have o4 := WE4.2 _ _ hof o2
    have F4 := fr_of WE4 hB1 F3
    clear k2 t2 o2 F3 WE4
    rcases h13 with rfl | rfl
    all_goals
      go_wp2
      first
        | (obtain ⟨WL, hWL⟩ : ∃ WL, ((w4.alloc (.cells #[.int .i64 833, .int .i64 834, .int .i64 835] 3)).alloc (.cells #[.int .i64 321, .int .i64 322, .int .i64 323] 3)) = WL := ⟨_, rfl⟩
           have k5 := keep_alloc (keep_alloc k4 (.cells #[.int .i64 833, .int .i64 834, .int .i64 835] 3)) (.cells #[.int .i64 321, .int .i64 322, .int .i64 323] 3)
           have t5 := keep_alloc (keep_alloc t4 (.cells #[.int .i64 833, .int .i64 834, .int .i64 835] 3)) (.cells #[.int .i64 321, .int .i64 322, .int .i64 323] 3)
           have o5 := keep_alloc (keep_alloc o4 (.cells #[.int .i64 833, .int .i64 834, .int .i64 835] 3)) (.cells #[.int .i64 321, .int .i64 322, .int .i64 323] 3)
           have F5 := (F4.alloc (.cells #[.int .i64 833, .int .i64 834, .int .i64 835] 3)).alloc (.cells #[.int .i64 321, .int .i64 322, .int .i64 323] 3)
           have h5 : ((w4.alloc (.cells #[.int .i64 833, .int .i64 834, .int .i64 835] 3)).alloc (.cells #[.int .i64 321, .int .i64 322, .int .i64 323] 3)).heap[w4.heap.size + 1]? = some (.cells #[.int .i64 321, .int .i64 322, .int .i64 323] 3) := by simpa using heap_alloc_new (w4.alloc (.cells #[.int .i64 833, .int .i64 834, .int .i64 835] 3)) (.cells #[.int .i64 321, .int .i64 322, .int .i64 323] 3)
           have e0 : getOf s1 321 0 = getOf s 321 0 := hoth 0 (by omega)
           have e1 : getOf s1 322 0 = getOf s 322 0 := hoth 1 (by omega)
           have e2 : getOf s1 323 0 = getOf s 323 0 := hoth 2 (by omega)
           rw [hWL] at k5 t5 o5 F5 h5 ⊢
           obtain ⟨bl, hbl⟩ : ∃ b, w4.heap.size + 1 = b := ⟨_, rfl⟩
           rw [hbl] at h5 ⊢
           obtain ⟨n0, hn0⟩ : ∃ x : Int, 321 = x := ⟨_, rfl⟩
           obtain ⟨n1, hn1⟩ : ∃ x : Int, 322 = x := ⟨_, rfl⟩
           obtain ⟨n2, hn2⟩ : ∃ x : Int, 323 = x := ⟨_, rfl⟩
           rw [hn0] at h5 e0
           rw [hn1] at h5 e1
           rw [hn2] at h5 e2)
        | (obtain ⟨WL, hWL⟩ : ∃ WL, (w4.alloc (.cells #[.int .i64 833, .int .i64 834, .int .i64 835] 3)) = WL := ⟨_, rfl⟩
           have k5 := keep_alloc k4 (.cells #[.int .i64 833, .int .i64 834, .int .i64 835] 3)
           have t5 := keep_alloc t4 (.cells #[.int .i64 833, .int .i64 834, .int .i64 835] 3)
           have o5 := keep_alloc o4 (.cells #[.int .i64 833, .int .i64 834, .int .i64 835] 3)
           have F5 := F4.alloc (.cells #[.int .i64 833, .int .i64 834, .int .i64 835] 3)
           have h5 := heap_alloc_new w4 (.cells #[.int .i64 833, .int .i64 834, .int .i64 835] 3)
           have e0 : getOf s1 833 0 = getOf s 833 0 := hoth 0 (by omega)
           have e1 : getOf s1 834 0 = getOf s 834 0 := hoth 1 (by omega)
           have e2 : getOf s1 835 0 = getOf s 835 0 := hoth 2 (by omega)
           rw [hWL] at k5 t5 o5 F5 h5 ⊢
           obtain ⟨bl, hbl⟩ : ∃ b, w4.heap.size = b := ⟨_, rfl⟩
           rw [hbl] at h5 ⊢
           obtain ⟨n0, hn0⟩ : ∃ x : Int, 833 = x := ⟨_, rfl⟩
           obtain ⟨n1, hn1⟩ : ∃ x : Int, 834 = x := ⟨_, rfl⟩
           obtain ⟨n2, hn2⟩ : ∃ x : Int, 835 = x := ⟨_, rfl⟩
           rw [hn0] at h5 e0
           rw [hn1] at h5 e1
           rw [hn2] at h5 e2)
      clear hWL hbl hn0 hn1 hn2 k4 t4 o4 F4 hoth
      have E0 := Lib.hid e0
      have E1 := Lib.hid e1
      have E2 := Lib.hid e2
      clear e0 e1 e2
      go_loopw [14] (fun ix wr => ∃ kk : Nat, kk ≤ 3 ∧ ix = .int .i64 kk ∧ (((Fr w.heap.size w wr ∧ wr.heap[bf]? = some (.cells (cellsF s1) 31)) ∧ wr.heap[bo]? = some (.cells (cellsF s) 31)) ∧ wr.heap[w.heap.size]? = some (.cells #[.bool i, .int .i64 c, .int .i64 p, .int .u64 (pc : Int), .int .u64 (tv : Int)] 27)) ∧ wr.heap[bl]? = some (.cells #[.int .i64 n0, .int .i64 n1, .int .i64 n2] 3)) (fun ix _ => 3 - (intOf ix).toNat)
      case atStart => exact ⟨0, by omega, rfl, ⟨⟨⟨F5, k5⟩, o5⟩, t5⟩, h5⟩
      case round =>
        clear k5 t5 o5 F5 h5
        obtain ⟨kk, hkk, rfl, hS⟩ := hrel
        by_cases hlt3 : kk < 3
        · obtain ⟨n, hc, hE⟩ : ∃ n, wr.cell? ⟨bl, kk, none⟩ = some (.int .i64 n) ∧ getOf s1 n 0 = getOf s n 0 := by
            have hk' : kk = 0 ∨ kk = 1 ∨ kk = 2 := by omega
            rcases hk' with rfl | rfl | rfl
            · exact ⟨n0, by rw [cell_at hS.2]; rfl, E0.out⟩
            · exact ⟨n1, by rw [cell_at hS.2]; rfl, E1.out⟩
            · exact ⟨n2, by rw [cell_at hS.2]; rfl, E2.out⟩
          obtain ⟨y, hy⟩ : ∃ y, getOf s n 0 = y := ⟨_, rfl⟩
          rw [hy] at hE
          have X1 := Lib.hid hE
          have X2 := Lib.hid hy
          have hk34 : (kk : Int) < 3 := by omega
          have hk0 : (0 : Int) ≤ kk := by omega
          obtain ⟨⟨⟨⟨f0, kf0⟩, ko0⟩, kt0⟩, kl0⟩ := hS
          clear hE hy
          go_wp2_with fail
          go_region_held3 (fun w' => ((((Fr w.heap.size w w' ∧ w'.heap[bf]? = some (.cells (cellsF s1) 31)) ∧ w'.heap[bo]? = some (.cells (cellsF s) 31)) ∧ w'.heap[w.heap.size]? = some (.cells #[.bool i, .int .i64 c, .int .i64 p, .int .u64 (pc : Int), .int .u64 (tv : Int)] 27)) ∧ w'.heap[bl]? = some (.cells #[.int .i64 n0, .int .i64 n1, .int .i64 n2] 3)) ∧ w'.cell? ⟨bl, kk, none⟩ = some (.int .i64 n))
            (first | exact heldT ‹_› ‹_› | exact ⟨⟨⟨⟨⟨f0.drew, kf0⟩, ko0⟩, kt0⟩, kl0⟩, hc⟩ | go_keep)
            (first
              | (go_at_call 17; refine (getT1 X1.out ok1 ‹_›).mono ?_; rintro e w' ⟨rfl, hb⟩)
              | (go_at_call 17; refine (getT2 X2.out ok ‹_›).mono ?_; rintro e w' ⟨rfl, hb⟩))
          rename_i w9 hS9
          have hS9 := hS9.1
          clear f0 kf0 ko0 kt0 kl0 hc
          go_wp2
          go_roundw
          case rel => exact ⟨kk + 1, by omega, by go_num, hS9⟩
          case measure => simp [intOf]; omega
        · obtain ⟨⟨⟨⟨F6, -⟩, o6⟩, t6⟩, -⟩ := hS
          have lF := ldF (P := Try.prog) o6
          have l4 := stnF wr zeroF s
          have kg7 := heap_alloc_new wr (.cells (cellsF s) 31)
          have t7 := keep_alloc t6 (.cells (cellsF s) 31)
          have F7 := F6.alloc (.cells (cellsF s) 31)
          have hbt : w.heap.size ≠ wr.heap.size := by have := lt_of_at t6; omega
          have hBg : w.heap.size ≤ wr.heap.size := F6.2
          clear o6 t6 F6
          go_upto_region 16 with fail
          obtain ⟨WG, hWG⟩ : ∃ WG, wr.alloc (.cells (cellsF s) 31) = WG := ⟨_, rfl⟩
          obtain ⟨bg, hbg⟩ : ∃ b, wr.heap.size = b := ⟨_, rfl⟩
          rw [hWG] at kg7 t7 F7 ⊢
          rw [hbg] at kg7 hbt hBg ⊢
          clear hWG hbg lF l4
          obtain ⟨z, hz⟩ : ∃ x, nextOf s p L = x := ⟨_, rfl⟩
          have Z := Lib.hid hz
          clear hz
          go_wp2_with fail
          refine (next_v Z.out _ ok hL kg7).mono ?_
          rintro e w7 ⟨rfl, hb7⟩
          have kg8 := keepB hb7 kg7
          have t8 := keepB hb7 t7
          have F8 := F7.step hb7
          clear kg7 t7 F7 hb7
          cases z with
          | none =>
            simp only [causeV]
            have F9 := F8.alloc (.cells #[.bool false, .int .i64 0] 24)
            go_wp2_with fail
            refine (entered_any _).mono ?_
            rintro e w9 ⟨rfl, hb9⟩
            go_wp2
            go_ret
            exact ⟨rfl, (F9.step hb9).1⟩
          | some c2 =>
            simp only [causeV]
            obtain ⟨ta, hta⟩ : ∃ x, entTo s true c2 p = x := ⟨_, rfl⟩
            obtain ⟨s3, hs3⟩ : ∃ x, entS s true c2 p pc 0 = x := ⟨_, rfl⟩
            obtain ⟨v3, hv3⟩ : ∃ x, entV s true c2 p = x := ⟨_, rfl⟩
            obtain ⟨s4, hs4⟩ : ∃ x, lvS s3 ta = x := ⟨_, rfl⟩
            obtain ⟨q, hq⟩ : ∃ x, pc / 4 * 4 = x := ⟨_, rfl⟩
            obtain ⟨z2, hz2⟩ : ∃ x, nextOf s3 ta L = x := ⟨_, rfl⟩
            have hbits := base_val pc hpc
            rw [hq] at hbits
            have HQ : Hid (lvTo s3 ta = p) := by show _ = _; rw [← hs3, ← hta]; exact back_to s true c2 _ pc 0 hp'.out
            have HPC : Hid (lvPc s3 ta = q) := by show _ = _; rw [← hs3, ← hta, ← hq]; exact back_pc HAL.out true c2 _ pc 0 hpc
            have N4 : Hid (nextOf s4 p L = some c2) := by show _ = _; rw [← hs4, ← hs3, ← hta, next_back hp'.out]; exact Z.out
            have hin : ∀ y, z2 = some y → toOf true y ta 0 (getOf s3 771 0) ≠ ta := by
              intro y e
              rw [e] at hz2
              rw [← hs3, ← hta] at hz2 ⊢
              exact next_within ok hp'.out hz2
            have ok3 : OkF s3 := by rw [← hs3]; exact ok.ent _ _ _ _ _
            have ok4 : OkF s4 := by rw [← hs4]; exact ok3.lv _
            obtain ⟨d7, hd7⟩ : ∃ x, getOf s3 771 0 = x := ⟨_, rfl⟩
            have d64 : d7 < 18446744073709551616 := by rw [← hd7]; exact getOf_lt ok3 _ _ (by omega)
            rw [hd7] at hin
            have HIN := Lib.hid hin
            have TA := Lib.hid hta
            have HS3 := Lib.hid hs3
            have HV3 := Lib.hid hv3
            have HS4 := Lib.hid hs4
            have Z2 := Lib.hid hz2
            have D7 := Lib.hid hd7
            clear hta hs3 hv3 hs4 hq hz2 hd7 hin
            have kg9 := keep_alloc kg8 (.cells #[.bool true, .int .i64 c2] 24)
            have t9 := keep_alloc t8 (.cells #[.bool true, .int .i64 c2] 24)
            have c9 := heap_alloc_new w7 (.cells #[.bool true, .int .i64 c2] 24)
            have F9 := F8.alloc (.cells #[.bool true, .int .i64 c2] 24)
            have hbc : w7.heap.size ≠ bg := by have := lt_of_at kg8; omega
            clear kg8 t8 F8
            go_upto_region 19 with fail
            obtain ⟨bc, hbcE⟩ : ∃ b, w7.heap.size = b := ⟨_, rfl⟩
            obtain ⟨WH, hWH⟩ : ∃ WH, w7.alloc (.cells #[.bool true, .int .i64 c2] 24) = WH := ⟨_, rfl⟩
            rw [hWH] at kg9 t9 c9 F9 ⊢
            rw [hbcE] at c9 hbc ⊢
            clear hWH hbcE
            obtain ⟨c0, c1, c2', c3, c4⟩ := cellT t9
            obtain ⟨d0, d1⟩ := two_cells c9
            go_wp2_with fail
            clear c0 c1 c2' c3 c4 d0 d1
            refine (tenter_v (tv := 0) TA.out HS3.out HV3.out _ ok hpc (by omega) kg9).mono ?_
            rintro e w10 ⟨rfl, kg10, WE10⟩
            have t10 := WE10.2 _ _ hbt t9
            have c10 := WE10.2 _ _ hbc c9
            have F10 := fr_of WE10 hBg F9
            clear kg9 t9 c9 F9 WE10
            go_wp2_with fail
            refine (next_v Z2.out _ ok3 hL kg10).mono ?_
            rintro e w11 ⟨rfl, hb11⟩
            have kg11 := keepB hb11 kg10
            have t11 := keepB hb11 t10
            have c11 := keepB hb11 c10
            have F11 := F10.step hb11
            clear kg10 t10 c10 F10 hb11
            cases z2 with
            | none =>
              simp only [causeV]
              have kg12 := keep_alloc kg11 (.cells #[.bool false, .int .i64 0] 24)
              have t12 := keep_alloc t11 (.cells #[.bool false, .int .i64 0] 24)
              have c12 := keep_alloc c11 (.cells #[.bool false, .int .i64 0] 24)
              have F12 := F11.alloc (.cells #[.bool false, .int .i64 0] 24)
              clear kg11 t11 c11 F11
              go_wp2_with fail
              go_quiet (fail)
              go_wp2_with fail
              refine (tleave_v HQ.out HS4.out HPC.out _ ok3 (by exact kg12)).mono ?_
              rintro e w20 ⟨rfl, kg20, WE20⟩
              have kt20 := WE20.2 _ _ hbt (by exact t12)
              have kc20 := WE20.2 _ _ hbc (by exact c12)
              have F20 := fr_of WE20 hBg (by first | exact F12 | exact Fr.drewN F12 _)
              clear kg12 t12 c12 F12 WE20
              go_wp2_with fail
              refine (next_v N4.out _ ok4 hL kg20).mono ?_
              rintro e w21 ⟨rfl, hb21⟩
              simp only [causeV]
              have kt22 := keep_alloc (keepB hb21 kt20) (.cells #[.bool true, .int .i64 c2] 24)
              have kc22 := keep_alloc (keepB hb21 kc20) (.cells #[.bool true, .int .i64 c2] 24)
              have kd22 := heap_alloc_new w21 (.cells #[.bool true, .int .i64 c2] 24)
              have F22 := (F20.step hb21).alloc (.cells #[.bool true, .int .i64 c2] 24)
              obtain ⟨c0, c1, c2', c3, c4⟩ := cellT kt22
              obtain ⟨d0, d1⟩ := two_cells kc22
              obtain ⟨f0, f1⟩ := two_cells kd22
              clear kg20 kt20 kc20 F20 hb21
              go_wp2_with fail
              refine (entered_any _).mono ?_
              rintro e w23 ⟨rfl, hb23⟩
              clear c0 c1 c2' c3 c4 d0 d1 f0 f1
              go_wp2
              go_ret
              exact ⟨rfl, (F22.step hb23).1⟩
            | some c3 =>
              simp only [causeV]
              have kg12 := keep_alloc kg11 (.cells #[.bool true, .int .i64 c3] 24)
              have t12 := keep_alloc t11 (.cells #[.bool true, .int .i64 c3] 24)
              have c12 := keep_alloc c11 (.cells #[.bool true, .int .i64 c3] 24)
              have e12 := heap_alloc_new w11 (.cells #[.bool true, .int .i64 c3] 24)
              have F12 := F11.alloc (.cells #[.bool true, .int .i64 c3] 24)
              obtain ⟨t3, ht3⟩ : ∃ x, toOf true c3 ta 0 d7 = x := ⟨_, rfl⟩
              have hne3 := HIN.out c3 rfl
              rw [ht3] at hne3
              have hne3' : (t3 == ta) = false := by simpa using hne3
              have T3 := Lib.hid ht3
              obtain ⟨g0, g1⟩ := two_cells e12
              clear kg11 t11 c11 F11 ht3 hne3 e12
              go_wp2_with fail
              obtain ⟨WI, hWI⟩ : ∃ WI, w11.alloc (.cells #[.bool true, .int .i64 c3] 24) = WI := ⟨_, rfl⟩
              obtain ⟨be, hbe⟩ : ∃ b, w11.heap.size = b := ⟨_, rfl⟩
              rw [hWI] at kg12 t12 c12 F12 g0 g1 ⊢
              rw [hbe] at g0 g1 ⊢
              clear hWI hbe
              go_region_held3 (fun w' => (((Fr w.heap.size w w' ∧ w'.heap[bg]? = some (.cells (cellsF s3) 31)) ∧ w'.heap[w.heap.size]? = some (.cells #[.bool i, .int .i64 c, .int .i64 p, .int .u64 (pc : Int), .int .u64 (tv : Int)] 27)) ∧ w'.heap[bc]? = some (.cells #[.bool true, .int .i64 c2] 24)) ∧ w'.cell? ⟨be, 0, none⟩ = some (.bool true) ∧ w'.cell? ⟨be, 1, none⟩ = some (.int .i64 c3))
                (first | exact heldT2 ‹_› ‹_› | exact ⟨⟨⟨⟨F12, kg12⟩, t12⟩, c12⟩, g0, g1⟩ | exact ⟨⟨⟨⟨F12.drew, kg12⟩, t12⟩, c12⟩, g0, g1⟩ | go_keep)
                (first
                  | (go_at_call 17; refine (getT3 D7.out ok3 ‹_›).mono ?_; rintro e w' ⟨rfl, hb⟩)
                  | (go_at_call 19; refine (cto_v (d := 0) T3.out _ (by omega) d64).mono ?_; rintro e w' ⟨rfl, hb⟩))
              rename_i w13 hS13
              obtain ⟨⟨⟨⟨F13, kg13⟩, t13⟩, c13⟩, -, -⟩ := hS13
              clear F12 kg12 t12 c12 g0 g1
              go_wp2_with fail
              refine (tleave_v HQ.out HS4.out HPC.out _ ok3 (by exact kg13)).mono ?_
              rintro e w20 ⟨rfl, kg20, WE20⟩
              have kt20 := WE20.2 _ _ hbt (by exact t13)
              have kc20 := WE20.2 _ _ hbc (by exact c13)
              have F20 := fr_of WE20 hBg (by first | exact F13 | exact Fr.drewN F13 _)
              clear kg13 t13 c13 F13 WE20
              go_wp2_with fail
              refine (next_v N4.out _ ok4 hL kg20).mono ?_
              rintro e w21 ⟨rfl, hb21⟩
              simp only [causeV]
              have kt22 := keep_alloc (keepB hb21 kt20) (.cells #[.bool true, .int .i64 c2] 24)
              have kc22 := keep_alloc (keepB hb21 kc20) (.cells #[.bool true, .int .i64 c2] 24)
              have kd22 := heap_alloc_new w21 (.cells #[.bool true, .int .i64 c2] 24)
              have F22 := (F20.step hb21).alloc (.cells #[.bool true, .int .i64 c2] 24)
              obtain ⟨c0, c1, c2', c3, c4⟩ := cellT kt22
              obtain ⟨d0, d1⟩ := two_cells kc22
              obtain ⟨f0, f1⟩ := two_cells kd22
              clear kg20 kt20 kc20 F20 hb21
              go_wp2_with fail
              refine (entered_any _).mono ?_
              rintro e w23 ⟨rfl, hb23⟩
              clear c0 c1 c2' c3 c4 d0 d1 f0 f1
              go_wp2
              go_ret
              exact ⟨rfl, (F22.step hb23).1⟩
theorem topapart_any (a : Option Addr) (len cap : Nat) (i : Bool) (c p : Int) (pc tv L : Nat) (w : World) (hmax : len ≤ 9223372036854775807) (hpc : pc < 18446744073709551616) (htv : tv < 18446744073709551616) (hL : L < 18446744073709551616)
    (hd : ∀ j, j < len → ∃ ad d, a = some ad ∧ ad.block < w.heap.size ∧ OkD d ∧ DeedIn w ad j d) :
    Calls Try.prog 3 #[.slice a len cap, .agg #[.bool i, .int .i64 c, .int .i64 p, .int .u64 (pc : Int), .int .u64 (tv : Int)], .int .u64 (L : Int)] w fun e w' => e = .returned (.bool true) ∧ Below w.heap.size w w' := by
  by_cases h : 30 < len ∨ (p ≠ 0 ∧ p ≠ 1 ∧ p ≠ 3)
  · exact topapart_no a len cap i c p pc tv L w h hmax
  · exact topapart_yes a len cap i c p pc tv L w (by omega) (by omega) hpc htv hL hd
end Go.Proofs.Ythkkfdhgpaonjaa
