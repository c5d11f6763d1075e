/- csrfile's Get. -/
import Derived.Test.YthkkfdhgpaonjaaCfB
import Derived.Test.YthkkfdhgpaonjaaCfP
import Derived.Deep.RegionHeld3
namespace Go.Proofs.Ythkkfdhgpaonjaa
open Go.RowKit
set_option linter.unusedSimpArgs false
set_option linter.unusedVariables false

theorem get_nil (n : Int) (L : Nat) (w : World) :
    Calls Try.prog 17 #[.pointer none, .int .i64 n, .int .u64 (L : Int)] w fun e w' => e = .returned (.int .u64 0) ∧ Below w.heap.size w w' := by
  go_enter Try.func17, Try.ntmps17
  go_wp2
  go_ret
  exact ⟨rfl, ((Fr.refl w).alloc _).1⟩

def ixOf (n : Int) : Nat := (ownIx n).getD 0
theorem ixOf_eq {n : Int} (h : (ownIx n).isSome = true) : ownIx n = some (ixOf n) := by
  unfold ixOf; cases hh : ownIx n with
  | none => rw [hh] at h; cases h
  | some k => rfl
theorem get1_h {B b bf : Nat} {s : FS} {n : Int} {w0 w : World} (h : (Fr B w0 w ∧ w.heap[b]? = some (.cells (cellsF s) 31)) ∧ w.cell? ⟨bf, 0, none⟩ = some (.pointer (some ⟨b, 0, none⟩))) (hn : (ownIx n).isSome = true) :
    Calls Try.prog 68 #[.int .i64 n, .pointer (some ⟨bf, 0, none⟩)] w fun e w' => e = .returned (.int .u64 (s.g (ixOf n) : Int)) ∧ Below w.heap.size w w' :=
  get1_any b s n _ bf w (ixOf_eq hn) h.1.2 h.2
theorem view_h {x y : Nat} (h : viewOf x = y) (w : World) (hx : x < 18446744073709551616) :
    Calls Try.prog 70 #[.int .u64 (x : Int)] w fun e w' => e = .returned (.int .u64 (y : Int)) ∧ Below w.heap.size w w' := by
  rw [← h]; exact view_any x w hx
set_option maxRecDepth 100000 in
set_option maxHeartbeats 2000000 in
theorem get_256 (b : Nat) (s : FS) (L : Nat) (w : World) (ok : OkF s) (hL : L < 18446744073709551616) (h : w.heap[b]? = some (.cells (cellsF s) 31)) :
    Calls Try.prog 17 #[.pointer (some ⟨b, 0, none⟩), .int .i64 256, .int .u64 (L : Int)] w fun e w' => e = .returned (.int .u64 (getOf s 256 L : Int)) ∧ Below w.heap.size w w' := by
  obtain ⟨y, hy⟩ : ∃ y, viewOf (s.g (ixOf 768)) = y := ⟨_, rfl⟩
  have hG : Hid (getOf s 256 L = y) := by show _ = _; rw [← hy]; rfl
  have HY := Lib.hid hy
  have hx := ok.g (ixOf 768)
  clear hy
  have hS : (Fr w.heap.size w (w.alloc (.cells #[.pointer (some ⟨b, 0, none⟩)] 40)) ∧ (w.alloc (.cells #[.pointer (some ⟨b, 0, none⟩)] 40)).heap[b]? = some (.cells (cellsF s) 31)) ∧ (w.alloc (.cells #[.pointer (some ⟨b, 0, none⟩)] 40)).cell? ⟨w.heap.size, 0, none⟩ = some (.pointer (some ⟨b, 0, none⟩)) :=
    ⟨⟨(Fr.refl w).alloc _, keep_alloc h _⟩, by rw [cell_at (heap_alloc_new _ _)]; rfl⟩
  have HS := Lib.hid hS
  clear hS
  go_enter Try.func17, Try.ntmps17
  go_wp2_with fail
  refine (get1_h HS.out (by decide)).mono ?_
  rintro e w1 ⟨rfl, hb1⟩
  have h1 := heldk hb1 HS.out
  go_wp2_with fail
  refine (view_h HY.out _ hx).mono ?_
  rintro e w2 ⟨rfl, hb2⟩
  go_wp2
  go_ret
  exact ⟨by rw [hG.out]; rfl, (h1.1.1.step hb2).1⟩
set_option maxRecDepth 100000 in
set_option maxHeartbeats 2000000 in
theorem get_260 (b : Nat) (s : FS) (L : Nat) (w : World) (ok : OkF s) (hL : L < 18446744073709551616) (h : w.heap[b]? = some (.cells (cellsF s) 31)) :
    Calls Try.prog 17 #[.pointer (some ⟨b, 0, none⟩), .int .i64 260, .int .u64 (L : Int)] w fun e w' => e = .returned (.int .u64 (getOf s 260 L : Int)) ∧ Below w.heap.size w w' := by
  obtain ⟨y, hy⟩ : ∃ y, getOf s 260 L = y := ⟨_, rfl⟩
  have hv : bits .and .u64 (s.g (ixOf 772) : Int) (s.g (ixOf 771) : Int) = (y : Int) := by
    rw [← hy]
    exact u64_and_nat (s.g 10) (s.g 9) (ok.g _) (ok.g _)
  have HG := Lib.hid hy
  have HV := Lib.hid hv
  clear hy hv
  have hS : (Fr w.heap.size w (w.alloc (.cells #[.pointer (some ⟨b, 0, none⟩)] 40)) ∧ (w.alloc (.cells #[.pointer (some ⟨b, 0, none⟩)] 40)).heap[b]? = some (.cells (cellsF s) 31)) ∧ (w.alloc (.cells #[.pointer (some ⟨b, 0, none⟩)] 40)).cell? ⟨w.heap.size, 0, none⟩ = some (.pointer (some ⟨b, 0, none⟩)) :=
    ⟨⟨(Fr.refl w).alloc _, keep_alloc h _⟩, by rw [cell_at (heap_alloc_new _ _)]; rfl⟩
  have HS := Lib.hid hS
  clear hS
  go_enter Try.func17, Try.ntmps17
  go_wp2_with fail
  refine (get1_h HS.out (by decide)).mono ?_
  rintro e w1 ⟨rfl, hb1⟩
  have h1 := heldk hb1 HS.out
  have H1 := Lib.hid h1
  clear h1
  go_wp2_with fail
  refine (get1_h H1.out (by decide)).mono ?_
  rintro e w2 ⟨rfl, hb2⟩
  have h2 := heldk hb2 H1.out
  have HF := Lib.hid h2.1.1.1
  clear h2
  go_wp2
  go_ret
  exact ⟨by rw [HG.out, ← HV.out]; rfl, HF.out⟩
set_option maxRecDepth 100000 in
set_option maxHeartbeats 2000000 in
theorem get_836 (b : Nat) (s : FS) (L : Nat) (w : World) (ok : OkF s) (hL : L < 18446744073709551616) (h : w.heap[b]? = some (.cells (cellsF s) 31)) :
    Calls Try.prog 17 #[.pointer (some ⟨b, 0, none⟩), .int .i64 836, .int .u64 (L : Int)] w fun e w' => e = .returned (.int .u64 (getOf s 836 L : Int)) ∧ Below w.heap.size w w' := by
  obtain ⟨y, hy⟩ : ∃ y, getOf s 836 L = y := ⟨_, rfl⟩
  have hv : bits .or .u64 (s.g (ixOf 836) : Int) (bits .and .u64 (L : Int) ((2696 : Nat) : Int)) = (y : Int) := by
    rw [← hy]
    rw [u64_and_nat L 2696 hL (by omega)]
    exact u64_or_nat (s.g 17) (L &&& 2696) (ok.g _) (and_lt hL)
  have HG := Lib.hid hy
  have HV := Lib.hid hv
  clear hy hv
  have hS : (Fr w.heap.size w (w.alloc (.cells #[.pointer (some ⟨b, 0, none⟩)] 40)) ∧ (w.alloc (.cells #[.pointer (some ⟨b, 0, none⟩)] 40)).heap[b]? = some (.cells (cellsF s) 31)) ∧ (w.alloc (.cells #[.pointer (some ⟨b, 0, none⟩)] 40)).cell? ⟨w.heap.size, 0, none⟩ = some (.pointer (some ⟨b, 0, none⟩)) :=
    ⟨⟨(Fr.refl w).alloc _, keep_alloc h _⟩, by rw [cell_at (heap_alloc_new _ _)]; rfl⟩
  have HS := Lib.hid hS
  clear hS
  go_enter Try.func17, Try.ntmps17
  go_wp2_with fail
  refine (get1_h HS.out (by decide)).mono ?_
  rintro e w1 ⟨rfl, hb1⟩
  have h1 := heldk hb1 HS.out
  have h2 := h1
  have HF := Lib.hid h2.1.1.1
  clear h2
  go_wp2
  go_ret
  exact ⟨by rw [HG.out, ← HV.out]; rfl, HF.out⟩
set_option maxRecDepth 100000 in
set_option maxHeartbeats 2000000 in
theorem get_324 (b : Nat) (s : FS) (L : Nat) (w : World) (ok : OkF s) (hL : L < 18446744073709551616) (h : w.heap[b]? = some (.cells (cellsF s) 31)) :
    Calls Try.prog 17 #[.pointer (some ⟨b, 0, none⟩), .int .i64 324, .int .u64 (L : Int)] w fun e w' => e = .returned (.int .u64 (getOf s 324 L : Int)) ∧ Below w.heap.size w w' := by
  obtain ⟨y, hy⟩ : ∃ y, getOf s 324 L = y := ⟨_, rfl⟩
  have hv : bits .and .u64 (bits .or .u64 (s.g (ixOf 836) : Int) (bits .and .u64 (L : Int) ((2696 : Nat) : Int))) (s.g (ixOf 771) : Int) = (y : Int) := by
    rw [← hy]
    rw [u64_and_nat L 2696 hL (by omega)]
    show bits .and .u64 (bits .or .u64 ((s.g 17 : Nat) : Int) ((L &&& 2696 : Nat) : Int)) ((s.g 9 : Nat) : Int) = _
    rw [u64_or_nat (s.g 17) (L &&& 2696) (ok.g _) (and_lt hL)]
    exact u64_and_nat _ (s.g 9) (or_lt64 (ok.g _) (and_lt hL)) (ok.g _)
  have HG := Lib.hid hy
  have HV := Lib.hid hv
  clear hy hv
  have hS : (Fr w.heap.size w (w.alloc (.cells #[.pointer (some ⟨b, 0, none⟩)] 40)) ∧ (w.alloc (.cells #[.pointer (some ⟨b, 0, none⟩)] 40)).heap[b]? = some (.cells (cellsF s) 31)) ∧ (w.alloc (.cells #[.pointer (some ⟨b, 0, none⟩)] 40)).cell? ⟨w.heap.size, 0, none⟩ = some (.pointer (some ⟨b, 0, none⟩)) :=
    ⟨⟨(Fr.refl w).alloc _, keep_alloc h _⟩, by rw [cell_at (heap_alloc_new _ _)]; rfl⟩
  have HS := Lib.hid hS
  clear hS
  go_enter Try.func17, Try.ntmps17
  go_wp2_with fail
  refine (get1_h HS.out (by decide)).mono ?_
  rintro e w1 ⟨rfl, hb1⟩
  have h1 := heldk hb1 HS.out
  have H1 := Lib.hid h1
  clear h1
  go_wp2_with fail
  refine (get1_h H1.out (by decide)).mono ?_
  rintro e w2 ⟨rfl, hb2⟩
  have h2 := heldk hb2 H1.out
  have HF := Lib.hid h2.1.1.1
  clear h2
  go_wp2
  go_ret
  exact ⟨by rw [HG.out, ← HV.out]; rfl, HF.out⟩
set_option maxRecDepth 100000 in
set_option maxHeartbeats 2000000 in
theorem get_3072 (b : Nat) (s : FS) (L : Nat) (w : World) (ok : OkF s) (hL : L < 18446744073709551616) (h : w.heap[b]? = some (.cells (cellsF s) 31)) :
    Calls Try.prog 17 #[.pointer (some ⟨b, 0, none⟩), .int .i64 3072, .int .u64 (L : Int)] w fun e w' => e = .returned (.int .u64 (getOf s 3072 L : Int)) ∧ Below w.heap.size w w' := by
  have hS : (Fr w.heap.size w (w.alloc (.cells #[.pointer (some ⟨b, 0, none⟩)] 40)) ∧ (w.alloc (.cells #[.pointer (some ⟨b, 0, none⟩)] 40)).heap[b]? = some (.cells (cellsF s) 31)) ∧ (w.alloc (.cells #[.pointer (some ⟨b, 0, none⟩)] 40)).cell? ⟨w.heap.size, 0, none⟩ = some (.pointer (some ⟨b, 0, none⟩)) :=
    ⟨⟨(Fr.refl w).alloc _, keep_alloc h _⟩, by rw [cell_at (heap_alloc_new _ _)]; rfl⟩
  have HS := Lib.hid hS
  have hF := hS.1.1.1
  clear hS
  go_enter Try.func17, Try.ntmps17
  go_wp2_with fail
  refine (get1_h HS.out (by decide)).mono ?_
  rintro e w1 ⟨rfl, hb1⟩
  have HF := Lib.hid (heldk hb1 HS.out).1.1.1
  go_wp2
  go_ret
  exact ⟨rfl, HF.out⟩
set_option maxRecDepth 100000 in
set_option maxHeartbeats 2000000 in
theorem get_3074 (b : Nat) (s : FS) (L : Nat) (w : World) (ok : OkF s) (hL : L < 18446744073709551616) (h : w.heap[b]? = some (.cells (cellsF s) 31)) :
    Calls Try.prog 17 #[.pointer (some ⟨b, 0, none⟩), .int .i64 3074, .int .u64 (L : Int)] w fun e w' => e = .returned (.int .u64 (getOf s 3074 L : Int)) ∧ Below w.heap.size w w' := by
  have hS : (Fr w.heap.size w (w.alloc (.cells #[.pointer (some ⟨b, 0, none⟩)] 40)) ∧ (w.alloc (.cells #[.pointer (some ⟨b, 0, none⟩)] 40)).heap[b]? = some (.cells (cellsF s) 31)) ∧ (w.alloc (.cells #[.pointer (some ⟨b, 0, none⟩)] 40)).cell? ⟨w.heap.size, 0, none⟩ = some (.pointer (some ⟨b, 0, none⟩)) :=
    ⟨⟨(Fr.refl w).alloc _, keep_alloc h _⟩, by rw [cell_at (heap_alloc_new _ _)]; rfl⟩
  have HS := Lib.hid hS
  have hF := hS.1.1.1
  clear hS
  go_enter Try.func17, Try.ntmps17
  go_wp2_with fail
  refine (get1_h HS.out (by decide)).mono ?_
  rintro e w1 ⟨rfl, hb1⟩
  have HF := Lib.hid (heldk hb1 HS.out).1.1.1
  go_wp2
  go_ret
  exact ⟨rfl, HF.out⟩
set_option maxRecDepth 100000 in
set_option maxHeartbeats 2000000 in
theorem get_769 (b : Nat) (s : FS) (L : Nat) (w : World) (ok : OkF s) (hL : L < 18446744073709551616) (h : w.heap[b]? = some (.cells (cellsF s) 31)) :
    Calls Try.prog 17 #[.pointer (some ⟨b, 0, none⟩), .int .i64 769, .int .u64 (L : Int)] w fun e w' => e = .returned (.int .u64 (getOf s 769 L : Int)) ∧ Below w.heap.size w w' := by
  have hS : (Fr w.heap.size w (w.alloc (.cells #[.pointer (some ⟨b, 0, none⟩)] 40)) ∧ (w.alloc (.cells #[.pointer (some ⟨b, 0, none⟩)] 40)).heap[b]? = some (.cells (cellsF s) 31)) ∧ (w.alloc (.cells #[.pointer (some ⟨b, 0, none⟩)] 40)).cell? ⟨w.heap.size, 0, none⟩ = some (.pointer (some ⟨b, 0, none⟩)) :=
    ⟨⟨(Fr.refl w).alloc _, keep_alloc h _⟩, by rw [cell_at (heap_alloc_new _ _)]; rfl⟩
  have HS := Lib.hid hS
  have hF := hS.1.1.1
  clear hS
  go_enter Try.func17, Try.ntmps17
  go_wp2
  go_ret
  exact ⟨rfl, hF⟩
set_option maxRecDepth 100000 in
set_option maxHeartbeats 2000000 in
theorem get_3860 (b : Nat) (s : FS) (L : Nat) (w : World) (ok : OkF s) (hL : L < 18446744073709551616) (h : w.heap[b]? = some (.cells (cellsF s) 31)) :
    Calls Try.prog 17 #[.pointer (some ⟨b, 0, none⟩), .int .i64 3860, .int .u64 (L : Int)] w fun e w' => e = .returned (.int .u64 (getOf s 3860 L : Int)) ∧ Below w.heap.size w w' := by
  have HV := Lib.hid (hartW_val s.hart)
  have HG : Hid (getOf s 3860 L = hartW s.hart) := rfl
  obtain ⟨c0, -, -, cl, cf⟩ := knownF (keep_alloc h (.cells #[.pointer (some ⟨b, 0, none⟩)] 40))
  have hS : (Fr w.heap.size w (w.alloc (.cells #[.pointer (some ⟨b, 0, none⟩)] 40)) ∧ (w.alloc (.cells #[.pointer (some ⟨b, 0, none⟩)] 40)).heap[b]? = some (.cells (cellsF s) 31)) ∧ (w.alloc (.cells #[.pointer (some ⟨b, 0, none⟩)] 40)).cell? ⟨w.heap.size, 0, none⟩ = some (.pointer (some ⟨b, 0, none⟩)) :=
    ⟨⟨(Fr.refl w).alloc _, keep_alloc h _⟩, by rw [cell_at (heap_alloc_new _ _)]; rfl⟩
  have HS := Lib.hid hS
  have hF := hS.1.1.1
  clear hS
  go_enter Try.func17, Try.ntmps17
  go_wp2
  go_ret
  exact ⟨by rw [HG.out, ← HV.out]; rfl, hF⟩

set_option maxRecDepth 100000 in
set_option maxHeartbeats 2000000 in
theorem get_else (b : Nat) (s : FS) (n : Int) (L : Nat) (w : World) (ok : OkF s) (hL : L < 18446744073709551616) (h : w.heap[b]? = some (.cells (cellsF s) 31))
    (h1 : n ≠ 256) (h2 : n ≠ 260) (h3 : n ≠ 324) (h4 : n ≠ 836) (h5 : n ≠ 769) (h6 : n ≠ 3072) (h7 : n ≠ 3074) (h8 : n ≠ 3860) :
    Calls Try.prog 17 #[.pointer (some ⟨b, 0, none⟩), .int .i64 n, .int .u64 (L : Int)] w fun e w' => e = .returned (.int .u64 (getOf s n L : Int)) ∧ Below w.heap.size w w' := by
  have b1 : (n == 256) = false := by simpa using h1
  have b2 : (n == 260) = false := by simpa using h2
  have b3 : (n == 324) = false := by simpa using h3
  have b4 : (n == 836) = false := by simpa using h4
  have b5 : (n == 769) = false := by simpa using h5
  have b6 : (n == 3072) = false := by simpa using h6
  have b7 : (n == 3074) = false := by simpa using h7
  have b8 : (n == 3860) = false := by simpa using h8
  have HG : Hid (getOf s n L = match ownIx n with | some i => s.g i | none => 0) := by show _ = _; unfold getOf; rw [if_neg h1, if_neg h2, if_neg h3, if_neg h4, if_neg h5, if_neg h6, if_neg h7, if_neg h8]; rfl
  clear h1 h2 h3 h4 h5 h6 h7 h8
  have hS : (Fr w.heap.size w (w.alloc (.cells #[.pointer (some ⟨b, 0, none⟩)] 40)) ∧ (w.alloc (.cells #[.pointer (some ⟨b, 0, none⟩)] 40)).heap[b]? = some (.cells (cellsF s) 31)) ∧ (w.alloc (.cells #[.pointer (some ⟨b, 0, none⟩)] 40)).cell? ⟨w.heap.size, 0, none⟩ = some (.pointer (some ⟨b, 0, none⟩)) :=
    ⟨⟨(Fr.refl w).alloc _, keep_alloc h _⟩, by rw [cell_at (heap_alloc_new _ _)]; rfl⟩
  have HS := Lib.hid hS
  have hF := hS.1.1.1
  clear hS
  cases hn : ownIx n with
  | none =>
    have HN := Lib.hid hn
    rw [hn] at HG
    clear hn
    go_enter Try.func17, Try.ntmps17
    go_wp2_with fail
    refine (word_none HN.out _ HS.out.1.2).mono ?_
    rintro e w1 ⟨rfl, hb1⟩
    have HF := Lib.hid (heldk hb1 HS.out).1.1.1
    go_wp2
    go_ret
    exact ⟨by rw [HG.out]; rfl, HF.out⟩
  | some k =>
    have HN := Lib.hid hn
    rw [hn] at HG
    have hk := (ownIx_lt hn).1
    clear hn
    go_enter Try.func17, Try.ntmps17
    go_wp2_with fail
    refine (word_some HN.out _ HS.out.1.2).mono ?_
    rintro e w1 ⟨rfl, hb1⟩
    have hH := heldk hb1 HS.out
    have hg := knownFg hH.1.2 hk
    have HF := Lib.hid hH.1.1.1
    clear hH
    go_wp2
    go_ret
    exact ⟨by rw [HG.out]; rfl, HF.out⟩
theorem get_any (b : Nat) (s : FS) (n : Int) (L : Nat) (w : World) (ok : OkF s) (hL : L < 18446744073709551616) (h : w.heap[b]? = some (.cells (cellsF s) 31)) :
    Calls Try.prog 17 #[.pointer (some ⟨b, 0, none⟩), .int .i64 n, .int .u64 (L : Int)] w fun e w' => e = .returned (.int .u64 (getOf s n L : Int)) ∧ Below w.heap.size w w' := by
  by_cases h1 : n = 256
  · subst h1; exact get_256 b s L w ok hL h
  by_cases h2 : n = 260
  · subst h2; exact get_260 b s L w ok hL h
  by_cases h3 : n = 324
  · subst h3; exact get_324 b s L w ok hL h
  by_cases h4 : n = 836
  · subst h4; exact get_836 b s L w ok hL h
  by_cases h5 : n = 769
  · subst h5; exact get_769 b s L w ok hL h
  by_cases h6 : n = 3072
  · subst h6; exact get_3072 b s L w ok hL h
  by_cases h7 : n = 3074
  · subst h7; exact get_3074 b s L w ok hL h
  by_cases h8 : n = 3860
  · subst h8; exact get_3860 b s L w ok hL h
  exact get_else b s n L w ok hL h h1 h2 h3 h4 h5 h6 h7 h8
theorem get_v {b : Nat} {s : FS} {n : Int} {L y : Nat} (hy : getOf s n L = y) (w : World) (ok : OkF s) (hL : L < 18446744073709551616) (h : w.heap[b]? = some (.cells (cellsF s) 31)) :
    Calls Try.prog 17 #[.pointer (some ⟨b, 0, none⟩), .int .i64 n, .int .u64 (L : Int)] w fun e w' => e = .returned (.int .u64 (y : Int)) ∧ Below w.heap.size w w' := by
  rw [← hy]; exact get_any b s n L w ok hL h
end Go.Proofs.Ythkkfdhgpaonjaa
