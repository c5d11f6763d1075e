/- Layer 22's law: live, Do, Same. -/
import Derived.Test.YthkkfdhgpaonjaaCfN
namespace Go.Proofs.Ythkkfdhgpaonjaa
open Go.RowKit
set_option linter.unusedSimpArgs false
set_option linter.unusedVariables false

attribute [local simp high] sizeRv zeroRv sizeFv zeroFv
attribute [local go_sem ↓] Go.wp_at_zero Go.wp_at_succ
/-- A deed. -/
structure DD where
  kd : Int
  op : Int
  rd : Int
  rs1 : Int
  rs2 : Int
  imm : Int
  n : Int
  aq : Bool
  rl : Bool
  v : Nat
  L : Nat
  r : Bool
structure OkD (d : DD) : Prop where
  v : d.v < 18446744073709551616
  L : d.L < 18446744073709551616
def cellsD (d : DD) : Array Value := #[.int .i64 d.kd, .int .i64 d.op, .int .i64 d.rd, .int .i64 d.rs1, .int .i64 d.rs2, .int .i64 d.imm, .int .i64 d.n, .bool d.aq, .bool d.rl, .int .u64 (d.v : Int), .int .u64 (d.L : Int), .bool d.r]
def stepOf (s : FS) (d : DD) : FS := if d.kd = 0 then setOf s d.n d.v else if d.kd = 1 then doS s d.op d.n d.rs1 d.v else turnOf s d.r
def resOf (s : FS) (d : DD) : Nat := if d.kd = 1 then doR s d.op d.n d.L else 0
theorem OkF.step {s : FS} (ok : OkF s) (d : DD) : OkF (stepOf s d) := by
  unfold stepOf
  split
  · exact ok.set _ _
  split
  · exact ok.do _ _ _ _
  · exact ok.turn _
theorem fr_of {B b : Nat} {w0 w w' : World} (hW : Wrote b w w') (hB : B ≤ b) (h : Fr B w0 w) : Fr B w0 w' := hW.1 B w0 hB h

/-- 'live' -/
def liveS : FS := setOf (setOf (newF 3) 771 2) 772 10
theorem live1 : getOf (newF 3) 3860 0 = 3 := by decide +kernel
theorem live2 : getOf liveS 260 0 = 2 := by decide +kernel
theorem live3 : getOf liveS 324 8 = 0 := by decide +kernel
set_option maxRecDepth 100000 in
set_option maxHeartbeats 4000000 in
theorem live22_any (w : World) :
    Calls Try.prog 39 #[] w fun e w' => e = .returned (.bool true) ∧ Below w.heap.size w w' := by
  have ok0 := OkF.new 3 (by omega) (by omega)
  have ok1 := ok0.set 771 2
  have ok2 := ok1.set 772 10
  obtain ⟨s1, hs1⟩ : ∃ s1, setOf (newF 3) 771 2 = s1 := ⟨_, rfl⟩
  obtain ⟨s2, hs2⟩ : ∃ s2, setOf s1 772 10 = s2 := ⟨_, rfl⟩
  have h2 : s2 = liveS := by rw [← hs2, ← hs1]; rfl
  have G2 : Hid (getOf s2 260 0 = 2) := by show _ = _; rw [h2]; exact live2
  have G3 : Hid (getOf s2 324 8 = 0) := by show _ = _; rw [h2]; exact live3
  rw [hs1] at ok1 ok2
  rw [hs2] at ok2
  have H1 := Lib.hid hs1
  have H2 := Lib.hid hs2
  obtain ⟨s0, hs0⟩ : ∃ s0, newF 3 = s0 := ⟨_, rfl⟩
  have G1 : Hid (getOf s0 3860 0 = 3) := by show _ = _; rw [← hs0]; exact live1
  rw [hs0] at H1 ok0
  have H0 := Lib.hid hs0
  clear hs0 hs1 hs2 h2
  have l1 := zeroFv
  have l2 := sizeFv
  have l3 := size_cellsF
  have l4 := stnF
  go_enter Try.func39, Try.ntmps39
  go_wp2_with fail
  refine (newF_any 3 _).mono ?_
  rw [H0.out]
  rintro e w1 ⟨rfl, hb1⟩
  have k1 := heap_alloc_new w1 (.cells (cellsF s0) 31)
  have F1 := ((Fr.refl w).step hb1).alloc (.cells (cellsF s0) 31)
  have hB : w.heap.size ≤ w1.heap.size := hb1.size
  go_wp2_with fail
  refine (get_v (L := 0) G1.out _ ok0 (by omega) k1).mono ?_
  rintro e w2 ⟨rfl, hb2⟩
  have k2 := keepB hb2 k1
  have F2 := F1.step hb2
  clear l4
  go_wp2_with fail
  refine (set_v (v := 2) H1.out _ ok0 (by omega) k2).mono ?_
  rintro e w3 ⟨⟨v3, rfl⟩, k3, W3⟩
  have F3 := fr_of W3 hB F2
  go_wp2_with fail
  refine (set_v (v := 10) H2.out _ ok1 (by omega) k3).mono ?_
  rintro e w4 ⟨⟨v4, rfl⟩, k4, W4⟩
  have F4 := fr_of W4 hB F3
  go_wp2_with fail
  refine (get_v (L := 0) G2.out _ ok2 (by omega) k4).mono ?_
  rintro e w5 ⟨rfl, hb5⟩
  have k5 := keepB hb5 k4
  have F5 := F4.step hb5
  go_wp2_with fail
  refine (get_v (L := 8) G3.out _ ok2 (by omega) k5).mono ?_
  rintro e w6 ⟨rfl, hb6⟩
  have F6 := Lib.hid (F5.step hb6).1
  go_wp2
  go_ret
  exact ⟨rfl, F6.out⟩

theorem heldS {w w' : World} {B b c d : Nat} {o p q : Obj} {w0 : World} (hb : Below w.heap.size w w') (h : ((Fr B w0 w ∧ w.heap[b]? = some o) ∧ w.heap[c]? = some p) ∧ w.heap[d]? = some q) : ((Fr B w0 w' ∧ w'.heap[b]? = some o) ∧ w'.heap[c]? = some p) ∧ w'.heap[d]? = some q := ⟨heldR2 hb h.1, keepB hb h.2⟩
theorem get_h {B b : Nat} {s : FS} {n : Int} {L y : Nat} {w0 w : World} {c d : Nat} {p q : Obj} {a1 : Addr} {v1 : Value} (hy : getOf s n L = y) (ok : OkF s) (hL : L < 18446744073709551616)
    (h : (((Fr B w0 w ∧ w.heap[b]? = some (.cells (cellsF s) 31)) ∧ w.heap[c]? = some p) ∧ w.heap[d]? = some q) ∧ w.cell? a1 = some v1) :
    Calls Try.prog 17 #[.pointer (some ⟨b, 0, none⟩), .int .i64 n, .int .u64 (L : Int)] w fun e w' => e = .returned (.int .u64 (y : Int)) ∧ Below w.heap.size w w' := get_v hy w ok hL h.1.1.1.2
theorem heldSc {w w' : World} {B b c d : Nat} {o p q : Obj} {a1 : Addr} {v1 : Value} {w0 : World} (hb : Below w.heap.size w w') (h : (((Fr B w0 w ∧ w.heap[b]? = some o) ∧ w.heap[c]? = some p) ∧ w.heap[d]? = some q) ∧ w.cell? a1 = some v1) : (((Fr B w0 w' ∧ w'.heap[b]? = some o) ∧ w'.heap[c]? = some p) ∧ w'.heap[d]? = some q) ∧ w'.cell? a1 = some v1 := ⟨heldS hb h.1, hcell hb h.2⟩
theorem tab0 (s : FS) (L : Nat) : getOf s 0 L = 0 := by unfold getOf; simp; rfl
set_option maxRecDepth 100000 in
set_option maxHeartbeats 4000000 in
theorem same_any (b : Nat) (s : FS) (L : Nat) (w : World) (ok : OkF s) (hL : L < 18446744073709551616) (h : w.heap[b]? = some (.cells (cellsF s) 31)) :
    Calls Try.prog 43 #[.pointer (some ⟨b, 0, none⟩), .agg (cellsR s), .int .u64 (L : Int)] w fun e w' => e = .returned (.bool true) ∧ Below w.heap.size w w' := by
  have l2 := sizeRv
  go_enter Try.func43, Try.ntmps43
  go_wp2_with fail
  refine (rrows_any _).mono ?_
  rintro e w1 ⟨rfl, rfl⟩
  go_wp2
  obtain ⟨wS, hwS⟩ : ∃ wS, wS = (w.alloc (.cells (cellsR s) 34)).alloc (.cells cells19 52) := ⟨_, rfl⟩
  have hf : Fr w.heap.size w wS := by rw [hwS]; exact ((Fr.refl w).alloc _).alloc _
  have hc : wS.heap[b]? = some (.cells (cellsF s) 31) := by rw [hwS]; exact keep_alloc (keep_alloc h _) _
  have hx : wS.heap[w.heap.size]? = some (.cells (cellsR s) 34) := by rw [hwS]; exact keep_alloc (heap_alloc_new _ _) _
  have ht : wS.heap[w.heap.size + 1]? = some (.cells cells19 52) := by rw [hwS]; simpa using heap_alloc_new (w.alloc (.cells (cellsR s) 34)) (.cells cells19 52)
  rw [← hwS]
  clear hwS
  go_loopw [8] (fun i wr => ∃ k : Nat, k ≤ 34 ∧ i = .int .i64 k ∧ ((Fr w.heap.size w wr ∧ wr.heap[b]? = some (.cells (cellsF s) 31)) ∧ wr.heap[w.heap.size]? = some (.cells (cellsR s) 34)) ∧ wr.heap[w.heap.size + 1]? = some (.cells cells19 52)) (fun i _ => 34 - (intOf i).toNat)
  case atStart => exact ⟨0, by omega, rfl, ⟨⟨hf, hc⟩, hx⟩, ht⟩
  case round =>
    obtain ⟨k, hk, rfl, hS⟩ := hrel
    by_cases hlt : k < 34
    · obtain ⟨c0, -, -⟩ := cells19_at hS.2 k hlt
      obtain ⟨n, hn⟩ : ∃ n, (tab19.getD k default).1 = n := ⟨_, rfl⟩
      rw [hn] at c0
      obtain ⟨y, hy⟩ : ∃ y, getOf s n L = y := ⟨_, rfl⟩
      have HY := Lib.hid hy
      have hk34 : (k : Int) < 34 := by omega
      have hk0 : (0 : Int) ≤ k := by omega
      have hS1 := hS.1.1.1
      have hS2 := hS.1.1.2
      have hS3 := hS.1.2
      have hS4 := hS.2
      have lsA : ∀ w' : World, w'.heap[w.heap.size]? = some (.cells (cellsR s) 34) → (loadCellsFrom ⟨w.heap.size, 0, none⟩ 0 szR #[]).run Try.prog w' = .ok (cellsR s) w' := fun w' h => ldR h
      clear hn hy hS hf hc hx ht
      go_wp2_with fail
      go_region_held3 (fun w' => (((Fr w.heap.size w w' ∧ w'.heap[b]? = some (.cells (cellsF s) 31)) ∧ w'.heap[w.heap.size]? = some (.cells (cellsR s) 34)) ∧ w'.heap[w.heap.size + 1]? = some (.cells cells19 52)) ∧ w'.cell? ⟨w.heap.size + 1, k * 3, none⟩ = some (.int .i64 n))
        (first | exact heldSc ‹_› ‹_› | exact ⟨⟨⟨⟨hS1.drew, hS2⟩, hS3⟩, hS4⟩, c0⟩ | go_keep)
        (first
          | (go_at_call 17; refine (get_h HY.out ok hL ‹_›).mono ?_; rintro e w' ⟨rfl, hb⟩)
          | (go_at_call 86; refine (rget_v HY.out _ ok hL).mono ?_; rintro e w' ⟨rfl, hb⟩))
      rename_i w9 hS9
      have hS9 := hS9.1
      go_wp2
      go_roundw
      case rel => exact ⟨k + 1, by omega, by go_num, hS9⟩
      case measure => simp [intOf]; omega
    · have T0 := Lib.hid (tab0 s L)
      go_wp2_with fail
      refine (get_v T0.out _ ok hL hS.1.1.2).mono ?_
      rintro e w2 ⟨rfl, hb2⟩
      have F2 := Lib.hid (hS.1.1.1.step hb2).1
      go_wp2
      go_ret
      exact ⟨rfl, F2.out⟩
end Go.Proofs.Ythkkfdhgpaonjaa
