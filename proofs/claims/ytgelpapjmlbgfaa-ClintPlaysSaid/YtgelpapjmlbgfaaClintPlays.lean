/- ClintPlays: the walk. -/
import Derived.Test.YtgelpapjmlbgfaaClK
import Derived.Test.YtgelpapjmlbgfaaSlice
import Derived.Test.YtgelpapjmlbgfaaLift
namespace Go.Proofs.Ytgelpapjmlbgfaa
open Go.RowKit Go.ChangeShapes Go.WideShapes
set_option linter.unusedSimpArgs false
set_option linter.unusedVariables false
attribute [local simp high] size27 zero27 size41 zero41

set_option maxRecDepth 100000 in
set_option maxHeartbeats 2000000 in
theorem plays_long (n : Int) (a : Option Addr) (len cap : Nat) (hart : Int) (w : World) (hl : 100 < len) (hmax : len ≤ 9223372036854775807) :
    Calls Try.prog 5 #[.int .i64 n, .slice a len cap, .int .i64 hart] w fun e w' => e = .returned (.bool true) ∧ Below w.heap.size w w' := by
  go_enter Try.func5, Try.ntmps5
  go_wp2_with fail
  refine (live15_any _).mono ?_
  rintro e w1 ⟨rfl, hb1⟩
  go_wp2
  go_ret
  exact ⟨rfl, hb1⟩

theorem add_block (a : Addr) (n : Nat) : (a.add n).block = a.block := by unfold Addr.add; split <;> rfl
/-- A deed in memory. -/
structure DeedAt (w : World) (ad : Addr) (i : Nat) (kd : Int) (off : Nat) (sz : Int) (v : Nat) : Prop where
  c0 : w.cell? (ad.add (i * 4)) = some (.int .i64 kd)
  c1 : w.cell? ⟨(ad.add (i * 4)).block, (ad.add (i * 4)).off + 1, none⟩ = some (.int .u64 (off : Int))
  c2 : w.cell? ⟨(ad.add (i * 4)).block, (ad.add (i * 4)).off + 2, none⟩ = some (.int .i64 sz)
  c3 : w.cell? ⟨(ad.add (i * 4)).block, (ad.add (i * 4)).off + 3, none⟩ = some (.int .u64 (v : Int))
  ho : off < 18446744073709551616
  hv : v < 18446744073709551616

theorem lt_of_cell {w : World} {a : Addr} {v : Value} (h : w.cell? a = some v) : a.block < w.heap.size := by
  rcases Nat.lt_or_ge a.block w.heap.size with h1 | h1
  · exact h1
  · simp [World.cell?, Array.getElem?_eq_none h1] at h
theorem cellsOfD : Try.prog.cellsOf 44 = 4 := by kernel_rfl
def Deeds (w : World) (a : Option Addr) (len : Nat) : Prop := ∀ i, i < len → ∃ ad kd off sz v, a = some ad ∧ ad.block < w.heap.size ∧ DeedAt w ad i kd off sz v
theorem deeds_of {H : Type} {enc : TypeId × Value → H} {w : World} {base : Nat} {spare : Nat → Bool} {held : Bool} {a : Option Addr} {len cap : Nat} {d : DataW H} {p : List MemPlace}
    (h : DataW.Trod enc Try.prog w base spare held 39 (.slice a len cap) d p) : len ≤ 9223372036854775807 ∧ Deeds w a len := by
  rcases slice_leafs Try.underlying39 h with ⟨-, rfl, -⟩ | ⟨ad, rfl, hb, hl, hm, hx⟩
  · exact ⟨by omega, fun i hi => by omega⟩
  · refine ⟨by unfold maxLen at hm; omega, fun i hi => ?_⟩
    obtain ⟨cs, hsz, hc, hlf⟩ := hx i hi
    rw [cellsOfD] at hsz hc
    obtain ⟨n0, e0, w0⟩ := leaf_int 3 0 hlf (by kernel_rfl) (by kernel_rfl) Try.underlying3
    obtain ⟨n1, e1, w1⟩ := leaf_int 22 1 hlf (by kernel_rfl) (by kernel_rfl) Try.underlying22
    obtain ⟨n2, e2, w2⟩ := leaf_int 3 2 hlf (by kernel_rfl) (by kernel_rfl) Try.underlying3
    obtain ⟨n3, e3, w3⟩ := leaf_int 22 3 hlf (by kernel_rfl) (by kernel_rfl) Try.underlying22
    obtain ⟨off, rfl, hoff⟩ := u64_nat w1
    obtain ⟨v, rfl, hv⟩ := u64_nat w3
    have h0 := hc 0 (by omega)
    have h1 := hc 1 (by omega)
    have h2 := hc 2 (by omega)
    have h3 := hc 3 (by omega)
    rw [e0] at h0
    rw [e1] at h1
    rw [e2] at h2
    rw [e3] at h3
    have hlt := lt_of_cell h0
    rw [add_block, add_block] at hlt
    refine ⟨ad, n0, off, n2, v, rfl, hlt, ⟨?_, ?_, ?_, ?_, hoff, hv⟩⟩
    · exact h0
    · simpa [Addr.add] using h1
    · simpa [Addr.add] using h2
    · simpa [Addr.add] using h3
theorem atV_form (sp : Sp) (q : Bool) (hq : isSp sp = q) : ∃ (a b c : Int), atV sp = .tuple #[.int .i64 a, .int .i64 b, .int .i64 c] ∧ decide (0 < a) = q := by
  subst hq
  cases sp with
  | no => exact ⟨_, _, _, rfl, rfl⟩
  | soft h => exact ⟨_, _, _, rfl, rfl⟩
  | cmp h k => exact ⟨_, _, _, rfl, rfl⟩
  | time k => exact ⟨_, _, _, rfl, rfl⟩
theorem at_w {n size : Int} {off : Nat} {v : Value} (hs : atV (spot n off size) = v) (w : World) (hoff : off < 18446744073709551616) (hn0 : 0 ≤ n) (hn8 : n ≤ 8) :
    Calls Try.prog 17 #[.int .i64 n, .int .u64 (off : Int), .int .i64 size] w fun e w' => e = .returned v ∧ w' = w := by
  rw [← hs]; exact at_any n size off w hoff hn0 hn8
theorem fits_v {n size : Int} {off : Nat} {q : Bool} (hq : isSp (spot (newC n).n off size) = q) (w : World) (hoff : off < 18446744073709551616) :
    Calls Try.prog 18 #[.int .i64 n, .int .u64 (off : Int), .int .i64 size] w fun e w' => e = .returned (.bool q) ∧ Below w.heap.size w w' := by
  rw [← hq]; exact fits_any n size off w hoff
theorem rread_v {s : CS} {off : Nat} {size : Int} {x : Nat} {q : Bool} (hr : readOf s (spot s.n off size) = (x, q)) (w : World) (hoff : off < 18446744073709551616) (ok : OkC s) :
    Calls Try.prog 19 #[.agg (cellsC s), .int .u64 (off : Int), .int .i64 size] w fun e w' => e = .returned (.tuple #[.int .u64 (x : Int), .bool q]) ∧ Below w.heap.size w w' := by
  have := rread_any s off size w hoff ok
  rw [hr] at this
  exact this
theorem rwrite_v {s s' : CS} {off : Nat} {size : Int} {v : Nat} {q : Bool} (hr : writeOf s v (spot s.n off size) = (s', q)) (w : World) (hoff : off < 18446744073709551616) (hv : v < 18446744073709551616) (ok : OkC s) :
    Calls Try.prog 20 #[.agg (cellsC s), .int .u64 (off : Int), .int .i64 size, .int .u64 (v : Int)] w fun e w' => e = .returned (.tuple #[.agg (cellsC s'), .bool q]) ∧ Below w.heap.size w w' := by
  have := rwrite_any s off size v w hoff hv ok
  rw [hr] at this
  exact this
theorem rtick_v {s s' : CS} {n : Int} (hs : tickOf s n = s') (w : World) (hn : n ≤ 9223372036854775807) (ok : OkC s) :
    Calls Try.prog 21 #[.agg (cellsC s), .int .i64 n] w fun e w' => e = .returned (.agg (cellsC s')) ∧ Below w.heap.size w w' := by
  rw [← hs]; exact rtick_any s n w hn ok
theorem rlines_v {s : CS} {i : Int} {x : Nat} (hx : linesOf s i = x) (w : World) (ok : OkC s) :
    Calls Try.prog 22 #[.agg (cellsC s), .int .i64 i] w fun e w' => e = .returned (.int .u64 (x : Int)) ∧ Below w.heap.size w w' := by
  rw [← hx]; exact rlines_any s i w ok
theorem held2B {w w' : World} {B : Nat} {w0 : World} {b c : Nat} {o p : Obj} (hb : Below w.heap.size w w') (h : Fr B w0 w ∧ w.heap[b]? = some o ∧ w.heap[c]? = some p) : Fr B w0 w' ∧ w'.heap[b]? = some o ∧ w'.heap[c]? = some p := ⟨h.1.step hb, keepB hb h.2.1, keepB hb h.2.2⟩

theorem time_v2 {b : Nat} {s : CS} {x : Nat} (hx : s.t = x) (w : World) (h : w.heap[b]? = some (.cells (cellsC s) 27)) :
    Calls Try.prog 11 #[.pointer (some ⟨b, 0, none⟩)] w fun e w' => e = .returned (.int .u64 (x : Int)) ∧ w' = w := by
  rw [← hx]; exact time_any b s w h
theorem time_h {w0 w : World} {B b c d : Nat} {s : CS} {x : Nat} {p r : Obj} {a0 : Addr} {v0 : Value} (hx : s.t = x) (h : Fr B w0 w ∧ w.heap[b]? = some (.cells (cellsC s) 27) ∧ w.heap[c]? = some p ∧ w.heap[d]? = some r ∧ w.cell? a0 = some v0) :
    Calls Try.prog 11 #[.pointer (some ⟨b, 0, none⟩)] w fun e w' => e = .returned (.int .u64 (x : Int)) ∧ w' = w := time_v2 hx w h.2.1
theorem lines_h {w0 w : World} {B b c d : Nat} {s : CS} {i : Int} {x : Nat} {p r : Obj} {a0 : Addr} {v0 : Value} (hx : linesOf s i = x) (ok : OkC s) (h : Fr B w0 w ∧ w.heap[b]? = some (.cells (cellsC s) 27) ∧ w.heap[c]? = some p ∧ w.heap[d]? = some r ∧ w.cell? a0 = some v0) :
    Calls Try.prog 12 #[.pointer (some ⟨b, 0, none⟩), .int .i64 i] w fun e w' => e = .returned (.int .u64 (x : Int)) ∧ Below w.heap.size w w' := lines_v hx w ok h.2.1
theorem write_n (s : CS) (v : Nat) (sp : Sp) : (writeOf s v sp).1.n = s.n := by cases sp <;> rfl
theorem tick_n (s : CS) (n : Int) : (tickOf s n).n = s.n := by unfold tickOf; split <;> rfl
theorem eqCk1 (w : World) : (binOp BinOp.eql 27 (.agg (cellsC (newC 1))) (.agg (cellsC (newC 1)))).run Try.prog w = .ok (.bool true) w := by kernel_rfl
theorem eqCk2 (w : World) : (binOp BinOp.eql 27 (.agg (cellsC (newC 2))) (.agg (cellsC (newC 2)))).run Try.prog w = .ok (.bool true) w := by kernel_rfl
theorem eqCk3 (w : World) : (binOp BinOp.eql 27 (.agg (cellsC (newC 3))) (.agg (cellsC (newC 3)))).run Try.prog w = .ok (.bool true) w := by kernel_rfl
theorem eqCk4 (w : World) : (binOp BinOp.eql 27 (.agg (cellsC (newC 4))) (.agg (cellsC (newC 4)))).run Try.prog w = .ok (.bool true) w := by kernel_rfl
theorem eqCk5 (w : World) : (binOp BinOp.eql 27 (.agg (cellsC (newC 5))) (.agg (cellsC (newC 5)))).run Try.prog w = .ok (.bool true) w := by kernel_rfl
theorem eqCk6 (w : World) : (binOp BinOp.eql 27 (.agg (cellsC (newC 6))) (.agg (cellsC (newC 6)))).run Try.prog w = .ok (.bool true) w := by kernel_rfl
theorem eqCk7 (w : World) : (binOp BinOp.eql 27 (.agg (cellsC (newC 7))) (.agg (cellsC (newC 7)))).run Try.prog w = .ok (.bool true) w := by kernel_rfl
theorem eqCk8 (w : World) : (binOp BinOp.eql 27 (.agg (cellsC (newC 8))) (.agg (cellsC (newC 8)))).run Try.prog w = .ok (.bool true) w := by kernel_rfl
theorem eqCn (n : Int) (w : World) : (binOp BinOp.eql 27 (.agg (cellsC (newC n))) (.agg (cellsC (newC n)))).run Try.prog w = .ok (.bool true) w := by
  by_cases h : n < 1 ∨ 8 < n
  · have e : newC n = zeroC := by unfold newC; rw [if_pos h]
    rw [e]; exact eqC0 w
  · have h8 : n = 1 ∨ n = 2 ∨ n = 3 ∨ n = 4 ∨ n = 5 ∨ n = 6 ∨ n = 7 ∨ n = 8 := by omega
    rcases h8 with rfl | rfl | rfl | rfl | rfl | rfl | rfl | rfl
    · exact eqCk1 w
    · exact eqCk2 w
    · exact eqCk3 w
    · exact eqCk4 w
    · exact eqCk5 w
    · exact eqCk6 w
    · exact eqCk7 w
    · exact eqCk8 w
theorem wrapEq (x : Int) : IntKind.i64.wrap x = wrap64 x := by unfold wrap64; exact IntKind.wrap_i64 x
theorem wrap64_le (x : Int) : wrap64 x ≤ 9223372036854775807 := by
  rw [← wrapEq, IntKind.wrap_i64]; omega
theorem heldF {w w' : World} {B b c d : Nat} {o p r : Obj} {w0 : World} (hb : Below w.heap.size w w') (h : ((Fr B w0 w ∧ w.heap[b]? = some o) ∧ w.heap[c]? = some p) ∧ w.heap[d]? = some r) :
    ((Fr B w0 w' ∧ w'.heap[b]? = some o) ∧ w'.heap[c]? = some p) ∧ w'.heap[d]? = some r := ⟨⟨⟨h.1.1.1.step hb, keepB hb h.1.1.2⟩, keepB hb h.1.2⟩, keepB hb h.2⟩
theorem lines_g {B b c d : Nat} {s : CS} {i : Int} {x : Nat} {w0 w : World} {p r : Obj} (hx : linesOf s i = x) (ok : OkC s) (h : ((Fr B w0 w ∧ w.heap[b]? = some (.cells (cellsC s) 27)) ∧ w.heap[c]? = some p) ∧ w.heap[d]? = some r) :
    Calls Try.prog 12 #[.pointer (some ⟨b, 0, none⟩), .int .i64 i] w fun e w' => e = .returned (.int .u64 (x : Int)) ∧ Below w.heap.size w w' := lines_v hx w ok h.1.1.2
theorem ldn41 (w : World) (s : CS) : (loadCellsFrom ⟨w.heap.size, 0, none⟩ 0 sz18 #[]).run Try.prog (w.alloc (.cells (cellsC s) 41)) = .ok (cellsC s) (w.alloc (.cells (cellsC s) 41)) := ldC (heap_alloc_new _ _)
theorem heldP {w w' : World} {B : Nat} {w0 : World} {b c d : Nat} {o p r : Obj} {a0 : Addr} {v0 : Value} (hb : Below w.heap.size w w') (h : Fr B w0 w ∧ w.heap[b]? = some o ∧ w.heap[c]? = some p ∧ w.heap[d]? = some r ∧ w.cell? a0 = some v0) :
    Fr B w0 w' ∧ w'.heap[b]? = some o ∧ w'.heap[c]? = some p ∧ w'.heap[d]? = some r ∧ w'.cell? a0 = some v0 := ⟨h.1.step hb, keepB hb h.2.1, keepB hb h.2.2.1, keepB hb h.2.2.2.1, hcell hb h.2.2.2.2⟩
theorem ldX (b : Nat) (s : CS) : ∀ w' : World, w'.heap[b]? = some (.cells (cellsC s) 41) → (loadCellsFrom ⟨b, 0, none⟩ 0 sz18 #[]).run Try.prog w' = .ok (cellsC s) w' := fun w' h => ldC h

set_option maxRecDepth 100000 in
set_option maxHeartbeats 4000000 in
theorem plays_short (n : Int) (a : Option Addr) (len cap : Nat) (hart : Int) (w : World) (hl : len ≤ 100)
    (hd : Deeds w a len) :
    Calls Try.prog 5 #[.int .i64 n, .slice a len cap, .int .i64 hart] w fun e w' => e = .returned (.bool true) ∧ Below w.heap.size w w' := by
  have ok := OkC.new n
  obtain ⟨s0, hs0⟩ : ∃ s, newC n = s := ⟨_, rfl⟩
  rw [hs0] at ok
  have HS := Lib.hid hs0
  clear hs0
  have HD := Lib.hid hd
  clear hd
  have a3 := size_cellsC
  have a4 := stn27
  have a5 := stn41
  have a7 := stn27_1
  have a6 : ∀ (w : World) (o : Obj) (s : CS), (loadCellsFrom ⟨w.heap.size, 0, none⟩ 0 sz18 #[]).run Try.prog ((w.alloc (.cells (cellsC s) 27)).alloc o) = .ok (cellsC s) ((w.alloc (.cells (cellsC s) 27)).alloc o) := fun w o s => ldC (keep_alloc (heap_alloc_new _ _) _)
  go_enter Try.func5, Try.ntmps5
  go_wp2_with fail
  refine (new_v HS.out _).mono ?_
  rintro e w1 ⟨rfl, hb1⟩
  go_wp2_with fail
  refine (rnew_v HS.out _).mono ?_
  rintro e w2 ⟨rfl, hb2⟩
  have kc := keepB hb2 (heap_alloc_new w1 (.cells (cellsC s0) 27))
  have hC := (((Fr.refl w).step hb1).alloc (.cells (cellsC s0) 27)).step hb2
  have kc' := keep_alloc kc (.cells (cellsC s0) 41)
  have ld := ldC (P := Try.prog) kc'
  go_wp2
  obtain ⟨wS, hwS⟩ : ∃ wS, wS = (w2.alloc (.cells (cellsC s0) 41)).alloc (.cells (cellsC s0) 27) := ⟨_, rfl⟩
  have hf : Fr w.heap.size w wS := by rw [hwS]; exact (hC.alloc _).alloc _
  have hc : wS.heap[w1.heap.size]? = some (.cells (cellsC s0) 27) := by rw [hwS]; exact keep_alloc kc' _
  have hx : wS.heap[w2.heap.size]? = some (.cells (cellsC s0) 41) := by rw [hwS]; exact keep_alloc (heap_alloc_new _ _) _
  have hw : wS.heap[w2.heap.size + 1]? = some (.cells (cellsC s0) 27) := by rw [hwS]; simpa using heap_alloc_new (w2.alloc (.cells (cellsC s0) 41)) (.cells (cellsC s0) 27)
  have hB1 : w.heap.size ≤ w1.heap.size := hb1.size
  have hB2 : w.heap.size ≤ w2.heap.size := hC.2
  have hlt : w1.heap.size < w2.heap.size := lt_of_at kc
  rw [← hwS]
  clear hwS a4 a5 a7 a6 ld kc kc' hb2
  obtain ⟨bc, hbc⟩ : ∃ bc, bc = w1.heap.size := ⟨_, rfl⟩
  obtain ⟨bx, hbx⟩ : ∃ bx, bx = w2.heap.size := ⟨_, rfl⟩
  rw [← hbc] at hc hB1 hlt ⊢
  rw [← hbx] at hx hw hB2 hlt ⊢
  clear hbc hbx hC hb1
  go_loopw [10] (fun i wr => ∃ (k : Nat) (s : CS), k ≤ len ∧ i = .int .i64 k ∧ OkC s ∧ s.n = s0.n ∧ Fr w.heap.size w wr ∧ wr.heap[bc]? = some (.cells (cellsC s) 27) ∧ wr.heap[bx]? = some (.cells (cellsC s) 41) ∧ wr.heap[bx + 1]? = some (.cells (cellsC s0) 27)) (fun i _ => 100 - (intOf i).toNat)
  case atStart => exact ⟨0, s0, by omega, rfl, ok, rfl, hf, hc, hx, hw⟩
  case round =>
    obtain ⟨k, s, hk, rfl, oks, hsn, hfr, kc, kx, kw⟩ := hrel
    by_cases hlt : k < len
    · obtain ⟨ad, kd, off, sz, v, rfl, had, hd⟩ := HD.out k hlt
      have d0 := (hfr.1.cell (p := ad.add (k * 4)) (by rw [add_block]; exact had)).trans hd.c0
      have d1 := (hfr.1.cell (p := ⟨(ad.add (k * 4)).block, (ad.add (k * 4)).off + 1, none⟩) (by rw [add_block]; exact had)).trans hd.c1
      have d2 := (hfr.1.cell (p := ⟨(ad.add (k * 4)).block, (ad.add (k * 4)).off + 2, none⟩) (by rw [add_block]; exact had)).trans hd.c2
      have d3 := (hfr.1.cell (p := ⟨(ad.add (k * 4)).block, (ad.add (k * 4)).off + 3, none⟩) (by rw [add_block]; exact had)).trans hd.c3
      have hoff := hd.ho
      have hv := hd.hv
      clear hd
      obtain ⟨x0, x1, xl, xf⟩ := knownC kx
      obtain ⟨q, hq⟩ : ∃ q, isSp (spot s0.n off sz) = q := ⟨_, rfl⟩
      obtain ⟨a, b', c', hat, hpos⟩ := atV_form _ q hq
      have HAT := Lib.hid hat
      have HQ : Hid (isSp (spot (newC n).n off sz) = q) := by show _ = _; rw [HS.out]; exact hq
      have HPOS := Lib.hid hpos
      have n8 := ok.n8
      have n0 := ok.n0
      clear hq hat hpos
      go_wp2_with fail
      refine (at_w HAT.out _ hoff n0 n8).mono ?_
      rintro e w3 ⟨rfl, rfl⟩
      go_wp2_with fail
      refine (fits_v HQ.out _ hoff).mono ?_
      rintro e w4 ⟨rfl, hb4⟩
      have kx_old := kx
      have hfr := (hfr.alloc (.cells #[.int .i64 kd, .int .u64 (off : Int), .int .i64 sz, .int .u64 (v : Int)] 44)).step hb4
      have kd4 := keepB hb4 (heap_alloc_new wr (.cells #[.int .i64 kd, .int .u64 (off : Int), .int .i64 sz, .int .u64 (v : Int)] 44))
      have kc := keepB hb4 (keep_alloc kc (.cells #[.int .i64 kd, .int .u64 (off : Int), .int .i64 sz, .int .u64 (v : Int)] 44))
      have kx := keepB hb4 (keep_alloc kx (.cells #[.int .i64 kd, .int .u64 (off : Int), .int .i64 sz, .int .u64 (v : Int)] 44))
      have kw := keepB hb4 (keep_alloc kw (.cells #[.int .i64 kd, .int .u64 (off : Int), .int .i64 sz, .int .u64 (v : Int)] 44))
      have hx0 := kx_old
      clear x0 x1 xl xf d0 d1 d2 d3
      obtain ⟨x0, x1, xl, xf⟩ := knownC kx
      have y0 : w4.cell? ⟨wr.heap.size, 0, none⟩ = some (.int .i64 kd) := by rw [cell_at kd4]; rfl
      have y1 : w4.cell? ⟨wr.heap.size, 1, none⟩ = some (.int .u64 (off : Int)) := by rw [cell_at kd4]; rfl
      have y2 : w4.cell? ⟨wr.heap.size, 2, none⟩ = some (.int .i64 sz) := by rw [cell_at kd4]; rfl
      have y3 : w4.cell? ⟨wr.heap.size, 3, none⟩ = some (.int .u64 (v : Int)) := by rw [cell_at kd4]; rfl
      have hpq : decide (0 < a) = q := HPOS.out
      by_cases h0 : kd = 0
      · subst h0
        obtain ⟨x, r, hrd⟩ : ∃ x r, readOf s (spot s.n off sz) = (x, r) := ⟨_, _, rfl⟩
        have HRD := Lib.hid hrd
        clear hrd
        cases q
        all_goals
          go_wp2_with fail
          refine (read_v HRD.out _ hoff oks kc).mono ?_
          rintro e w5 ⟨rfl, hb5⟩
          have hfr := hfr.step hb5
          have kc := keepB hb5 kc
          have kx := keepB hb5 kx
          have kw := keepB hb5 kw
          have y1 := hcell hb5 y1
          have y2 := hcell hb5 y2
          have lx := ldX bx s
          go_wp2_with fail
          refine (rread_v HRD.out _ hoff oks).mono ?_
          rintro e w6 ⟨rfl, hb6⟩
          have hfr := hfr.step hb6
          have kc := keepB hb6 kc
          have kx := keepB hb6 kx
          have kw := keepB hb6 kw
          clear lx
          obtain ⟨xL, hL⟩ : ∃ x, linesOf s hart = x := ⟨_, rfl⟩
          obtain ⟨xT, hT⟩ : ∃ x, s.t = x := ⟨_, rfl⟩
          have HL := Lib.hid hL
          have HT := Lib.hid hT
          have z1 : w6.cell? ⟨bx, 1, none⟩ = some (.int .u64 (xT : Int)) := by rw [cell_at kx, ← hT]; rfl
          have lx := ldX bx s
          clear hL hT
          go_wp2_with fail
          go_region_held3 (fun w' => Fr w.heap.size w w' ∧ w'.heap[bc]? = some (.cells (cellsC s) 27) ∧ w'.heap[bx]? = some (.cells (cellsC s) 41) ∧ w'.heap[bx + 1]? = some (.cells (cellsC s0) 27) ∧ w'.cell? ⟨bx, 1, none⟩ = some (.int .u64 (xT : Int)))
            (first | exact heldP ‹_› ‹_› | exact ⟨hfr.drew, kc, kx, kw, z1⟩ | go_keep)
            (first
              | (go_at_call 11; refine (time_h HT.out ‹_›).mono ?_; rintro e w' ⟨rfl, rfl⟩)
              | (go_at_call 12; refine (lines_h HL.out oks ‹_›).mono ?_; rintro e w' ⟨rfl, hb⟩)
              | (go_at_call 22; refine (rlines_v HL.out _ oks).mono ?_; rintro e w' ⟨rfl, hb⟩))
          rename_i w9 hS
          obtain ⟨hfr, kc, kx, kw, -⟩ := hS
          go_wp2
          go_roundw
          case rel => exact ⟨k + 1, s, by omega, by go_num, oks, hsn, hfr, kc, kx, kw⟩
          case measure => simp [intOf]; omega
      · by_cases h1 : kd = 1
        · subst h1
          obtain ⟨s', r, hwr⟩ : ∃ s' r, writeOf s v (spot s.n off sz) = (s', r) := ⟨_, _, rfl⟩
          have oks' : OkC s' := by have := oks.write v hv (spot s.n off sz); rw [hwr] at this; exact this
          have hsn' : s'.n = s0.n := by have := write_n s v (spot s.n off sz); rw [hwr] at this; exact this.trans hsn
          have HWR := Lib.hid hwr
          have HSN := Lib.hid hsn'
          clear hwr hsn'
          have lx := ldC (P := Try.prog) kx
          have a5 := stn41
          have a8 := ldn41
          have hne1 : bx ≠ bc := by omega
          have hne2 : bx ≠ bx + 1 := by omega
          have hlw := lt_of_at kw
          have hblt := lt_of_at kd4
          have hne3 : bx ≠ wr.heap.size := by have := lt_of_at hx0; omega
          cases q
          all_goals
            go_wp2_with fail
            refine (rwrite_v HWR.out _ hoff hv oks).mono ?_
            rintro e w5 ⟨rfl, hb5⟩
            have hfr := hfr.step hb5
            have kc := keep_alloc (keepB hb5 kc) (.cells (cellsC s') 41)
            have kx := keep_alloc (keepB hb5 kx) (.cells (cellsC s') 41)
            have kw := keep_alloc (keepB hb5 kw) (.cells (cellsC s') 41)
            have kd5 := keep_row (keep_alloc (keepB hb5 kd4) (.cells (cellsC s') 41)) hne3 (cellsC s')
            have st := stC Try.prog kx s'
            have kc := keep_row kc hne1 (cellsC s')
            have kx := row_at kx (cellsC s')
            have kw := keep_row kw hne2 (cellsC s')
            have hfr := (hfr.alloc (.cells (cellsC s') 41)).row hB2 (cellsC s')
            have y1 : ((w5.alloc (.cells (cellsC s') 41)).setRow bx (cellsC s')).cell? ⟨wr.heap.size, 1, none⟩ = some (.int .u64 (off : Int)) := by rw [cell_at kd5]; rfl
            have y2 : ((w5.alloc (.cells (cellsC s') 41)).setRow bx (cellsC s')).cell? ⟨wr.heap.size, 2, none⟩ = some (.int .i64 sz) := by rw [cell_at kd5]; rfl
            have y3 : ((w5.alloc (.cells (cellsC s') 41)).setRow bx (cellsC s')).cell? ⟨wr.heap.size, 3, none⟩ = some (.int .u64 (v : Int)) := by rw [cell_at kd5]; rfl
            clear lx
            go_wp2_with fail
            refine (write_v HWR.out _ hoff hv oks kc).mono ?_
            rintro e w6 ⟨rfl, kc6, t6⟩
            have hfr := t6.1 _ _ hB1 hfr
            have kx := t6.2 _ _ hne1 kx
            have kw := t6.2 _ _ (by omega) kw
            have kc := kc6
            clear st a5 a8
            obtain ⟨xL, hL⟩ : ∃ x, linesOf s' hart = x := ⟨_, rfl⟩
            obtain ⟨xT, hT⟩ : ∃ x, s'.t = x := ⟨_, rfl⟩
            have HL := Lib.hid hL
            have HT := Lib.hid hT
            have z1 : w6.cell? ⟨bx, 1, none⟩ = some (.int .u64 (xT : Int)) := by rw [cell_at kx, ← hT]; rfl
            have lx := ldX bx s'
            clear hL hT
            go_wp2_with fail
            go_region_held3 (fun w' => Fr w.heap.size w w' ∧ w'.heap[bc]? = some (.cells (cellsC s') 27) ∧ w'.heap[bx]? = some (.cells (cellsC s') 41) ∧ w'.heap[bx + 1]? = some (.cells (cellsC s0) 27) ∧ w'.cell? ⟨bx, 1, none⟩ = some (.int .u64 (xT : Int)))
              (first | exact heldP ‹_› ‹_› | exact ⟨hfr.drew, kc, kx, kw, z1⟩ | go_keep)
              (first
                | (go_at_call 11; refine (time_h HT.out ‹_›).mono ?_; rintro e w' ⟨rfl, rfl⟩)
                | (go_at_call 12; refine (lines_h HL.out oks' ‹_›).mono ?_; rintro e w' ⟨rfl, hb⟩)
                | (go_at_call 22; refine (rlines_v HL.out _ oks').mono ?_; rintro e w' ⟨rfl, hb⟩))
            rename_i w9 hS
            obtain ⟨hfr, kc, kx, kw, -⟩ := hS
            go_wp2
            go_roundw
            case rel => exact ⟨k + 1, s', by omega, by go_num, oks', HSN.out, hfr, kc, kx, kw⟩
            case measure => simp [intOf]; omega
        · have e0 : (kd == 0) = false := by simpa using h0
          have e1 : (kd == 1) = false := by simpa using h1
          obtain ⟨s', htk⟩ : ∃ s', tickOf s (wrap64 (v : Int)) = s' := ⟨_, rfl⟩
          have oks' : OkC s' := by rw [← htk]; exact oks.tick _
          have HSN : Hid (s'.n = s0.n) := by show _ = _; rw [← htk, tick_n]; exact hsn
          have HTK := Lib.hid htk
          clear htk
          have lx := ldC (P := Try.prog) kx
          have hne1 : bx ≠ bc := by omega
          have hne2 : bx ≠ bx + 1 := by omega
          have hne3 : bx ≠ wr.heap.size := by have := lt_of_at hx0; omega
          cases q
          all_goals
            go_wp2_with fail
            refine (rtick_v HTK.out _ (wrap64_le _) oks).mono ?_
            rintro e w5 ⟨rfl, hb5⟩
            have hfr := hfr.step hb5
            have kc := keepB hb5 kc
            have kx := keepB hb5 kx
            have kw := keepB hb5 kw
            have kd5 := keep_row (keepB hb5 kd4) hne3 (cellsC s')
            have st := stC Try.prog kx s'
            have kc := keep_row kc hne1 (cellsC s')
            have kx := row_at kx (cellsC s')
            have kw := keep_row kw hne2 (cellsC s')
            have hfr := hfr.row hB2 (cellsC s')
            have y3 : (w5.setRow bx (cellsC s')).cell? ⟨wr.heap.size, 3, none⟩ = some (.int .u64 (v : Int)) := by rw [cell_at kd5]; rfl
            clear lx
            go_wp2_with fail
            refine (tick_v HTK.out _ (wrap64_le _) oks kc).mono ?_
            rintro e w6 ⟨⟨v6, rfl⟩, kc6, t6⟩
            have hfr := t6.1 _ _ hB1 hfr
            have kx := t6.2 _ _ hne1 kx
            have kw := t6.2 _ _ (by omega) kw
            have kc := kc6
            clear st
            obtain ⟨xL, hL⟩ : ∃ x, linesOf s' hart = x := ⟨_, rfl⟩
            obtain ⟨xT, hT⟩ : ∃ x, s'.t = x := ⟨_, rfl⟩
            have HL := Lib.hid hL
            have HT := Lib.hid hT
            have z1 : w6.cell? ⟨bx, 1, none⟩ = some (.int .u64 (xT : Int)) := by rw [cell_at kx, ← hT]; rfl
            have lx := ldX bx s'
            clear hL hT
            go_wp2_with fail
            go_region_held3 (fun w' => Fr w.heap.size w w' ∧ w'.heap[bc]? = some (.cells (cellsC s') 27) ∧ w'.heap[bx]? = some (.cells (cellsC s') 41) ∧ w'.heap[bx + 1]? = some (.cells (cellsC s0) 27) ∧ w'.cell? ⟨bx, 1, none⟩ = some (.int .u64 (xT : Int)))
              (first | exact heldP ‹_› ‹_› | exact ⟨hfr.drew, kc, kx, kw, z1⟩ | go_keep)
              (first
                | (go_at_call 11; refine (time_h HT.out ‹_›).mono ?_; rintro e w' ⟨rfl, rfl⟩)
                | (go_at_call 12; refine (lines_h HL.out oks' ‹_›).mono ?_; rintro e w' ⟨rfl, hb⟩)
                | (go_at_call 22; refine (rlines_v HL.out _ oks').mono ?_; rintro e w' ⟨rfl, hb⟩))
            rename_i w9 hS
            obtain ⟨hfr, kc, kx, kw, -⟩ := hS
            go_wp2
            go_roundw
            case rel => exact ⟨k + 1, s', by omega, by go_num, oks', HSN.out, hfr, kc, kx, kw⟩
            case measure => simp [intOf]; omega
    · have ek : k = len := by omega
      subst ek
      have heq := eqCn n
      rw [HS.out] at heq
      have HEQ := Lib.hid heq
      clear heq
      have lxA := ldX bx s
      go_wp2
      go_loopw [21] (fun i2 wr2 => ∃ c : Nat, c ≤ 8 ∧ i2 = .int .i64 (c : Int) ∧ Fr w.heap.size w wr2 ∧ wr2.heap[bc]? = some (.cells (cellsC s) 27) ∧ wr2.heap[bx]? = some (.cells (cellsC s) 41) ∧ wr2.heap[bx + 1]? = some (.cells (cellsC s0) 27)) (fun i2 _ => 8 - (intOf i2).toNat)
      case atStart => exact ⟨0, by omega, rfl, hfr, kc, kx, kw⟩
      case round =>
        clear hfr kc kx kw
        obtain ⟨c, hc8, rfl, hfr, kc, kx, kw⟩ := hrel
        have hc8' : (c : Int) ≤ 8 := by omega
        by_cases hl8 : c < 8
        · obtain ⟨x2, hx2⟩ : ∃ x, linesOf s (c : Int) = x := ⟨_, rfl⟩
          have HX2 := Lib.hid hx2
          have hl9 : (c : Int) < 8 := by omega
          clear hx2
          go_wp2_with fail
          go_region_held3 (fun w' => ((Fr w.heap.size w w' ∧ w'.heap[bc]? = some (.cells (cellsC s) 27)) ∧ w'.heap[bx]? = some (.cells (cellsC s) 41)) ∧ w'.heap[bx + 1]? = some (.cells (cellsC s0) 27))
            (first | exact heldF ‹_› ‹_› | exact ⟨⟨⟨hfr.drew, kc⟩, kx⟩, kw⟩ | go_keep)
            (first
              | (go_at_call 12; refine (lines_g HX2.out oks ‹_›).mono ?_; rintro e wg ⟨rfl, hb⟩)
              | (go_at_call 22; refine (rlines_v HX2.out _ oks).mono ?_; rintro e wg ⟨rfl, hb⟩))
          all_goals
            have hG := (‹((Fr w.heap.size w _ ∧ _) ∧ _) ∧ _› : ((Fr w.heap.size w _ ∧ _) ∧ _) ∧ _)
            go_wp2
            go_roundw
            case rel => exact ⟨c + 1, by omega, by go_num, hG.1.1.1, hG.1.1.2, hG.1.2, hG.2⟩
            case measure => simp [intOf] <;> omega
        · have ec : c = 8 := by omega
          subst ec
          have lwA : ∀ w' : World, w'.heap[bx + 1]? = some (.cells (cellsC s0) 27) → (loadCellsFrom ⟨bx + 1, 0, none⟩ 0 sz18 #[]).run Try.prog w' = .ok (cellsC s0) w' := fun w' h => ldC h
          have heq := HEQ.out
          clear lxA
          go_wp2_with fail
          go_region_held3 (fun w' => ((Fr w.heap.size w w' ∧ w'.heap[bc]? = some (.cells (cellsC s) 27)) ∧ w'.heap[bx]? = some (.cells (cellsC s) 41)) ∧ w'.heap[bx + 1]? = some (.cells (cellsC s0) 27))
            (first | exact heldF ‹_› ‹_› | exact ⟨⟨⟨hfr.drew, kc⟩, kx⟩, kw⟩ | go_keep)
            (first
              | (go_at_call 14; refine (new_v HS.out _).mono ?_; rintro e wg ⟨rfl, hb⟩)
              | (go_at_call 15; refine (live15_any _).mono ?_; rintro e wh ⟨rfl, hb⟩))
          all_goals
            have FE := Lib.hid (‹((Fr w.heap.size w _ ∧ _) ∧ _) ∧ _› : ((Fr w.heap.size w _ ∧ _) ∧ _) ∧ _).1.1.1
            go_wp2
            go_ret
            exact ⟨rfl, FE.out.1⟩
theorem cplays_any (n : Int) (a : Option Addr) (len cap : Nat) (hart : Int) (w : World) (hmax : len ≤ 9223372036854775807) (hd : Deeds w a len) :
    Calls Try.prog 5 #[.int .i64 n, .slice a len cap, .int .i64 hart] w fun e w' => e = .returned (.bool true) ∧ Below w.heap.size w w' := by
  by_cases hl : len ≤ 100
  · exact plays_short n a len cap hart w hl hd
  · exact plays_long n a len cap hart w (by omega) hmax
end Go.Proofs.Ytgelpapjmlbgfaa
