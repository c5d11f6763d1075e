/- PlicPlays: the walk. -/
import Derived.Test.YtgelpapjmlbgfaaPlQ
import Derived.Test.YtgelpapjmlbgfaaPlicNone
namespace Go.Proofs.Ytgelpapjmlbgfaa
open Go.RowKit
set_option linter.unusedSimpArgs false
set_option linter.unusedVariables false
attribute [local simp high] zeroPv sizePv zeroDv sizeDv sizeBv
attribute [local go_sem ↓] Go.wp_at_zero Go.wp_at_succ

theorem fr_of {B b : Nat} {w0 w w' : World} (hW : Wrote b w w') (hB : B ≤ b) (h : Fr B w0 w) : Fr B w0 w' := hW.1 B w0 hB h
theorem DeedAt.step {w w' : World} {ad : Addr} {i : Nat} {kd : Int} {off : Nat} {sz : Int} {v : Nat} (hd : DeedAt w ad i kd off sz v) (hb : Below w.heap.size w w') (had : ad.block < w.heap.size) : DeedAt w' ad i kd off sz v := by
  refine ⟨?_, ?_, ?_, ?_, hd.ho, hd.hv⟩
  · exact (hb.cell (p := ad.add (i * 4)) (by rw [add_block]; exact had)).trans hd.c0
  · exact (hb.cell (p := ⟨(ad.add (i * 4)).block, (ad.add (i * 4)).off + 1, none⟩) (by rw [add_block]; exact had)).trans hd.c1
  · exact (hb.cell (p := ⟨(ad.add (i * 4)).block, (ad.add (i * 4)).off + 2, none⟩) (by rw [add_block]; exact had)).trans hd.c2
  · exact (hb.cell (p := ⟨(ad.add (i * 4)).block, (ad.add (i * 4)).off + 3, none⟩) (by rw [add_block]; exact had)).trans hd.c3
theorem eqPk1 (w : World) : (binOp BinOp.eql 60 (.agg (cellsP (setN zeroP 1))) (.agg (cellsP (setN zeroP 1)))).run Try.prog w = .ok (.bool true) w := by kernel_rfl
theorem eqPk2 (w : World) : (binOp BinOp.eql 60 (.agg (cellsP (setN zeroP 2))) (.agg (cellsP (setN zeroP 2)))).run Try.prog w = .ok (.bool true) w := by kernel_rfl
theorem eqPk3 (w : World) : (binOp BinOp.eql 60 (.agg (cellsP (setN zeroP 3))) (.agg (cellsP (setN zeroP 3)))).run Try.prog w = .ok (.bool true) w := by kernel_rfl
theorem eqPk4 (w : World) : (binOp BinOp.eql 60 (.agg (cellsP (setN zeroP 4))) (.agg (cellsP (setN zeroP 4)))).run Try.prog w = .ok (.bool true) w := by kernel_rfl
theorem eqPk5 (w : World) : (binOp BinOp.eql 60 (.agg (cellsP (setN zeroP 5))) (.agg (cellsP (setN zeroP 5)))).run Try.prog w = .ok (.bool true) w := by kernel_rfl
theorem eqPk6 (w : World) : (binOp BinOp.eql 60 (.agg (cellsP (setN zeroP 6))) (.agg (cellsP (setN zeroP 6)))).run Try.prog w = .ok (.bool true) w := by kernel_rfl
theorem eqPk7 (w : World) : (binOp BinOp.eql 60 (.agg (cellsP (setN zeroP 7))) (.agg (cellsP (setN zeroP 7)))).run Try.prog w = .ok (.bool true) w := by kernel_rfl
theorem eqPk8 (w : World) : (binOp BinOp.eql 60 (.agg (cellsP (setN zeroP 8))) (.agg (cellsP (setN zeroP 8)))).run Try.prog w = .ok (.bool true) w := by kernel_rfl
theorem eqPn (n : Int) (w : World) : (binOp BinOp.eql 60 (.agg (cellsP (newP n))) (.agg (cellsP (newP n)))).run Try.prog w = .ok (.bool true) w := by
  by_cases h : n < 1 ∨ 8 < n
  · have e : newP n = zeroP := by unfold newP; rw [if_pos h]
    rw [e]; exact eqP0 w
  · have e : newP n = setN zeroP n := by unfold newP; rw [if_neg h]
    rw [e]
    have h8 : n = 1 ∨ n = 2 ∨ n = 3 ∨ n = 4 ∨ n = 5 ∨ n = 6 ∨ n = 7 ∨ n = 8 := by omega
    rcases h8 with rfl | rfl | rfl | rfl | rfl | rfl | rfl | rfl
    · exact eqPk1 w
    · exact eqPk2 w
    · exact eqPk3 w
    · exact eqPk4 w
    · exact eqPk5 w
    · exact eqPk6 w
    · exact eqPk7 w
    · exact eqPk8 w
theorem at_t {n : Int} {off : Nat} {size : Int} {r i : Nat} (hs : spotP n off size = (r, i)) (w : World) (hoff : off < 18446744073709551616) (h0 : 0 ≤ n) (h8 : n ≤ 8) :
    Calls Try.prog 26 #[.int .i64 n, .int .u64 (off : Int), .int .i64 size] w fun e w' => e = .returned (.tuple #[.int .i64 (r : Int), .int .i64 (i : Int)]) ∧ w' = w := at_v hs w hoff h0 h8
theorem heldF {w w' : World} {B b c d : Nat} {o p r : Obj} {w0 : World} (hb : Below w.heap.size w w') (h : ((Fr B w0 w ∧ w.heap[b]? = some o) ∧ w.heap[c]? = some p) ∧ w.heap[d]? = some r) :
    ((Fr B w0 w' ∧ w'.heap[b]? = some o) ∧ w'.heap[c]? = some p) ∧ w'.heap[d]? = some r := ⟨⟨⟨h.1.1.1.step hb, keepB hb h.1.1.2⟩, keepB hb h.1.2⟩, keepB hb h.2⟩
theorem heldG {w w' : World} {B b c d : Nat} {o p r : Obj} {w0 : World} {a1 a2 : Addr} {v1 v2 : Value} (hb : Below w.heap.size w w') (h : (((Fr B w0 w ∧ w.heap[b]? = some o) ∧ w.heap[c]? = some p) ∧ w.heap[d]? = some r) ∧ w.cell? a1 = some v1 ∧ w.cell? a2 = some v2) :
    (((Fr B w0 w' ∧ w'.heap[b]? = some o) ∧ w'.heap[c]? = some p) ∧ w'.heap[d]? = some r) ∧ w'.cell? a1 = some v1 ∧ w'.cell? a2 = some v2 := ⟨heldF hb h.1, hcell hb h.2.1, hcell hb h.2.2⟩
theorem sd_mk {w w' : World} {ad : Addr} {i : Nat} {kd : Int} {off : Nat} {sz : Int} {v bx : Nat} {o : Obj} (hd : DeedAt w ad i kd off sz v) (had : ad.block < w.heap.size) (hf : Fr w.heap.size w w') (hx : w'.heap[bx]? = some o) :
    (Fr w.heap.size w w' ∧ w'.heap[bx]? = some o) ∧ w'.cell? (ad.add (i * 4)) = some (.int .i64 kd) ∧ w'.cell? ⟨(ad.add (i * 4)).block, (ad.add (i * 4)).off + 1, none⟩ = some (.int .u64 (off : Int)) ∧ w'.cell? ⟨(ad.add (i * 4)).block, (ad.add (i * 4)).off + 2, none⟩ = some (.int .i64 sz) ∧ w'.cell? ⟨(ad.add (i * 4)).block, (ad.add (i * 4)).off + 3, none⟩ = some (.int .u64 (v : Int)) := by
  have h := hd.step hf.1 had
  exact ⟨⟨hf, hx⟩, h.c0, h.c1, h.c2, h.c3⟩

theorem rangeSub {w : World} {b : Nat} {c c' : Array Value} {t : TypeId} (h : w.heap[b]? = some (.cells c t)) (o : Nat) (hg : ∀ j, j < c'.size → c[o + j]? = c'[j]?) : w.rangeAt b o c'.toList := by
  intro j v hv
  have hj : j < c'.size := by
    rcases Nat.lt_or_ge j c'.size with h1 | h1
    · exact h1
    · rw [List.getElem?_eq_none (by simpa using h1)] at hv; cases hv
  rw [cell_at h, hg j hj]
  simpa using hv
theorem rng_wa {w : World} {b : Nat} {s : PS} {t : TypeId} (h : w.heap[b]? = some (.cells (cellsD s) t)) : w.rangeAt b 65 (cellsB s.wa).toList := rangeSub h 65 fun j hj => by rw [size_cellsB] at hj; rw [D_wa s hj, B_get _ hj]
theorem rng_se {w : World} {b : Nat} {s : PS} {t : TypeId} (h : w.heap[b]? = some (.cells (cellsD s) t)) : w.rangeAt b 97 (cellsB s.se).toList := rangeSub h 97 fun j hj => by rw [size_cellsB] at hj; rw [D_se s hj, B_get _ hj]
theorem yields_sub {P : Program} {ops : Array Oper} {S : World → Prop} {op : Oper} {a : Act} {g : Nat → Bool} (hw : Region.wanted op (yielded ops a.tmps) = true) (ty : TypeId) (x : Operand) (ho : op.op = .load ty x)
    (b o : Nat) (hx : a.eval x = .pointer (some ⟨b, o, none⟩)) {d : TypeDesc} (hS : ∀ w, S w → w.rangeAt b o (cellsB g).toList)
    (hu : P.underlying ty = some d) (hd : d.isRow = true) (hi : (P.info? ty).map (·.size) = some 32) : YieldsIf P ops S op (.agg (cellsB g)) a := by
  have h := yieldsIf_load_mid (P := P) hw ty x ho b o hx (cellsB g).toList d hS hu hd (by rw [Array.length_toList, size_cellsB]; exact hi)
  rwa [Array.toArray_toList] at h
theorem waits_h {B b c d : Nat} {s : PS} {x : Nat} {w0 w : World} {p r : Obj} (hr : W32 s.wa = x) (h : ((Fr B w0 w ∧ w.heap[b]? = some (.cells (cellsP s) 60)) ∧ w.heap[c]? = some p) ∧ w.heap[d]? = some r) :
    Calls Try.prog 30 #[.pointer (some ⟨b, 0, none⟩)] w fun e w' => e = .returned (.int .u64 (x : Int)) ∧ Below w.heap.size w w' := waits_v hr w h.1.1.2
theorem served_h {B b c d : Nat} {s : PS} {x : Nat} {w0 w : World} {p r : Obj} (hr : W32 s.se = x) (h : ((Fr B w0 w ∧ w.heap[b]? = some (.cells (cellsP s) 60)) ∧ w.heap[c]? = some p) ∧ w.heap[d]? = some r) :
    Calls Try.prog 25 #[.pointer (some ⟨b, 0, none⟩)] w fun e w' => e = .returned (.int .u64 (x : Int)) ∧ Below w.heap.size w w' := served_v hr w h.1.1.2
theorem line_h {B b c d : Nat} {s : PS} {k : Int} {q : Bool} {w0 w : World} {p r : Obj} (hr : lineP s k = q) (ok : OkP s) (h : ((Fr B w0 w ∧ w.heap[b]? = some (.cells (cellsP s) 60)) ∧ w.heap[c]? = some p) ∧ w.heap[d]? = some r) :
    Calls Try.prog 35 #[.pointer (some ⟨b, 0, none⟩), .int .i64 k] w fun e w' => e = .returned (.bool q) ∧ Below w.heap.size w w' := line_v hr w ok h.1.1.2

end Go.Proofs.Ytgelpapjmlbgfaa
