/- Snap: a copy of bytes; what a writer holds; a writer that is not there; the document's numbers. -/
import Derived.Test.YtcfbbimahbhgjaaSnB
namespace Go.Proofs.Ytcfbbimahbhgjaa
open Go.RowKit
set_option linter.unusedSimpArgs false
set_option linter.unusedVariables false

theorem OB.empty (w : World) {base b : Nat} (h : base ≤ w.heap.size) (hb : w.heap.size = b) : OB (w.alloc (.cells #[] 5)) base (some ⟨b, 0, none⟩) 0 0 [] := by
  subst hb
  exact ⟨rfl, .inr ⟨_, #[], (0, 0), rfl, h, heap_alloc_new w _, .inl rfl, Nat.le_refl _, Nat.zero_le _, rfl, rfl⟩⟩
theorem BL.none {w : World} {l : List Nat} (h : BL w none l) : l = [] := by
  cases l with
  | nil => rfl
  | cons x l => obtain ⟨ad, e, _⟩ := h 0 x rfl; cases e
theorem fr_grown {w w1 : World} {o : Obj} (hg : (w.alloc o).grownBy w1 (some w.heap.size)) : Fr w.heap.size w w1 := by
  refine ⟨⟨hg.os, hg.tape, hg.output, Nat.le_trans (by simp) hg.size, fun i hi => ?_⟩, Nat.le_trans (by simp) hg.size⟩
  rw [hg.block i (by simp; omega) (fun e => by cases e; omega)]
  exact ((Fr.refl w).alloc o).1.block i hi
/-- What a function gives back: bytes in a slice of its own. -/
def Gives (w : World) (l : List Nat) (e : Ending) (w' : World) : Prop := ∃ a n cap, e = .returned (.slice a n cap) ∧ OB w' w.heap.size a n cap l ∧ Below w.heap.size w w'
theorem eqIn_none (P : Program) (w : World) (d : Nat) (t : TypeId) {e : TypeId} (h : P.underlying t = some (.slice e)) (n cap : Nat) : (Op.equalIn (d + 1) t (.slice none n cap) (.slice none 0 0)).run P w = .ok true w := by
  simp [Op.equalIn, run_underlying h]
theorem eqIn_some (P : Program) (w : World) (d : Nat) (t : TypeId) {e : TypeId} (h : P.underlying t = some (.slice e)) (ad : Addr) (n cap : Nat) : (Op.equalIn (d + 1) t (.slice (some ad) n cap) (.slice none 0 0)).run P w = .ok false w := by
  simp [Op.equalIn, run_underlying h]
theorem eqnil_none (n cap : Nat) (w : World) : (binOp BinOp.eql 29 (.slice none n cap) (.slice none 0 0)).run Try.prog w = .ok (.bool true) w := by
  have h : (Op.equal 29 (.slice none n cap) (.slice none 0 0)).run Try.prog w = .ok true w := eqIn_none Try.prog w 9999 29 Try.underlying29 n cap
  simp [binOp, go_sem, h]
theorem eqnil_some (ad : Addr) (n cap : Nat) (w : World) : (binOp BinOp.eql 29 (.slice (some ad) n cap) (.slice none 0 0)).run Try.prog w = .ok (.bool false) w := by
  have h : (Op.equal 29 (.slice (some ad) n cap) (.slice none 0 0)).run Try.prog w = .ok false w := eqIn_some Try.prog w 9999 29 Try.underlying29 ad n cap
  simp [binOp, go_sem, h]
set_option maxRecDepth 100000 in
set_option maxHeartbeats 4000000 in
theorem clone_b (a : Option Addr) (n cap : Nat) (l : List Nat) (w : World) (hl : l.length = n) (hn : n ≤ 1000000000) (hx : BL w a l) :
    Calls Try.prog 35 #[.slice a n cap] w (Gives w l) := by
  cases a with
  | none =>
    have e := hx.none
    subst e
    have eqn := eqnil_none n cap
    go_enter Try.func35, Try.ntmps35
    go_wp2_with fail
    go_ret
    exact ⟨none, 0, 0, rfl, OB.nil _ _, Below.refl _ _⟩
  | some ad =>
    have eqn := eqnil_some ad n cap
    have hx1 : BL (w.alloc (.cells #[] 5)) (some ad) l := hx.keep ((Below.refl _ w).alloc (Nat.le_refl _) _)
    go_enter Try.func35, Try.ntmps35
    go_wp2_with (at_builtin; refine wpList_append_b _ rfl (.tmp 5) (.tmp 6) rfl rfl (OB.empty w (Nat.le_refl _) rfl) (some ad) n cap l rfl hl hx1 (by omega) (by simp) ?_; intro a2 cap2 w1 hO hg hat)
    go_ret
    rw [Nat.zero_add] at hO
    exact ⟨a2, n, cap2, rfl, hO, (fr_grown hg).1⟩
set_option maxRecDepth 100000 in
set_option maxHeartbeats 4000000 in
theorem bytes_any (base b n cap : Nat) (a : Option Addr) (l : List Nat) (w : World) (hA : WA w base b a n cap l) (hn : n ≤ 1000000000) :
    Calls Try.prog 10 #[.pointer (some ⟨b, 0, none⟩)] w (Gives w l) := by
  have kb := hA.hb
  have cb : w.cell? ⟨b, 0, none⟩ = some (.slice a n cap) := by rw [cell_at kb]; rfl
  go_enter Try.func10, Try.ntmps10
  go_wp2_with fail
  refine (clone_b a n cap l _ hA.len hn hA.own.bl).mono ?_
  rintro e w1 ⟨a1, n1, cap1, rfl, hO, hb⟩
  go_wp2_with fail
  go_ret
  exact ⟨a1, n1, cap1, rfl, hO, hb⟩
/-! ## A writer that is not there. -/
theorem nil_num (N : Int) (w : World) : Calls Try.prog 6 #[.pointer none, .int .u64 N] w fun e w' => (∃ v, e = .returned v) ∧ w' = w := by
  go_enter Try.func6, Try.ntmps6
  go_wp2_with fail
  refine bodyPost_ret (results_none rfl _ _ _) rfl ?_
  exact ⟨⟨_, rfl⟩, rfl⟩
theorem nil_int (w : World) : Calls Try.prog 7 #[.pointer none, .int .i64 1] w fun e w' => (∃ v, e = .returned v) ∧ w' = w := by
  go_enter Try.func7, Try.ntmps7
  go_wp2_with fail
  refine (nil_num _ _).mono ?_
  rintro e w1 ⟨⟨v, rfl⟩, rfl⟩
  go_wp2_with fail
  go_end0
  exact ⟨⟨_, rfl⟩, rfl⟩
theorem nil_truth (w : World) : Calls Try.prog 8 #[.pointer none, .bool true] w fun e w' => (∃ v, e = .returned v) ∧ w' = w := by
  go_enter Try.func8, Try.ntmps8
  go_wp2_with fail
  refine (nil_num _ _).mono ?_
  rintro e w1 ⟨⟨v, rfl⟩, rfl⟩
  go_wp2_with fail
  go_end0
  exact ⟨⟨_, rfl⟩, rfl⟩
theorem nil_raw (x : Value) (w : World) : Calls Try.prog 9 #[.pointer none, x] w fun e w' => (∃ v, e = .returned v) ∧ w' = w := by
  go_enter Try.func9, Try.ntmps9
  go_wp2_with fail
  refine bodyPost_ret (results_none rfl _ _ _) rfl ?_
  exact ⟨⟨_, rfl⟩, rfl⟩
theorem nil_bytes (w : World) : Calls Try.prog 10 #[.pointer none] w fun e w' => e = .returned (.slice none 0 0) ∧ w' = w := by
  go_enter Try.func10, Try.ntmps10
  go_wp2_with fail
  go_ret
  exact ⟨rfl, rfl⟩
/-! ## The document's. -/
theorem grown_fr {B : Nat} {w0 w w1 : World} {a : Option Addr} {base n cap : Nat} {l : List Nat} {o : Obj} (hF : Fr B w0 w) (hO : OB w base a n cap l) (hB : B ≤ base) (hg : (w.alloc o).grownBy w1 (ob a)) : Fr B w0 w1 := by
  refine ⟨⟨hg.os.trans hF.1.os, hg.tape.trans hF.1.tape, hg.output.trans hF.1.output, Nat.le_trans hF.1.size (Nat.le_trans (by simp) hg.size), fun i hi => ?_⟩, Nat.le_trans hF.2 (Nat.le_trans (by simp) hg.size)⟩
  have := hF.2
  rw [hg.block i (by simp; omega) (fun e => by have := (hO.lt e.symm).1; omega), ← hF.1.block i hi]
  exact ((Fr.refl w).alloc o).1.block i (by omega)
set_option maxRecDepth 100000 in
set_option maxHeartbeats 4000000 in
theorem rnum_any (N : Nat) (w : World) (hN : N < 18446744073709551616) : Calls Try.prog 12 #[.int .u64 (N : Int)] w (Gives w (numL N)) := by
  have hten := numL_ten hN
  go_enter Try.func12, Try.ntmps12
  go_wp2_with fail
  go_loopw [0, 3] (fun i s wr => ∃ (m : Nat) (pre : List Nat) (a' : Option Addr) (n' cap' : Nat), i = .int .u64 (m : Int) ∧ s = .slice a' n' cap' ∧ m < 18446744073709551616 ∧ pre ++ numL m = numL N ∧ OB wr w.heap.size a' n' cap' pre ∧ Fr w.heap.size w wr) (fun i _ _ => (intOf i).toNat)
  case atStart => exact ⟨N, [], none, 0, 0, rfl, rfl, hN, rfl, OB.nil _ _, Fr.refl w⟩
  case round =>
    obtain ⟨m, pre, a', n', cap', rfl, rfl, hm, hpre, hW, hF⟩ := hrel
    have hlen := hW.1
    have hple : pre.length + (numL m).length ≤ 10 := by rw [← List.length_append, hpre]; exact hten
    have hmp := numL_pos m
    have hn' : n' ≤ 10 := by omega
    have HPRE := Lib.hid hpre
    have hnb := hF.2
    clear hpre hlen hple hmp hten
    by_cases h7 : 128 ≤ m
    · have d1 : decide (128 ≤ (m : Int)) = true := by simp; omega
      have hmod : (m : Int) % 128 = ((m % 128 : Nat) : Int) := by omega
      obtain ⟨y, hy⟩ : ∃ y, 128 + m % 128 = y := ⟨_, rfl⟩
      have e1 : IntKind.u64.wrap (128 + (m : Int) % 128) = (y : Int) := by rw [IntKind.wrap_u64]; omega
      have e2 : IntKind.u8.wrap (y : Int) = (y : Int) := by rw [IntKind.wrap_u8]; omega
      have HY := Lib.hid hy
      clear hy hmod
      go_wp2_with (at_builtin; refine wpList_append_b _ rfl (.tmp 6) (.tmp 11) rfl rfl (hW.keep ((Below.refl _ wr).alloc (Nat.le_refl _) (.cells #[.int .u8 (y : Int)] 5))) (some ⟨wr.heap.size, 0, none⟩) 1 1 [y] rfl rfl (BL.one wr y) (by omega) (by simp; omega) ?_; intro a2 cap2 w1 hO hg hat)
      have E : Hid (OB w1 w.heap.size a2 (n' + 1) cap2 (pre ++ [y]) ∧ Fr w.heap.size w w1 ∧ (pre ++ [y]) ++ numL (m / 128) = numL N) :=
        ⟨hO, grown_fr hF hW (Nat.le_refl _) hg, by rw [List.append_assoc, ← HPRE.out, numL_ge (show ¬ m < 128 by omega), HY.out]; rfl⟩
      exact ⟨⟨m / 128, pre ++ [y], a2, n' + 1, cap2, by simp, rfl, by omega, E.out.2.2, E.out.1, E.out.2.1⟩, by simp [intOf]; omega⟩
    · have d1 : decide (128 ≤ (m : Int)) = false := by simp; omega
      have hy : ((m : Int) % 256) = (m : Int) := by omega
      go_wp2_with (at_builtin; refine wpList_append_b _ rfl (.tmp 15) (.tmp 18) rfl rfl (hW.keep ((Below.refl _ wr).alloc (Nat.le_refl _) (.cells #[.int .u8 (m : Int)] 5))) (some ⟨wr.heap.size, 0, none⟩) 1 1 [m] rfl rfl (BL.one wr m) (by omega) (by simp; omega) ?_; intro a2 cap2 w1 hO hg hat)
      go_ret
      refine ⟨a2, n' + 1, cap2, rfl, ?_, (grown_fr hF hW (Nat.le_refl _) hg).1⟩
      rw [← HPRE.out, numL_lt (show m < 128 by omega)]
      exact hO
end Go.Proofs.Ytcfbbimahbhgjaa
