/- csrfile's May and the document's. -/
import Derived.Test.YthkkfdhgpaonjaaCfO
namespace Go.Proofs.Ythkkfdhgpaonjaa
open Go.RowKit
set_option linter.unusedSimpArgs false
set_option linter.unusedVariables false

def mayF (s : FS) (n p : Int) (wr : Bool) : Bool :=
  mayB n p wr && (if n = 384 then !(decide (p = 1) && (s.g 7).testBit 20) else if 3072 ≤ n ∧ n ≤ 3074 then (decide (p = 3) || ((s.g 12).testBit (n - 3072).toNat && (!decide (p = 0) || (s.g 1).testBit (n - 3072).toNat))) else true)
theorem heldk2 {w w' : World} {B b : Nat} {o : Obj} {w0 : World} {a0 a1 : Addr} {v0 v1 : Value} (hb : Below w.heap.size w w') (h : ((Fr B w0 w ∧ w.heap[b]? = some o) ∧ w.cell? a0 = some v0) ∧ w.cell? a1 = some v1) : ((Fr B w0 w' ∧ w'.heap[b]? = some o) ∧ w'.cell? a0 = some v0) ∧ w'.cell? a1 = some v1 := ⟨heldk hb h.1, hcell hb h.2⟩
theorem word_h {B b : Nat} {s : FS} {n : Int} {k : Nat} {w0 w : World} {R R2 : Prop} (hn : ownIx n = some k) (h : ((Fr B w0 w ∧ w.heap[b]? = some (.cells (cellsF s) 31)) ∧ R) ∧ R2) :
    Calls Try.prog 69 #[.pointer (some ⟨b, 0, none⟩), .int .i64 n] w fun e w' => e = .returned (.pointer (some ⟨b, 1 + k, none⟩)) ∧ Below w.heap.size w w' := word_some hn w h.1.1.2
set_option maxRecDepth 100000 in
set_option maxHeartbeats 2000000 in
theorem lets1_any (b : Nat) (s : FS) (n : Int) (k a bf ba : Nat) (w : World) (ok : OkF s) (hn : ownIx n = some k) (ha : a < 64) (h : w.heap[b]? = some (.cells (cellsF s) 31)) (hf : w.cell? ⟨bf, 0, none⟩ = some (.pointer (some ⟨b, 0, none⟩))) (hba : w.cell? ⟨ba, 0, none⟩ = some (.int .u64 (a : Int))) :
    Calls Try.prog 98 #[.int .i64 n, .pointer (some ⟨bf, 0, none⟩), .pointer (some ⟨ba, 0, none⟩)] w fun e w' => e = .returned (.bool ((s.g k).testBit a)) ∧ Below w.heap.size w w' := by
  have hk := (ownIx_lt hn).1
  have hx := ok.g k
  have HT := Lib.hid (bit_test1 (s.g k) a hx)
  have HN := Lib.hid hn
  have F0 := Fr.refl w
  have gA : ∀ w' : World, w'.heap[b]? = some (.cells (cellsF s) 31) → w'.cell? ⟨b, 1 + k, none⟩ = some (.int .u64 (s.g k : Int)) := fun w' h => knownFg h hk
  clear hn
  go_enter Try.func98, Try.ntmps98
  go_wp2_with fail
  go_region_held3 (fun w' => ((Fr w.heap.size w w' ∧ w'.heap[b]? = some (.cells (cellsF s) 31)) ∧ w'.cell? ⟨bf, 0, none⟩ = some (.pointer (some ⟨b, 0, none⟩))) ∧ w'.cell? ⟨ba, 0, none⟩ = some (.int .u64 (a : Int)))
    (first | exact heldk2 ‹_› ‹_› | exact ⟨⟨⟨F0.drew, h⟩, hf⟩, hba⟩ | go_keep)
    ((go_at_call 69; refine (word_h HN.out ‹_›).mono ?_; rintro e w' ⟨rfl, hb⟩))
  rename_i w9 hS9
  have F9 := Lib.hid hS9.1.1.1.1
  clear hS9
  go_wp2
  go_ret
  exact ⟨by rw [← HT.out]; rfl, F9.out⟩

theorem lets_v {b : Nat} {s : FS} {n : Int} {k a bf ba : Nat} {q : Bool} (hq : (s.g k).testBit a = q) (w : World) (ok : OkF s) (hn : ownIx n = some k) (ha : a < 64) (h : w.heap[b]? = some (.cells (cellsF s) 31)) (hf : w.cell? ⟨bf, 0, none⟩ = some (.pointer (some ⟨b, 0, none⟩))) (hba : w.cell? ⟨ba, 0, none⟩ = some (.int .u64 (a : Int))) :
    Calls Try.prog 98 #[.int .i64 n, .pointer (some ⟨bf, 0, none⟩), .pointer (some ⟨ba, 0, none⟩)] w fun e w' => e = .returned (.bool q) ∧ Below w.heap.size w w' := by
  rw [← hq]; exact lets1_any b s n k a bf ba w ok hn ha h hf hba
theorem has_tvm {x : Nat} {q : Bool} (hq : x.testBit 20 = q) (w : World) (hx : x < 18446744073709551616) :
    Calls Try.prog 97 #[.int .u64 (x : Int), .string ⟨#[116, 118, 109]⟩] w fun e w' => e = .returned (.bool q) ∧ w = w' := by
  have h := has_any x ⟨#[116, 118, 109]⟩ w hx
  rw [ByteArray.toList_eq] at h
  rw [show hasOf x (⟨#[116, 118, 109]⟩ : ByteArray).data.toList = q from hq] at h
  exact h
theorem mayF_no {s : FS} {n p : Int} {wr : Bool} (h : mayB n p wr = false) : mayF s n p wr = false := by unfold mayF; rw [h]; rfl
theorem mayF_384 {s : FS} {p : Int} {wr : Bool} (h : mayB 384 p wr = true) : mayF s 384 p wr = !(decide (p = 1) && (s.g 7).testBit 20) := by unfold mayF; rw [h]; simp
theorem mayF_ctr {s : FS} {n p : Int} {wr : Bool} (h : mayB n p wr = true) (h1 : 3072 ≤ n) (h2 : n ≤ 3074) : mayF s n p wr = (decide (p = 3) || ((s.g 12).testBit (n - 3072).toNat && (!decide (p = 0) || (s.g 1).testBit (n - 3072).toNat))) := by
  unfold mayF; rw [h, if_neg (by omega), if_pos ⟨h1, h2⟩]; simp
theorem mayF_else {s : FS} {n p : Int} {wr : Bool} (h : mayB n p wr = true) (h0 : n ≠ 384) (h1 : ¬ (3072 ≤ n ∧ n ≤ 3074)) : mayF s n p wr = true := by
  unfold mayF; rw [h, if_neg h0, if_neg h1]; rfl
theorem mayB_priv {n p : Int} {wr : Bool} (h : mayB n p wr = true) : p = 0 ∨ p = 1 ∨ p = 3 := by
  unfold mayB at h
  simp only [Bool.and_eq_true, Bool.or_eq_true, decide_eq_true_eq] at h
  omega
theorem mayF_nil (n p : Int) (wr : Bool) (w : World) :
    Calls Try.prog 55 #[.pointer none, .int .i64 n, .int .i64 p, .bool wr] w fun e w' => e = .returned (.bool false) ∧ Below w.heap.size w w' := by
  go_enter Try.func55, Try.ntmps55
  go_wp2
  go_ret
  exact ⟨rfl, ((Fr.refl w).alloc _).1⟩
set_option maxRecDepth 100000 in
set_option maxHeartbeats 2000000 in
theorem pmay_no (b : Nat) (s : FS) (n : Int) (p : Int) (wr : Bool) (w : World) (ok : OkF s) (h : w.heap[b]? = some (.cells (cellsF s) 31)) (hm : mayB n p wr = false) :
    Calls Try.prog 55 #[.pointer (some ⟨b, 0, none⟩), .int .i64 n, .int .i64 p, .bool wr] w fun e w' => e = .returned (.bool (mayF s n p wr)) ∧ Below w.heap.size w w' := by
  have HO : Hid (mayF s n p wr = false) := mayF_no hm
  have HM := Lib.hid hm
  clear hm
  have hk0 := keep_alloc h (.cells #[.pointer (some ⟨b, 0, none⟩)] 40)
  have hp0 : (w.alloc (.cells #[.pointer (some ⟨b, 0, none⟩)] 40)).cell? ⟨w.heap.size, 0, none⟩ = some (.pointer (some ⟨b, 0, none⟩)) := by rw [cell_at (heap_alloc_new _ _)]; rfl
  have F0 := (Fr.refl w).alloc (.cells #[.pointer (some ⟨b, 0, none⟩)] 40)
  go_enter Try.func55, Try.ntmps55
  go_wp2_with fail
  refine (may_v HM.out _).mono ?_
  rintro e w1 ⟨rfl, hb1⟩
  have k1 := keepB hb1 hk0
  have p1 := hcell hb1 hp0
  have F1 := F0.step hb1
  have FE := Lib.hid F1.1
  clear F1
  go_wp2
  go_ret
  exact ⟨by rw [HO.out]; rfl, FE.out⟩
set_option maxRecDepth 100000 in
set_option maxHeartbeats 2000000 in
theorem pmay_else (b : Nat) (s : FS) (n : Int) (p : Int) (wr : Bool) (w : World) (ok : OkF s) (h : w.heap[b]? = some (.cells (cellsF s) 31)) (hm : mayB n p wr = true) (h0 : n ≠ 384) (h1 : ¬ (3072 ≤ n ∧ n ≤ 3074)) :
    Calls Try.prog 55 #[.pointer (some ⟨b, 0, none⟩), .int .i64 n, .int .i64 p, .bool wr] w fun e w' => e = .returned (.bool (mayF s n p wr)) ∧ Below w.heap.size w w' := by
  have HO : Hid (mayF s n p wr = true) := mayF_else hm h0 h1
  have HM := Lib.hid hm
  have b0 : (n == 384) = false := by simpa using h0
  have b1 : (n == 3072) = false := by simp; omega
  have b2 : (n == 3073) = false := by simp; omega
  have b3 : (n == 3074) = false := by simp; omega
  clear hm h0 h1
  have hk0 := keep_alloc h (.cells #[.pointer (some ⟨b, 0, none⟩)] 40)
  have hp0 : (w.alloc (.cells #[.pointer (some ⟨b, 0, none⟩)] 40)).cell? ⟨w.heap.size, 0, none⟩ = some (.pointer (some ⟨b, 0, none⟩)) := by rw [cell_at (heap_alloc_new _ _)]; rfl
  have F0 := (Fr.refl w).alloc (.cells #[.pointer (some ⟨b, 0, none⟩)] 40)
  go_enter Try.func55, Try.ntmps55
  go_wp2_with fail
  refine (may_v HM.out _).mono ?_
  rintro e w1 ⟨rfl, hb1⟩
  have k1 := keepB hb1 hk0
  have p1 := hcell hb1 hp0
  have F1 := F0.step hb1
  have FE := Lib.hid F1.1
  clear F1
  go_wp2
  go_ret
  exact ⟨by rw [HO.out]; rfl, FE.out⟩
set_option maxRecDepth 100000 in
set_option maxHeartbeats 2000000 in
theorem pmay_384x (b : Nat) (s : FS) (p : Int) (wr : Bool) (w : World) (ok : OkF s) (h : w.heap[b]? = some (.cells (cellsF s) 31)) (hm : mayB 384 p wr = true) (h1 : p ≠ 1) :
    Calls Try.prog 55 #[.pointer (some ⟨b, 0, none⟩), .int .i64 384, .int .i64 p, .bool wr] w fun e w' => e = .returned (.bool (mayF s 384 p wr)) ∧ Below w.heap.size w w' := by
  have HO : Hid (mayF s 384 p wr = true) := by show _ = _; rw [mayF_384 hm]; simp [h1]
  have HM := Lib.hid hm
  have b1 : (p == 1) = false := by simpa using h1
  have b2 : (p != 1) = true := by simpa using h1
  clear hm h1
  have hk0 := keep_alloc h (.cells #[.pointer (some ⟨b, 0, none⟩)] 40)
  have hp0 : (w.alloc (.cells #[.pointer (some ⟨b, 0, none⟩)] 40)).cell? ⟨w.heap.size, 0, none⟩ = some (.pointer (some ⟨b, 0, none⟩)) := by rw [cell_at (heap_alloc_new _ _)]; rfl
  have F0 := (Fr.refl w).alloc (.cells #[.pointer (some ⟨b, 0, none⟩)] 40)
  go_enter Try.func55, Try.ntmps55
  go_wp2_with fail
  refine (may_v HM.out _).mono ?_
  rintro e w1 ⟨rfl, hb1⟩
  have k1 := keepB hb1 hk0
  have p1 := hcell hb1 hp0
  have F1 := F0.step hb1
  have FE := Lib.hid F1.1
  clear F1
  go_wp2
  go_ret
  exact ⟨by rw [HO.out]; rfl, FE.out⟩
set_option maxRecDepth 100000 in
set_option maxHeartbeats 2000000 in
theorem pmay_384s (b : Nat) (s : FS) (wr : Bool) (w : World) (ok : OkF s) (h : w.heap[b]? = some (.cells (cellsF s) 31)) (hm : mayB 384 1 wr = true) :
    Calls Try.prog 55 #[.pointer (some ⟨b, 0, none⟩), .int .i64 384, .int .i64 1, .bool wr] w fun e w' => e = .returned (.bool (mayF s 384 1 wr)) ∧ Below w.heap.size w w' := by
  obtain ⟨q, hq⟩ : ∃ q, (s.g 7).testBit 20 = q := ⟨_, rfl⟩
  have HO : Hid (mayF s 384 1 wr = !q) := by show _ = _; rw [mayF_384 hm, hq]; simp
  have HM := Lib.hid hm
  have HQ := Lib.hid hq
  have h7 := ok.g 7
  clear hm hq
  have hk0 := keep_alloc h (.cells #[.pointer (some ⟨b, 0, none⟩)] 40)
  have hp0 : (w.alloc (.cells #[.pointer (some ⟨b, 0, none⟩)] 40)).cell? ⟨w.heap.size, 0, none⟩ = some (.pointer (some ⟨b, 0, none⟩)) := by rw [cell_at (heap_alloc_new _ _)]; rfl
  have F0 := (Fr.refl w).alloc (.cells #[.pointer (some ⟨b, 0, none⟩)] 40)
  go_enter Try.func55, Try.ntmps55
  go_wp2_with fail
  refine (may_v HM.out _).mono ?_
  rintro e w1 ⟨rfl, hb1⟩
  have k1 := keepB hb1 hk0
  have p1 := hcell hb1 hp0
  have F1 := F0.step hb1
  go_wp2_with fail
  refine (word_some (n := 768) (k := 7) (by decide) _ k1).mono ?_
  rintro e w2 ⟨rfl, hb2⟩
  have k2 := keepB hb2 k1
  have g2 := knownFg k2 (i := 7) (by omega)
  have FE := Lib.hid (F1.step hb2).1
  go_wp2_with fail
  refine (has_tvm HQ.out _ h7).mono ?_
  rintro e w3 ⟨rfl, rfl⟩
  go_wp2
  go_ret
  exact ⟨by rw [HO.out]; rfl, FE.out⟩
set_option maxRecDepth 100000 in
set_option maxHeartbeats 2000000 in
theorem pmay_3072_3 (b : Nat) (s : FS) (wr : Bool) (w : World) (ok : OkF s) (h : w.heap[b]? = some (.cells (cellsF s) 31)) (hm : mayB 3072 3 wr = true) :
    Calls Try.prog 55 #[.pointer (some ⟨b, 0, none⟩), .int .i64 3072, .int .i64 3, .bool wr] w fun e w' => e = .returned (.bool (mayF s 3072 3 wr)) ∧ Below w.heap.size w w' := by
  obtain ⟨q1, hq1⟩ : ∃ q, (s.g 12).testBit 0 = q := ⟨_, rfl⟩
  obtain ⟨q2, hq2⟩ : ∃ q, (s.g 1).testBit 0 = q := ⟨_, rfl⟩
  have HO : Hid (mayF s 3072 3 wr = true) := by
    show _ = _
    rw [mayF_ctr hm (by omega) (by omega), show ((3072 : Int) - 3072).toNat = 0 from rfl, hq1, hq2]
    simp
  have HM := Lib.hid hm
  have HQ1 := Lib.hid hq1
  have HQ2 := Lib.hid hq2
  clear hm hq1 hq2
  have hk0 := keep_alloc h (.cells #[.pointer (some ⟨b, 0, none⟩)] 40)
  have hp0 : (w.alloc (.cells #[.pointer (some ⟨b, 0, none⟩)] 40)).cell? ⟨w.heap.size, 0, none⟩ = some (.pointer (some ⟨b, 0, none⟩)) := by rw [cell_at (heap_alloc_new _ _)]; rfl
  have F0 := (Fr.refl w).alloc (.cells #[.pointer (some ⟨b, 0, none⟩)] 40)
  go_enter Try.func55, Try.ntmps55
  go_wp2_with fail
  refine (may_v HM.out _).mono ?_
  rintro e w1 ⟨rfl, hb1⟩
  have k1 := keepB hb1 hk0
  have p1 := hcell hb1 hp0
  have F1 := F0.step hb1
  have FE := Lib.hid (F1.alloc (.cells #[.int .u64 0] 97)).1
  clear F1
  go_wp2
  go_ret
  exact ⟨by rw [HO.out]; rfl, FE.out⟩
set_option maxRecDepth 100000 in
set_option maxHeartbeats 2000000 in
theorem pmay_3072_0 (b : Nat) (s : FS) (wr : Bool) (w : World) (ok : OkF s) (h : w.heap[b]? = some (.cells (cellsF s) 31)) (hm : mayB 3072 0 wr = true) :
    Calls Try.prog 55 #[.pointer (some ⟨b, 0, none⟩), .int .i64 3072, .int .i64 0, .bool wr] w fun e w' => e = .returned (.bool (mayF s 3072 0 wr)) ∧ Below w.heap.size w w' := by
  obtain ⟨q1, hq1⟩ : ∃ q, (s.g 12).testBit 0 = q := ⟨_, rfl⟩
  obtain ⟨q2, hq2⟩ : ∃ q, (s.g 1).testBit 0 = q := ⟨_, rfl⟩
  have HO : Hid (mayF s 3072 0 wr = (q1 && q2)) := by
    show _ = _
    rw [mayF_ctr hm (by omega) (by omega), show ((3072 : Int) - 3072).toNat = 0 from rfl, hq1, hq2]
    simp
  have HM := Lib.hid hm
  have HQ1 := Lib.hid hq1
  have HQ2 := Lib.hid hq2
  clear hm hq1 hq2
  have hk0 := keep_alloc h (.cells #[.pointer (some ⟨b, 0, none⟩)] 40)
  have hp0 : (w.alloc (.cells #[.pointer (some ⟨b, 0, none⟩)] 40)).cell? ⟨w.heap.size, 0, none⟩ = some (.pointer (some ⟨b, 0, none⟩)) := by rw [cell_at (heap_alloc_new _ _)]; rfl
  have F0 := (Fr.refl w).alloc (.cells #[.pointer (some ⟨b, 0, none⟩)] 40)
  go_enter Try.func55, Try.ntmps55
  go_wp2_with fail
  refine (may_v HM.out _).mono ?_
  rintro e w1 ⟨rfl, hb1⟩
  have k1 := keepB hb1 hk0
  have p1 := hcell hb1 hp0
  have F1 := F0.step hb1
  have k2 := keep_alloc k1 (.cells #[.int .u64 0] 97)
  have p2 : (w1.alloc (.cells #[.int .u64 0] 97)).cell? ⟨w.heap.size, 0, none⟩ = some (.pointer (some ⟨b, 0, none⟩)) := hcell ((Below.refl _ w1).alloc (Nat.le_refl _) _) p1
  have a2 : (w1.alloc (.cells #[.int .u64 0] 97)).cell? ⟨w1.heap.size, 0, none⟩ = some (.int .u64 ((0 : Nat) : Int)) := by rw [cell_at (heap_alloc_new _ _)]; rfl
  have F2 := F1.alloc (.cells #[.int .u64 0] 97)
  have K2 := Lib.hid k2
  have P2 := Lib.hid p2
  have A2 := Lib.hid a2
  clear k2 p2 a2
  go_wp2_with fail
  refine (lets_v (k := 12) (a := 0) HQ1.out _ ok (by decide) (by omega) K2.out P2.out A2.out).mono ?_
  rintro e w3 ⟨rfl, hb3⟩
  have F3 := F2.step hb3
  have K3 := Lib.hid (keepB hb3 K2.out)
  have P3 := Lib.hid (hcell hb3 P2.out)
  have A3 := Lib.hid (hcell hb3 A2.out)
  cases q1
  · have FE := Lib.hid F3.1
    clear F3 F2 F1
    go_wp2
    go_ret
    exact ⟨by rw [HO.out]; rfl, FE.out⟩
  · go_wp2_with fail
    refine (lets_v (k := 1) (a := 0) HQ2.out _ ok (by decide) (by omega) K3.out P3.out A3.out).mono ?_
    rintro e w4 ⟨rfl, hb4⟩
    have FE := Lib.hid (F3.step hb4).1
    clear F3 F2 F1
    go_wp2
    go_ret
    exact ⟨by rw [HO.out]; rfl, FE.out⟩
set_option maxRecDepth 100000 in
set_option maxHeartbeats 2000000 in
theorem pmay_3072_1 (b : Nat) (s : FS) (wr : Bool) (w : World) (ok : OkF s) (h : w.heap[b]? = some (.cells (cellsF s) 31)) (hm : mayB 3072 1 wr = true) :
    Calls Try.prog 55 #[.pointer (some ⟨b, 0, none⟩), .int .i64 3072, .int .i64 1, .bool wr] w fun e w' => e = .returned (.bool (mayF s 3072 1 wr)) ∧ Below w.heap.size w w' := by
  obtain ⟨q1, hq1⟩ : ∃ q, (s.g 12).testBit 0 = q := ⟨_, rfl⟩
  obtain ⟨q2, hq2⟩ : ∃ q, (s.g 1).testBit 0 = q := ⟨_, rfl⟩
  have HO : Hid (mayF s 3072 1 wr = q1) := by
    show _ = _
    rw [mayF_ctr hm (by omega) (by omega), show ((3072 : Int) - 3072).toNat = 0 from rfl, hq1, hq2]
    simp
  have HM := Lib.hid hm
  have HQ1 := Lib.hid hq1
  have HQ2 := Lib.hid hq2
  clear hm hq1 hq2
  have hk0 := keep_alloc h (.cells #[.pointer (some ⟨b, 0, none⟩)] 40)
  have hp0 : (w.alloc (.cells #[.pointer (some ⟨b, 0, none⟩)] 40)).cell? ⟨w.heap.size, 0, none⟩ = some (.pointer (some ⟨b, 0, none⟩)) := by rw [cell_at (heap_alloc_new _ _)]; rfl
  have F0 := (Fr.refl w).alloc (.cells #[.pointer (some ⟨b, 0, none⟩)] 40)
  go_enter Try.func55, Try.ntmps55
  go_wp2_with fail
  refine (may_v HM.out _).mono ?_
  rintro e w1 ⟨rfl, hb1⟩
  have k1 := keepB hb1 hk0
  have p1 := hcell hb1 hp0
  have F1 := F0.step hb1
  have k2 := keep_alloc k1 (.cells #[.int .u64 0] 97)
  have p2 : (w1.alloc (.cells #[.int .u64 0] 97)).cell? ⟨w.heap.size, 0, none⟩ = some (.pointer (some ⟨b, 0, none⟩)) := hcell ((Below.refl _ w1).alloc (Nat.le_refl _) _) p1
  have a2 : (w1.alloc (.cells #[.int .u64 0] 97)).cell? ⟨w1.heap.size, 0, none⟩ = some (.int .u64 ((0 : Nat) : Int)) := by rw [cell_at (heap_alloc_new _ _)]; rfl
  have F2 := F1.alloc (.cells #[.int .u64 0] 97)
  have K2 := Lib.hid k2
  have P2 := Lib.hid p2
  have A2 := Lib.hid a2
  clear k2 p2 a2
  go_wp2_with fail
  refine (lets_v (k := 12) (a := 0) HQ1.out _ ok (by decide) (by omega) K2.out P2.out A2.out).mono ?_
  rintro e w3 ⟨rfl, hb3⟩
  have F3 := F2.step hb3
  have FE := Lib.hid F3.1
  clear F3 F2 F1
  cases q1
  all_goals
    go_wp2
    go_ret
    exact ⟨by rw [HO.out]; rfl, FE.out⟩
set_option maxRecDepth 100000 in
set_option maxHeartbeats 2000000 in
theorem pmay_3073_3 (b : Nat) (s : FS) (wr : Bool) (w : World) (ok : OkF s) (h : w.heap[b]? = some (.cells (cellsF s) 31)) (hm : mayB 3073 3 wr = true) :
    Calls Try.prog 55 #[.pointer (some ⟨b, 0, none⟩), .int .i64 3073, .int .i64 3, .bool wr] w fun e w' => e = .returned (.bool (mayF s 3073 3 wr)) ∧ Below w.heap.size w w' := by
  obtain ⟨q1, hq1⟩ : ∃ q, (s.g 12).testBit 1 = q := ⟨_, rfl⟩
  obtain ⟨q2, hq2⟩ : ∃ q, (s.g 1).testBit 1 = q := ⟨_, rfl⟩
  have HO : Hid (mayF s 3073 3 wr = true) := by
    show _ = _
    rw [mayF_ctr hm (by omega) (by omega), show ((3073 : Int) - 3072).toNat = 1 from rfl, hq1, hq2]
    simp
  have HM := Lib.hid hm
  have HQ1 := Lib.hid hq1
  have HQ2 := Lib.hid hq2
  clear hm hq1 hq2
  have hk0 := keep_alloc h (.cells #[.pointer (some ⟨b, 0, none⟩)] 40)
  have hp0 : (w.alloc (.cells #[.pointer (some ⟨b, 0, none⟩)] 40)).cell? ⟨w.heap.size, 0, none⟩ = some (.pointer (some ⟨b, 0, none⟩)) := by rw [cell_at (heap_alloc_new _ _)]; rfl
  have F0 := (Fr.refl w).alloc (.cells #[.pointer (some ⟨b, 0, none⟩)] 40)
  go_enter Try.func55, Try.ntmps55
  go_wp2_with fail
  refine (may_v HM.out _).mono ?_
  rintro e w1 ⟨rfl, hb1⟩
  have k1 := keepB hb1 hk0
  have p1 := hcell hb1 hp0
  have F1 := F0.step hb1
  have FE := Lib.hid (F1.alloc (.cells #[.int .u64 1] 97)).1
  clear F1
  go_wp2
  go_ret
  exact ⟨by rw [HO.out]; rfl, FE.out⟩
set_option maxRecDepth 100000 in
set_option maxHeartbeats 2000000 in
theorem pmay_3073_0 (b : Nat) (s : FS) (wr : Bool) (w : World) (ok : OkF s) (h : w.heap[b]? = some (.cells (cellsF s) 31)) (hm : mayB 3073 0 wr = true) :
    Calls Try.prog 55 #[.pointer (some ⟨b, 0, none⟩), .int .i64 3073, .int .i64 0, .bool wr] w fun e w' => e = .returned (.bool (mayF s 3073 0 wr)) ∧ Below w.heap.size w w' := by
  obtain ⟨q1, hq1⟩ : ∃ q, (s.g 12).testBit 1 = q := ⟨_, rfl⟩
  obtain ⟨q2, hq2⟩ : ∃ q, (s.g 1).testBit 1 = q := ⟨_, rfl⟩
  have HO : Hid (mayF s 3073 0 wr = (q1 && q2)) := by
    show _ = _
    rw [mayF_ctr hm (by omega) (by omega), show ((3073 : Int) - 3072).toNat = 1 from rfl, hq1, hq2]
    simp
  have HM := Lib.hid hm
  have HQ1 := Lib.hid hq1
  have HQ2 := Lib.hid hq2
  clear hm hq1 hq2
  have hk0 := keep_alloc h (.cells #[.pointer (some ⟨b, 0, none⟩)] 40)
  have hp0 : (w.alloc (.cells #[.pointer (some ⟨b, 0, none⟩)] 40)).cell? ⟨w.heap.size, 0, none⟩ = some (.pointer (some ⟨b, 0, none⟩)) := by rw [cell_at (heap_alloc_new _ _)]; rfl
  have F0 := (Fr.refl w).alloc (.cells #[.pointer (some ⟨b, 0, none⟩)] 40)
  go_enter Try.func55, Try.ntmps55
  go_wp2_with fail
  refine (may_v HM.out _).mono ?_
  rintro e w1 ⟨rfl, hb1⟩
  have k1 := keepB hb1 hk0
  have p1 := hcell hb1 hp0
  have F1 := F0.step hb1
  have k2 := keep_alloc k1 (.cells #[.int .u64 1] 97)
  have p2 : (w1.alloc (.cells #[.int .u64 1] 97)).cell? ⟨w.heap.size, 0, none⟩ = some (.pointer (some ⟨b, 0, none⟩)) := hcell ((Below.refl _ w1).alloc (Nat.le_refl _) _) p1
  have a2 : (w1.alloc (.cells #[.int .u64 1] 97)).cell? ⟨w1.heap.size, 0, none⟩ = some (.int .u64 ((1 : Nat) : Int)) := by rw [cell_at (heap_alloc_new _ _)]; rfl
  have F2 := F1.alloc (.cells #[.int .u64 1] 97)
  have K2 := Lib.hid k2
  have P2 := Lib.hid p2
  have A2 := Lib.hid a2
  clear k2 p2 a2
  go_wp2_with fail
  refine (lets_v (k := 12) (a := 1) HQ1.out _ ok (by decide) (by omega) K2.out P2.out A2.out).mono ?_
  rintro e w3 ⟨rfl, hb3⟩
  have F3 := F2.step hb3
  have K3 := Lib.hid (keepB hb3 K2.out)
  have P3 := Lib.hid (hcell hb3 P2.out)
  have A3 := Lib.hid (hcell hb3 A2.out)
  cases q1
  · have FE := Lib.hid F3.1
    clear F3 F2 F1
    go_wp2
    go_ret
    exact ⟨by rw [HO.out]; rfl, FE.out⟩
  · go_wp2_with fail
    refine (lets_v (k := 1) (a := 1) HQ2.out _ ok (by decide) (by omega) K3.out P3.out A3.out).mono ?_
    rintro e w4 ⟨rfl, hb4⟩
    have FE := Lib.hid (F3.step hb4).1
    clear F3 F2 F1
    go_wp2
    go_ret
    exact ⟨by rw [HO.out]; rfl, FE.out⟩
set_option maxRecDepth 100000 in
set_option maxHeartbeats 2000000 in
theorem pmay_3073_1 (b : Nat) (s : FS) (wr : Bool) (w : World) (ok : OkF s) (h : w.heap[b]? = some (.cells (cellsF s) 31)) (hm : mayB 3073 1 wr = true) :
    Calls Try.prog 55 #[.pointer (some ⟨b, 0, none⟩), .int .i64 3073, .int .i64 1, .bool wr] w fun e w' => e = .returned (.bool (mayF s 3073 1 wr)) ∧ Below w.heap.size w w' := by
  obtain ⟨q1, hq1⟩ : ∃ q, (s.g 12).testBit 1 = q := ⟨_, rfl⟩
  obtain ⟨q2, hq2⟩ : ∃ q, (s.g 1).testBit 1 = q := ⟨_, rfl⟩
  have HO : Hid (mayF s 3073 1 wr = q1) := by
    show _ = _
    rw [mayF_ctr hm (by omega) (by omega), show ((3073 : Int) - 3072).toNat = 1 from rfl, hq1, hq2]
    simp
  have HM := Lib.hid hm
  have HQ1 := Lib.hid hq1
  have HQ2 := Lib.hid hq2
  clear hm hq1 hq2
  have hk0 := keep_alloc h (.cells #[.pointer (some ⟨b, 0, none⟩)] 40)
  have hp0 : (w.alloc (.cells #[.pointer (some ⟨b, 0, none⟩)] 40)).cell? ⟨w.heap.size, 0, none⟩ = some (.pointer (some ⟨b, 0, none⟩)) := by rw [cell_at (heap_alloc_new _ _)]; rfl
  have F0 := (Fr.refl w).alloc (.cells #[.pointer (some ⟨b, 0, none⟩)] 40)
  go_enter Try.func55, Try.ntmps55
  go_wp2_with fail
  refine (may_v HM.out _).mono ?_
  rintro e w1 ⟨rfl, hb1⟩
  have k1 := keepB hb1 hk0
  have p1 := hcell hb1 hp0
  have F1 := F0.step hb1
  have k2 := keep_alloc k1 (.cells #[.int .u64 1] 97)
  have p2 : (w1.alloc (.cells #[.int .u64 1] 97)).cell? ⟨w.heap.size, 0, none⟩ = some (.pointer (some ⟨b, 0, none⟩)) := hcell ((Below.refl _ w1).alloc (Nat.le_refl _) _) p1
  have a2 : (w1.alloc (.cells #[.int .u64 1] 97)).cell? ⟨w1.heap.size, 0, none⟩ = some (.int .u64 ((1 : Nat) : Int)) := by rw [cell_at (heap_alloc_new _ _)]; rfl
  have F2 := F1.alloc (.cells #[.int .u64 1] 97)
  have K2 := Lib.hid k2
  have P2 := Lib.hid p2
  have A2 := Lib.hid a2
  clear k2 p2 a2
  go_wp2_with fail
  refine (lets_v (k := 12) (a := 1) HQ1.out _ ok (by decide) (by omega) K2.out P2.out A2.out).mono ?_
  rintro e w3 ⟨rfl, hb3⟩
  have F3 := F2.step hb3
  have FE := Lib.hid F3.1
  clear F3 F2 F1
  cases q1
  all_goals
    go_wp2
    go_ret
    exact ⟨by rw [HO.out]; rfl, FE.out⟩
set_option maxRecDepth 100000 in
set_option maxHeartbeats 2000000 in
theorem pmay_3074_3 (b : Nat) (s : FS) (wr : Bool) (w : World) (ok : OkF s) (h : w.heap[b]? = some (.cells (cellsF s) 31)) (hm : mayB 3074 3 wr = true) :
    Calls Try.prog 55 #[.pointer (some ⟨b, 0, none⟩), .int .i64 3074, .int .i64 3, .bool wr] w fun e w' => e = .returned (.bool (mayF s 3074 3 wr)) ∧ Below w.heap.size w w' := by
  obtain ⟨q1, hq1⟩ : ∃ q, (s.g 12).testBit 2 = q := ⟨_, rfl⟩
  obtain ⟨q2, hq2⟩ : ∃ q, (s.g 1).testBit 2 = q := ⟨_, rfl⟩
  have HO : Hid (mayF s 3074 3 wr = true) := by
    show _ = _
    rw [mayF_ctr hm (by omega) (by omega), show ((3074 : Int) - 3072).toNat = 2 from rfl, hq1, hq2]
    simp
  have HM := Lib.hid hm
  have HQ1 := Lib.hid hq1
  have HQ2 := Lib.hid hq2
  clear hm hq1 hq2
  have hk0 := keep_alloc h (.cells #[.pointer (some ⟨b, 0, none⟩)] 40)
  have hp0 : (w.alloc (.cells #[.pointer (some ⟨b, 0, none⟩)] 40)).cell? ⟨w.heap.size, 0, none⟩ = some (.pointer (some ⟨b, 0, none⟩)) := by rw [cell_at (heap_alloc_new _ _)]; rfl
  have F0 := (Fr.refl w).alloc (.cells #[.pointer (some ⟨b, 0, none⟩)] 40)
  go_enter Try.func55, Try.ntmps55
  go_wp2_with fail
  refine (may_v HM.out _).mono ?_
  rintro e w1 ⟨rfl, hb1⟩
  have k1 := keepB hb1 hk0
  have p1 := hcell hb1 hp0
  have F1 := F0.step hb1
  have FE := Lib.hid (F1.alloc (.cells #[.int .u64 2] 97)).1
  clear F1
  go_wp2
  go_ret
  exact ⟨by rw [HO.out]; rfl, FE.out⟩
set_option maxRecDepth 100000 in
set_option maxHeartbeats 2000000 in
theorem pmay_3074_0 (b : Nat) (s : FS) (wr : Bool) (w : World) (ok : OkF s) (h : w.heap[b]? = some (.cells (cellsF s) 31)) (hm : mayB 3074 0 wr = true) :
    Calls Try.prog 55 #[.pointer (some ⟨b, 0, none⟩), .int .i64 3074, .int .i64 0, .bool wr] w fun e w' => e = .returned (.bool (mayF s 3074 0 wr)) ∧ Below w.heap.size w w' := by
  obtain ⟨q1, hq1⟩ : ∃ q, (s.g 12).testBit 2 = q := ⟨_, rfl⟩
  obtain ⟨q2, hq2⟩ : ∃ q, (s.g 1).testBit 2 = q := ⟨_, rfl⟩
  have HO : Hid (mayF s 3074 0 wr = (q1 && q2)) := by
    show _ = _
    rw [mayF_ctr hm (by omega) (by omega), show ((3074 : Int) - 3072).toNat = 2 from rfl, hq1, hq2]
    simp
  have HM := Lib.hid hm
  have HQ1 := Lib.hid hq1
  have HQ2 := Lib.hid hq2
  clear hm hq1 hq2
  have hk0 := keep_alloc h (.cells #[.pointer (some ⟨b, 0, none⟩)] 40)
  have hp0 : (w.alloc (.cells #[.pointer (some ⟨b, 0, none⟩)] 40)).cell? ⟨w.heap.size, 0, none⟩ = some (.pointer (some ⟨b, 0, none⟩)) := by rw [cell_at (heap_alloc_new _ _)]; rfl
  have F0 := (Fr.refl w).alloc (.cells #[.pointer (some ⟨b, 0, none⟩)] 40)
  go_enter Try.func55, Try.ntmps55
  go_wp2_with fail
  refine (may_v HM.out _).mono ?_
  rintro e w1 ⟨rfl, hb1⟩
  have k1 := keepB hb1 hk0
  have p1 := hcell hb1 hp0
  have F1 := F0.step hb1
  have k2 := keep_alloc k1 (.cells #[.int .u64 2] 97)
  have p2 : (w1.alloc (.cells #[.int .u64 2] 97)).cell? ⟨w.heap.size, 0, none⟩ = some (.pointer (some ⟨b, 0, none⟩)) := hcell ((Below.refl _ w1).alloc (Nat.le_refl _) _) p1
  have a2 : (w1.alloc (.cells #[.int .u64 2] 97)).cell? ⟨w1.heap.size, 0, none⟩ = some (.int .u64 ((2 : Nat) : Int)) := by rw [cell_at (heap_alloc_new _ _)]; rfl
  have F2 := F1.alloc (.cells #[.int .u64 2] 97)
  have K2 := Lib.hid k2
  have P2 := Lib.hid p2
  have A2 := Lib.hid a2
  clear k2 p2 a2
  go_wp2_with fail
  refine (lets_v (k := 12) (a := 2) HQ1.out _ ok (by decide) (by omega) K2.out P2.out A2.out).mono ?_
  rintro e w3 ⟨rfl, hb3⟩
  have F3 := F2.step hb3
  have K3 := Lib.hid (keepB hb3 K2.out)
  have P3 := Lib.hid (hcell hb3 P2.out)
  have A3 := Lib.hid (hcell hb3 A2.out)
  cases q1
  · have FE := Lib.hid F3.1
    clear F3 F2 F1
    go_wp2
    go_ret
    exact ⟨by rw [HO.out]; rfl, FE.out⟩
  · go_wp2_with fail
    refine (lets_v (k := 1) (a := 2) HQ2.out _ ok (by decide) (by omega) K3.out P3.out A3.out).mono ?_
    rintro e w4 ⟨rfl, hb4⟩
    have FE := Lib.hid (F3.step hb4).1
    clear F3 F2 F1
    go_wp2
    go_ret
    exact ⟨by rw [HO.out]; rfl, FE.out⟩
set_option maxRecDepth 100000 in
set_option maxHeartbeats 2000000 in
theorem pmay_3074_1 (b : Nat) (s : FS) (wr : Bool) (w : World) (ok : OkF s) (h : w.heap[b]? = some (.cells (cellsF s) 31)) (hm : mayB 3074 1 wr = true) :
    Calls Try.prog 55 #[.pointer (some ⟨b, 0, none⟩), .int .i64 3074, .int .i64 1, .bool wr] w fun e w' => e = .returned (.bool (mayF s 3074 1 wr)) ∧ Below w.heap.size w w' := by
  obtain ⟨q1, hq1⟩ : ∃ q, (s.g 12).testBit 2 = q := ⟨_, rfl⟩
  obtain ⟨q2, hq2⟩ : ∃ q, (s.g 1).testBit 2 = q := ⟨_, rfl⟩
  have HO : Hid (mayF s 3074 1 wr = q1) := by
    show _ = _
    rw [mayF_ctr hm (by omega) (by omega), show ((3074 : Int) - 3072).toNat = 2 from rfl, hq1, hq2]
    simp
  have HM := Lib.hid hm
  have HQ1 := Lib.hid hq1
  have HQ2 := Lib.hid hq2
  clear hm hq1 hq2
  have hk0 := keep_alloc h (.cells #[.pointer (some ⟨b, 0, none⟩)] 40)
  have hp0 : (w.alloc (.cells #[.pointer (some ⟨b, 0, none⟩)] 40)).cell? ⟨w.heap.size, 0, none⟩ = some (.pointer (some ⟨b, 0, none⟩)) := by rw [cell_at (heap_alloc_new _ _)]; rfl
  have F0 := (Fr.refl w).alloc (.cells #[.pointer (some ⟨b, 0, none⟩)] 40)
  go_enter Try.func55, Try.ntmps55
  go_wp2_with fail
  refine (may_v HM.out _).mono ?_
  rintro e w1 ⟨rfl, hb1⟩
  have k1 := keepB hb1 hk0
  have p1 := hcell hb1 hp0
  have F1 := F0.step hb1
  have k2 := keep_alloc k1 (.cells #[.int .u64 2] 97)
  have p2 : (w1.alloc (.cells #[.int .u64 2] 97)).cell? ⟨w.heap.size, 0, none⟩ = some (.pointer (some ⟨b, 0, none⟩)) := hcell ((Below.refl _ w1).alloc (Nat.le_refl _) _) p1
  have a2 : (w1.alloc (.cells #[.int .u64 2] 97)).cell? ⟨w1.heap.size, 0, none⟩ = some (.int .u64 ((2 : Nat) : Int)) := by rw [cell_at (heap_alloc_new _ _)]; rfl
  have F2 := F1.alloc (.cells #[.int .u64 2] 97)
  have K2 := Lib.hid k2
  have P2 := Lib.hid p2
  have A2 := Lib.hid a2
  clear k2 p2 a2
  go_wp2_with fail
  refine (lets_v (k := 12) (a := 2) HQ1.out _ ok (by decide) (by omega) K2.out P2.out A2.out).mono ?_
  rintro e w3 ⟨rfl, hb3⟩
  have F3 := F2.step hb3
  have FE := Lib.hid F3.1
  clear F3 F2 F1
  cases q1
  all_goals
    go_wp2
    go_ret
    exact ⟨by rw [HO.out]; rfl, FE.out⟩
theorem pmay_any (b : Nat) (s : FS) (n p : Int) (wr : Bool) (w : World) (ok : OkF s) (h : w.heap[b]? = some (.cells (cellsF s) 31)) :
    Calls Try.prog 55 #[.pointer (some ⟨b, 0, none⟩), .int .i64 n, .int .i64 p, .bool wr] w fun e w' => e = .returned (.bool (mayF s n p wr)) ∧ Below w.heap.size w w' := by
  cases hm : mayB n p wr
  · exact pmay_no b s n p wr w ok h hm
  by_cases h0 : n = 384
  · subst h0
    by_cases h1 : p = 1
    · subst h1; exact pmay_384s b s wr w ok h hm
    · exact pmay_384x b s p wr w ok h hm h1
  by_cases h1 : 3072 ≤ n ∧ n ≤ 3074
  · have e : n = 3072 ∨ n = 3073 ∨ n = 3074 := by omega
    rcases e with rfl | rfl | rfl
    · rcases mayB_priv hm with rfl | rfl | rfl
      · exact pmay_3072_0 b s wr w ok h hm
      · exact pmay_3072_1 b s wr w ok h hm
      · exact pmay_3072_3 b s wr w ok h hm
    · rcases mayB_priv hm with rfl | rfl | rfl
      · exact pmay_3073_0 b s wr w ok h hm
      · exact pmay_3073_1 b s wr w ok h hm
      · exact pmay_3073_3 b s wr w ok h hm
    · rcases mayB_priv hm with rfl | rfl | rfl
      · exact pmay_3074_0 b s wr w ok h hm
      · exact pmay_3074_1 b s wr w ok h hm
      · exact pmay_3074_3 b s wr w ok h hm
  · exact pmay_else b s n p wr w ok h hm h0 h1
end Go.Proofs.Ythkkfdhgpaonjaa
