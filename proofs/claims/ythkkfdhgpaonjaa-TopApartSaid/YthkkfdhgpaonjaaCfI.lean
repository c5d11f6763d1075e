/- The document's CSR file: Get. -/
import Derived.Test.YthkkfdhgpaonjaaCfH
import Derived.Deep.RegionHeld3
namespace Go.Proofs.Ythkkfdhgpaonjaa
open Go.RowKit
set_option linter.unusedSimpArgs false
set_option linter.unusedVariables false

theorem run_field1 (a b c : Value) (w : World) : (Instr.field 52 (.agg #[a, b, c]) 1).run Try.prog w = .ok b w := by kernel_rfl
theorem heldR {w w' : World} {B b : Nat} {o : Obj} {w0 : World} (hb : Below w.heap.size w w') (h : Fr B w0 w ∧ w.heap[b]? = some o) : Fr B w0 w' ∧ w'.heap[b]? = some o := ⟨h.1.step hb, keepB hb h.2⟩
theorem rview_h {x y : Nat} (h : viewOf x = y) (w : World) (hx : x < 18446744073709551616) :
    Calls Try.prog 49 #[.int .u64 (x : Int)] w fun e w' => e = .returned (.int .u64 (y : Int)) ∧ Below w.heap.size w w' := by
  rw [← h]; exact rview_any x w hx
/-- What a row that has a word of its own is called by none of these. -/
def GetPlain (nm : ByteArray) : Prop := nm.toList.isEmpty = false ∧ (nm.toList == [116, 105, 109, 101]) = false ∧ (nm.toList == [115, 104, 111, 111, 116]) = false ∧ (nm.toList == [109, 118, 101, 110, 100, 111, 114, 105, 100]) = false ∧ (nm.toList == [109, 97, 114, 99, 104, 105, 100]) = false ∧ (nm.toList == [109, 105, 109, 112, 105, 100]) = false ∧ (nm.toList == [115, 115, 116, 97, 116, 117, 115]) = false ∧ (nm.toList == [115, 105, 101]) = false ∧ (nm.toList == [115, 105, 112]) = false ∧ (nm.toList == [109, 105, 112]) = false ∧ (nm.toList == [109, 105, 115, 97]) = false ∧ (nm.toList == [99, 121, 99, 108, 101]) = false ∧ (nm.toList == [105, 110, 115, 116, 114, 101, 116]) = false ∧ (nm.toList == [109, 104, 97, 114, 116, 105, 100]) = false
def getSp : List Int := [3073, 1474, 3857, 3858, 3859, 256, 260, 324, 836, 769, 3072, 3074, 3860]
def plainG (r : Int × ByteArray × Nat) : Bool := getSp.contains r.1 || (!r.2.1.data.toList.isEmpty && !(r.2.1.data.toList == [116, 105, 109, 101]) && !(r.2.1.data.toList == [115, 104, 111, 111, 116]) && !(r.2.1.data.toList == [109, 118, 101, 110, 100, 111, 114, 105, 100]) && !(r.2.1.data.toList == [109, 97, 114, 99, 104, 105, 100]) && !(r.2.1.data.toList == [109, 105, 109, 112, 105, 100]) && !(r.2.1.data.toList == [115, 115, 116, 97, 116, 117, 115]) && !(r.2.1.data.toList == [115, 105, 101]) && !(r.2.1.data.toList == [115, 105, 112]) && !(r.2.1.data.toList == [109, 105, 112]) && !(r.2.1.data.toList == [109, 105, 115, 97]) && !(r.2.1.data.toList == [99, 121, 99, 108, 101]) && !(r.2.1.data.toList == [105, 110, 115, 116, 114, 101, 116]) && !(r.2.1.data.toList == [109, 104, 97, 114, 116, 105, 100]) && (match ownIx r.1, atN r.1 with | some i, some j => rowIx.getD j none == some i | _, _ => false))
theorem plainG_all : ∀ r ∈ tab19, plainG r = true := by decide +kernel
theorem plainG_of {n : Int} {r : Int × ByteArray × Nat} (h : row19 n = some r) (hn : getSp.contains n = false) : GetPlain r.2.1 ∧ ∃ i j, ownIx n = some i ∧ atN n = some j ∧ rowIx.getD j none = some i := by
  have h1 := (row19_some h).1
  have h2 := plainG_all r (List.mem_of_find?_eq_some h)
  unfold plainG at h2
  rw [h1, hn, Bool.false_or] at h2
  simp only [Bool.and_eq_true, Bool.not_eq_true'] at h2
  obtain ⟨⟨⟨⟨⟨⟨⟨⟨⟨⟨⟨⟨⟨⟨h0, a1⟩, a2⟩, a3⟩, a4⟩, a5⟩, a6⟩, a7⟩, a8⟩, a9⟩, a10⟩, a11⟩, a12⟩, a13⟩, h3⟩ := h2
  refine ⟨?_, ?_⟩
  · unfold GetPlain
    rw [ByteArray.toList_eq]
    exact ⟨h0, a1, a2, a3, a4, a5, a6, a7, a8, a9, a10, a11, a12, a13⟩
  · cases ho : ownIx n with
    | none => rw [ho] at h3; cases h3
    | some i =>
      cases ha : atN n with
      | none => rw [ho, ha] at h3; cases h3
      | some j =>
        rw [ho, ha] at h3
        exact ⟨i, j, rfl, rfl, by simpa using h3⟩
theorem ownIx_none {n : Int} (h : row19 n = none) : ownIx n = none := by
  cases ho : ownIx n with
  | none => rfl
  | some i =>
    have h1 := ownIx_lt ho
    exfalso
    have h2 : ∀ i, i < 22 → (row19 (own22.getD i 0)).isSome = true := by decide +kernel
    have := h2 i h1.1
    rw [h1.2, h] at this
    cases this
set_option maxRecDepth 100000 in
set_option maxHeartbeats 2000000 in
theorem rget_none (s : FS) (n : Int) (L : Nat) (w : World) (ok : OkF s) (hL : L < 18446744073709551616) (h : row19 n = none) :
    Calls Try.prog 86 #[.agg (cellsR s), .int .i64 n, .int .u64 (L : Int)] w fun e w' => e = .returned (.int .u64 (getOf s n L : Int)) ∧ Below w.heap.size w w' := by
  have HG : Hid (getOf s n L = 0) := by
    show _ = _
    unfold getOf
    have hh : ∀ m : Int, (row19 m).isSome = true → n ≠ m := fun m hm e => by rw [← e, h] at hm; cases hm
    rw [if_neg (hh 256 (by decide +kernel)), if_neg (hh 260 (by decide +kernel)), if_neg (hh 324 (by decide +kernel)), if_neg (hh 836 (by decide +kernel)), if_neg (hh 769 (by decide +kernel)), if_neg (hh 3072 (by decide +kernel)), if_neg (hh 3074 (by decide +kernel)), if_neg (hh 3860 (by decide +kernel)), ownIx_none h]
  have HR := Lib.hid h
  clear h
  obtain ⟨t1, ht1⟩ : ∃ t, L &&& 2696 = t := ⟨_, rfl⟩
  obtain ⟨t, ht⟩ : ∃ t, s.g 17 ||| t1 = t := ⟨_, rfl⟩
  have ht1' : t1 < 18446744073709551616 := by rw [← ht1]; exact and_lt hL
  have ht' : t < 18446744073709551616 := by rw [← ht]; exact or_lt64 (ok.g 17) ht1'
  have HTT : Hid (s.g 17 ||| (L &&& lined) = t) := by show _ = _; rw [← ht, ← ht1]; rfl
  have h17 := ok.g 17
  have HT1 := Lib.hid ht1
  have HT := Lib.hid ht
  clear ht1 ht
  have k0 := heap_alloc_new w (.cells (cellsR s) 34)
  have F0 := (Fr.refl w).alloc (.cells (cellsR s) 34)
  have ls := ldR (P := Try.prog) k0
  have l2 := sizeRv
  have fd := run_field1
  go_enter Try.func86, Try.ntmps86
  go_wp2_with fail
  refine (word_n nm_mip rfl _).mono ?_
  rintro e w1 ⟨rfl, hb1⟩
  have k1 := keepB hb1 k0
  have F1 := F0.step hb1
  go_wp2_with fail
  refine (and_v (b := 2696) HT1.out _ hL (by omega)).mono ?_
  rintro e w2 ⟨rfl, hb2⟩
  have k2 := keepB hb2 k1
  have F2 := F1.step hb2
  go_wp2_with fail
  refine (or_v HT.out _ h17 ht1').mono ?_
  rintro e w3 ⟨rfl, hb3⟩
  have k3 := keepB hb3 k2
  have F3 := F2.step hb3
  go_wp2_with fail
  refine (rof_none HR.out _).mono ?_
  rintro e w4 ⟨rfl, hb4⟩
  have k4 := keepB hb4 k3
  have F4 := F3.step hb4
  clear ls k0 k1 k2 k3 F0 F1 F2 F3 hb1 hb2 hb3 hb4
  have ls := ldR (P := Try.prog) k4
  go_wp2
  go_ret
  exact ⟨by rw [HG.out]; rfl, F4.1⟩
set_option maxRecDepth 100000 in
set_option maxHeartbeats 2000000 in
theorem rget_3073 (s : FS) (L : Nat) (w : World) (ok : OkF s) (hL : L < 18446744073709551616) :
    Calls Try.prog 86 #[.agg (cellsR s), .int .i64 3073, .int .u64 (L : Int)] w fun e w' => e = .returned (.int .u64 (getOf s 3073 L : Int)) ∧ Below w.heap.size w w' := by
  have HR : Hid (row19 3073 = some (3073, ⟨#[116, 105, 109, 101]⟩, 0)) := by show _ = _; decide +kernel
  obtain ⟨t1, ht1⟩ : ∃ t, L &&& 2696 = t := ⟨_, rfl⟩
  obtain ⟨t, ht⟩ : ∃ t, s.g 17 ||| t1 = t := ⟨_, rfl⟩
  have ht1' : t1 < 18446744073709551616 := by rw [← ht1]; exact and_lt hL
  have ht' : t < 18446744073709551616 := by rw [← ht]; exact or_lt64 (ok.g 17) ht1'
  have HTT : Hid (s.g 17 ||| (L &&& lined) = t) := by show _ = _; rw [← ht, ← ht1]; rfl
  have h17 := ok.g 17
  have HT1 := Lib.hid ht1
  have HT := Lib.hid ht
  clear ht1 ht
  have k0 := heap_alloc_new w (.cells (cellsR s) 34)
  have F0 := (Fr.refl w).alloc (.cells (cellsR s) 34)
  have ls := ldR (P := Try.prog) k0
  have l2 := sizeRv
  have fd := run_field1
  go_enter Try.func86, Try.ntmps86
  go_wp2_with fail
  refine (word_n nm_mip rfl _).mono ?_
  rintro e w1 ⟨rfl, hb1⟩
  have k1 := keepB hb1 k0
  have F1 := F0.step hb1
  go_wp2_with fail
  refine (and_v (b := 2696) HT1.out _ hL (by omega)).mono ?_
  rintro e w2 ⟨rfl, hb2⟩
  have k2 := keepB hb2 k1
  have F2 := F1.step hb2
  go_wp2_with fail
  refine (or_v HT.out _ h17 ht1').mono ?_
  rintro e w3 ⟨rfl, hb3⟩
  have k3 := keepB hb3 k2
  have F3 := F2.step hb3
  go_wp2_with fail
  refine (rof_some HR.out _).mono ?_
  rintro e w4 ⟨rfl, hb4⟩
  have k4 := keepB hb4 k3
  have F4 := F3.step hb4
  clear ls k0 k1 k2 k3 F0 F1 F2 F3 hb1 hb2 hb3 hb4
  have ls := ldR (P := Try.prog) k4
  go_wp2
  go_ret
  exact ⟨rfl, F4.1⟩
set_option maxRecDepth 100000 in
set_option maxHeartbeats 2000000 in
theorem rget_1474 (s : FS) (L : Nat) (w : World) (ok : OkF s) (hL : L < 18446744073709551616) :
    Calls Try.prog 86 #[.agg (cellsR s), .int .i64 1474, .int .u64 (L : Int)] w fun e w' => e = .returned (.int .u64 (getOf s 1474 L : Int)) ∧ Below w.heap.size w w' := by
  have HR : Hid (row19 1474 = some (1474, ⟨#[115, 104, 111, 111, 116]⟩, 1023)) := by show _ = _; decide +kernel
  obtain ⟨t1, ht1⟩ : ∃ t, L &&& 2696 = t := ⟨_, rfl⟩
  obtain ⟨t, ht⟩ : ∃ t, s.g 17 ||| t1 = t := ⟨_, rfl⟩
  have ht1' : t1 < 18446744073709551616 := by rw [← ht1]; exact and_lt hL
  have ht' : t < 18446744073709551616 := by rw [← ht]; exact or_lt64 (ok.g 17) ht1'
  have HTT : Hid (s.g 17 ||| (L &&& lined) = t) := by show _ = _; rw [← ht, ← ht1]; rfl
  have h17 := ok.g 17
  have HT1 := Lib.hid ht1
  have HT := Lib.hid ht
  clear ht1 ht
  have k0 := heap_alloc_new w (.cells (cellsR s) 34)
  have F0 := (Fr.refl w).alloc (.cells (cellsR s) 34)
  have ls := ldR (P := Try.prog) k0
  have l2 := sizeRv
  have fd := run_field1
  go_enter Try.func86, Try.ntmps86
  go_wp2_with fail
  refine (word_n nm_mip rfl _).mono ?_
  rintro e w1 ⟨rfl, hb1⟩
  have k1 := keepB hb1 k0
  have F1 := F0.step hb1
  go_wp2_with fail
  refine (and_v (b := 2696) HT1.out _ hL (by omega)).mono ?_
  rintro e w2 ⟨rfl, hb2⟩
  have k2 := keepB hb2 k1
  have F2 := F1.step hb2
  go_wp2_with fail
  refine (or_v HT.out _ h17 ht1').mono ?_
  rintro e w3 ⟨rfl, hb3⟩
  have k3 := keepB hb3 k2
  have F3 := F2.step hb3
  go_wp2_with fail
  refine (rof_some HR.out _).mono ?_
  rintro e w4 ⟨rfl, hb4⟩
  have k4 := keepB hb4 k3
  have F4 := F3.step hb4
  clear ls k0 k1 k2 k3 F0 F1 F2 F3 hb1 hb2 hb3 hb4
  have ls := ldR (P := Try.prog) k4
  go_wp2
  go_ret
  exact ⟨rfl, F4.1⟩
set_option maxRecDepth 100000 in
set_option maxHeartbeats 2000000 in
theorem rget_3857 (s : FS) (L : Nat) (w : World) (ok : OkF s) (hL : L < 18446744073709551616) :
    Calls Try.prog 86 #[.agg (cellsR s), .int .i64 3857, .int .u64 (L : Int)] w fun e w' => e = .returned (.int .u64 (getOf s 3857 L : Int)) ∧ Below w.heap.size w w' := by
  have HR : Hid (row19 3857 = some (3857, ⟨#[109, 118, 101, 110, 100, 111, 114, 105, 100]⟩, 0)) := by show _ = _; decide +kernel
  obtain ⟨t1, ht1⟩ : ∃ t, L &&& 2696 = t := ⟨_, rfl⟩
  obtain ⟨t, ht⟩ : ∃ t, s.g 17 ||| t1 = t := ⟨_, rfl⟩
  have ht1' : t1 < 18446744073709551616 := by rw [← ht1]; exact and_lt hL
  have ht' : t < 18446744073709551616 := by rw [← ht]; exact or_lt64 (ok.g 17) ht1'
  have HTT : Hid (s.g 17 ||| (L &&& lined) = t) := by show _ = _; rw [← ht, ← ht1]; rfl
  have h17 := ok.g 17
  have HT1 := Lib.hid ht1
  have HT := Lib.hid ht
  clear ht1 ht
  have k0 := heap_alloc_new w (.cells (cellsR s) 34)
  have F0 := (Fr.refl w).alloc (.cells (cellsR s) 34)
  have ls := ldR (P := Try.prog) k0
  have l2 := sizeRv
  have fd := run_field1
  go_enter Try.func86, Try.ntmps86
  go_wp2_with fail
  refine (word_n nm_mip rfl _).mono ?_
  rintro e w1 ⟨rfl, hb1⟩
  have k1 := keepB hb1 k0
  have F1 := F0.step hb1
  go_wp2_with fail
  refine (and_v (b := 2696) HT1.out _ hL (by omega)).mono ?_
  rintro e w2 ⟨rfl, hb2⟩
  have k2 := keepB hb2 k1
  have F2 := F1.step hb2
  go_wp2_with fail
  refine (or_v HT.out _ h17 ht1').mono ?_
  rintro e w3 ⟨rfl, hb3⟩
  have k3 := keepB hb3 k2
  have F3 := F2.step hb3
  go_wp2_with fail
  refine (rof_some HR.out _).mono ?_
  rintro e w4 ⟨rfl, hb4⟩
  have k4 := keepB hb4 k3
  have F4 := F3.step hb4
  clear ls k0 k1 k2 k3 F0 F1 F2 F3 hb1 hb2 hb3 hb4
  have ls := ldR (P := Try.prog) k4
  go_wp2
  go_ret
  exact ⟨rfl, F4.1⟩
set_option maxRecDepth 100000 in
set_option maxHeartbeats 2000000 in
theorem rget_3858 (s : FS) (L : Nat) (w : World) (ok : OkF s) (hL : L < 18446744073709551616) :
    Calls Try.prog 86 #[.agg (cellsR s), .int .i64 3858, .int .u64 (L : Int)] w fun e w' => e = .returned (.int .u64 (getOf s 3858 L : Int)) ∧ Below w.heap.size w w' := by
  have HR : Hid (row19 3858 = some (3858, ⟨#[109, 97, 114, 99, 104, 105, 100]⟩, 0)) := by show _ = _; decide +kernel
  obtain ⟨t1, ht1⟩ : ∃ t, L &&& 2696 = t := ⟨_, rfl⟩
  obtain ⟨t, ht⟩ : ∃ t, s.g 17 ||| t1 = t := ⟨_, rfl⟩
  have ht1' : t1 < 18446744073709551616 := by rw [← ht1]; exact and_lt hL
  have ht' : t < 18446744073709551616 := by rw [← ht]; exact or_lt64 (ok.g 17) ht1'
  have HTT : Hid (s.g 17 ||| (L &&& lined) = t) := by show _ = _; rw [← ht, ← ht1]; rfl
  have h17 := ok.g 17
  have HT1 := Lib.hid ht1
  have HT := Lib.hid ht
  clear ht1 ht
  have k0 := heap_alloc_new w (.cells (cellsR s) 34)
  have F0 := (Fr.refl w).alloc (.cells (cellsR s) 34)
  have ls := ldR (P := Try.prog) k0
  have l2 := sizeRv
  have fd := run_field1
  go_enter Try.func86, Try.ntmps86
  go_wp2_with fail
  refine (word_n nm_mip rfl _).mono ?_
  rintro e w1 ⟨rfl, hb1⟩
  have k1 := keepB hb1 k0
  have F1 := F0.step hb1
  go_wp2_with fail
  refine (and_v (b := 2696) HT1.out _ hL (by omega)).mono ?_
  rintro e w2 ⟨rfl, hb2⟩
  have k2 := keepB hb2 k1
  have F2 := F1.step hb2
  go_wp2_with fail
  refine (or_v HT.out _ h17 ht1').mono ?_
  rintro e w3 ⟨rfl, hb3⟩
  have k3 := keepB hb3 k2
  have F3 := F2.step hb3
  go_wp2_with fail
  refine (rof_some HR.out _).mono ?_
  rintro e w4 ⟨rfl, hb4⟩
  have k4 := keepB hb4 k3
  have F4 := F3.step hb4
  clear ls k0 k1 k2 k3 F0 F1 F2 F3 hb1 hb2 hb3 hb4
  have ls := ldR (P := Try.prog) k4
  go_wp2
  go_ret
  exact ⟨rfl, F4.1⟩
set_option maxRecDepth 100000 in
set_option maxHeartbeats 2000000 in
theorem rget_3859 (s : FS) (L : Nat) (w : World) (ok : OkF s) (hL : L < 18446744073709551616) :
    Calls Try.prog 86 #[.agg (cellsR s), .int .i64 3859, .int .u64 (L : Int)] w fun e w' => e = .returned (.int .u64 (getOf s 3859 L : Int)) ∧ Below w.heap.size w w' := by
  have HR : Hid (row19 3859 = some (3859, ⟨#[109, 105, 109, 112, 105, 100]⟩, 0)) := by show _ = _; decide +kernel
  obtain ⟨t1, ht1⟩ : ∃ t, L &&& 2696 = t := ⟨_, rfl⟩
  obtain ⟨t, ht⟩ : ∃ t, s.g 17 ||| t1 = t := ⟨_, rfl⟩
  have ht1' : t1 < 18446744073709551616 := by rw [← ht1]; exact and_lt hL
  have ht' : t < 18446744073709551616 := by rw [← ht]; exact or_lt64 (ok.g 17) ht1'
  have HTT : Hid (s.g 17 ||| (L &&& lined) = t) := by show _ = _; rw [← ht, ← ht1]; rfl
  have h17 := ok.g 17
  have HT1 := Lib.hid ht1
  have HT := Lib.hid ht
  clear ht1 ht
  have k0 := heap_alloc_new w (.cells (cellsR s) 34)
  have F0 := (Fr.refl w).alloc (.cells (cellsR s) 34)
  have ls := ldR (P := Try.prog) k0
  have l2 := sizeRv
  have fd := run_field1
  go_enter Try.func86, Try.ntmps86
  go_wp2_with fail
  refine (word_n nm_mip rfl _).mono ?_
  rintro e w1 ⟨rfl, hb1⟩
  have k1 := keepB hb1 k0
  have F1 := F0.step hb1
  go_wp2_with fail
  refine (and_v (b := 2696) HT1.out _ hL (by omega)).mono ?_
  rintro e w2 ⟨rfl, hb2⟩
  have k2 := keepB hb2 k1
  have F2 := F1.step hb2
  go_wp2_with fail
  refine (or_v HT.out _ h17 ht1').mono ?_
  rintro e w3 ⟨rfl, hb3⟩
  have k3 := keepB hb3 k2
  have F3 := F2.step hb3
  go_wp2_with fail
  refine (rof_some HR.out _).mono ?_
  rintro e w4 ⟨rfl, hb4⟩
  have k4 := keepB hb4 k3
  have F4 := F3.step hb4
  clear ls k0 k1 k2 k3 F0 F1 F2 F3 hb1 hb2 hb3 hb4
  have ls := ldR (P := Try.prog) k4
  go_wp2
  go_ret
  exact ⟨rfl, F4.1⟩
set_option maxRecDepth 100000 in
set_option maxHeartbeats 2000000 in
theorem rget_769 (s : FS) (L : Nat) (w : World) (ok : OkF s) (hL : L < 18446744073709551616) :
    Calls Try.prog 86 #[.agg (cellsR s), .int .i64 769, .int .u64 (L : Int)] w fun e w' => e = .returned (.int .u64 (getOf s 769 L : Int)) ∧ Below w.heap.size w w' := by
  have HR : Hid (row19 769 = some (769, ⟨#[109, 105, 115, 97]⟩, 0)) := by show _ = _; decide +kernel
  obtain ⟨t1, ht1⟩ : ∃ t, L &&& 2696 = t := ⟨_, rfl⟩
  obtain ⟨t, ht⟩ : ∃ t, s.g 17 ||| t1 = t := ⟨_, rfl⟩
  have ht1' : t1 < 18446744073709551616 := by rw [← ht1]; exact and_lt hL
  have ht' : t < 18446744073709551616 := by rw [← ht]; exact or_lt64 (ok.g 17) ht1'
  have HTT : Hid (s.g 17 ||| (L &&& lined) = t) := by show _ = _; rw [← ht, ← ht1]; rfl
  have h17 := ok.g 17
  have HT1 := Lib.hid ht1
  have HT := Lib.hid ht
  clear ht1 ht
  have k0 := heap_alloc_new w (.cells (cellsR s) 34)
  have F0 := (Fr.refl w).alloc (.cells (cellsR s) 34)
  have ls := ldR (P := Try.prog) k0
  have l2 := sizeRv
  have fd := run_field1
  go_enter Try.func86, Try.ntmps86
  go_wp2_with fail
  refine (word_n nm_mip rfl _).mono ?_
  rintro e w1 ⟨rfl, hb1⟩
  have k1 := keepB hb1 k0
  have F1 := F0.step hb1
  go_wp2_with fail
  refine (and_v (b := 2696) HT1.out _ hL (by omega)).mono ?_
  rintro e w2 ⟨rfl, hb2⟩
  have k2 := keepB hb2 k1
  have F2 := F1.step hb2
  go_wp2_with fail
  refine (or_v HT.out _ h17 ht1').mono ?_
  rintro e w3 ⟨rfl, hb3⟩
  have k3 := keepB hb3 k2
  have F3 := F2.step hb3
  go_wp2_with fail
  refine (rof_some HR.out _).mono ?_
  rintro e w4 ⟨rfl, hb4⟩
  have k4 := keepB hb4 k3
  have F4 := F3.step hb4
  clear ls k0 k1 k2 k3 F0 F1 F2 F3 hb1 hb2 hb3 hb4
  have ls := ldR (P := Try.prog) k4
  go_wp2
  go_ret
  exact ⟨rfl, F4.1⟩
set_option maxRecDepth 100000 in
set_option maxHeartbeats 2000000 in
theorem rget_836 (s : FS) (L : Nat) (w : World) (ok : OkF s) (hL : L < 18446744073709551616) :
    Calls Try.prog 86 #[.agg (cellsR s), .int .i64 836, .int .u64 (L : Int)] w fun e w' => e = .returned (.int .u64 (getOf s 836 L : Int)) ∧ Below w.heap.size w w' := by
  have HR : Hid (row19 836 = some (836, ⟨#[109, 105, 112]⟩, 546)) := by show _ = _; decide +kernel
  obtain ⟨t1, ht1⟩ : ∃ t, L &&& 2696 = t := ⟨_, rfl⟩
  obtain ⟨t, ht⟩ : ∃ t, s.g 17 ||| t1 = t := ⟨_, rfl⟩
  have ht1' : t1 < 18446744073709551616 := by rw [← ht1]; exact and_lt hL
  have ht' : t < 18446744073709551616 := by rw [← ht]; exact or_lt64 (ok.g 17) ht1'
  have HTT : Hid (s.g 17 ||| (L &&& lined) = t) := by show _ = _; rw [← ht, ← ht1]; rfl
  have h17 := ok.g 17
  have HT1 := Lib.hid ht1
  have HT := Lib.hid ht
  clear ht1 ht
  have k0 := heap_alloc_new w (.cells (cellsR s) 34)
  have F0 := (Fr.refl w).alloc (.cells (cellsR s) 34)
  have ls := ldR (P := Try.prog) k0
  have l2 := sizeRv
  have fd := run_field1
  have HG : Hid (getOf s 836 L = t) := HTT
  go_enter Try.func86, Try.ntmps86
  go_wp2_with fail
  refine (word_n nm_mip rfl _).mono ?_
  rintro e w1 ⟨rfl, hb1⟩
  have k1 := keepB hb1 k0
  have F1 := F0.step hb1
  go_wp2_with fail
  refine (and_v (b := 2696) HT1.out _ hL (by omega)).mono ?_
  rintro e w2 ⟨rfl, hb2⟩
  have k2 := keepB hb2 k1
  have F2 := F1.step hb2
  go_wp2_with fail
  refine (or_v HT.out _ h17 ht1').mono ?_
  rintro e w3 ⟨rfl, hb3⟩
  have k3 := keepB hb3 k2
  have F3 := F2.step hb3
  go_wp2_with fail
  refine (rof_some HR.out _).mono ?_
  rintro e w4 ⟨rfl, hb4⟩
  have k4 := keepB hb4 k3
  have F4 := F3.step hb4
  clear ls k0 k1 k2 k3 F0 F1 F2 F3 hb1 hb2 hb3 hb4
  have ls := ldR (P := Try.prog) k4
  go_wp2
  go_ret
  exact ⟨by rw [HG.out]; rfl, F4.1⟩
set_option maxRecDepth 100000 in
set_option maxHeartbeats 2000000 in
theorem rget_3072 (s : FS) (L : Nat) (w : World) (ok : OkF s) (hL : L < 18446744073709551616) :
    Calls Try.prog 86 #[.agg (cellsR s), .int .i64 3072, .int .u64 (L : Int)] w fun e w' => e = .returned (.int .u64 (getOf s 3072 L : Int)) ∧ Below w.heap.size w w' := by
  have HR : Hid (row19 3072 = some (3072, ⟨#[99, 121, 99, 108, 101]⟩, 0)) := by show _ = _; decide +kernel
  obtain ⟨t1, ht1⟩ : ∃ t, L &&& 2696 = t := ⟨_, rfl⟩
  obtain ⟨t, ht⟩ : ∃ t, s.g 17 ||| t1 = t := ⟨_, rfl⟩
  have ht1' : t1 < 18446744073709551616 := by rw [← ht1]; exact and_lt hL
  have ht' : t < 18446744073709551616 := by rw [← ht]; exact or_lt64 (ok.g 17) ht1'
  have HTT : Hid (s.g 17 ||| (L &&& lined) = t) := by show _ = _; rw [← ht, ← ht1]; rfl
  have h17 := ok.g 17
  have HT1 := Lib.hid ht1
  have HT := Lib.hid ht
  clear ht1 ht
  have k0 := heap_alloc_new w (.cells (cellsR s) 34)
  have F0 := (Fr.refl w).alloc (.cells (cellsR s) 34)
  have ls := ldR (P := Try.prog) k0
  have l2 := sizeRv
  have fd := run_field1
  go_enter Try.func86, Try.ntmps86
  go_wp2_with fail
  refine (word_n nm_mip rfl _).mono ?_
  rintro e w1 ⟨rfl, hb1⟩
  have k1 := keepB hb1 k0
  have F1 := F0.step hb1
  go_wp2_with fail
  refine (and_v (b := 2696) HT1.out _ hL (by omega)).mono ?_
  rintro e w2 ⟨rfl, hb2⟩
  have k2 := keepB hb2 k1
  have F2 := F1.step hb2
  go_wp2_with fail
  refine (or_v HT.out _ h17 ht1').mono ?_
  rintro e w3 ⟨rfl, hb3⟩
  have k3 := keepB hb3 k2
  have F3 := F2.step hb3
  go_wp2_with fail
  refine (rof_some HR.out _).mono ?_
  rintro e w4 ⟨rfl, hb4⟩
  have k4 := keepB hb4 k3
  have F4 := F3.step hb4
  clear ls k0 k1 k2 k3 F0 F1 F2 F3 hb1 hb2 hb3 hb4
  have ls := ldR (P := Try.prog) k4
  go_wp2_with fail
  refine (word_n nm_mcycle rfl _).mono ?_
  rintro e w5 ⟨rfl, hb5⟩
  have F5 := F4.step hb5
  go_wp2
  go_ret
  exact ⟨rfl, F5.1⟩
set_option maxRecDepth 100000 in
set_option maxHeartbeats 2000000 in
theorem rget_3074 (s : FS) (L : Nat) (w : World) (ok : OkF s) (hL : L < 18446744073709551616) :
    Calls Try.prog 86 #[.agg (cellsR s), .int .i64 3074, .int .u64 (L : Int)] w fun e w' => e = .returned (.int .u64 (getOf s 3074 L : Int)) ∧ Below w.heap.size w w' := by
  have HR : Hid (row19 3074 = some (3074, ⟨#[105, 110, 115, 116, 114, 101, 116]⟩, 0)) := by show _ = _; decide +kernel
  obtain ⟨t1, ht1⟩ : ∃ t, L &&& 2696 = t := ⟨_, rfl⟩
  obtain ⟨t, ht⟩ : ∃ t, s.g 17 ||| t1 = t := ⟨_, rfl⟩
  have ht1' : t1 < 18446744073709551616 := by rw [← ht1]; exact and_lt hL
  have ht' : t < 18446744073709551616 := by rw [← ht]; exact or_lt64 (ok.g 17) ht1'
  have HTT : Hid (s.g 17 ||| (L &&& lined) = t) := by show _ = _; rw [← ht, ← ht1]; rfl
  have h17 := ok.g 17
  have HT1 := Lib.hid ht1
  have HT := Lib.hid ht
  clear ht1 ht
  have k0 := heap_alloc_new w (.cells (cellsR s) 34)
  have F0 := (Fr.refl w).alloc (.cells (cellsR s) 34)
  have ls := ldR (P := Try.prog) k0
  have l2 := sizeRv
  have fd := run_field1
  go_enter Try.func86, Try.ntmps86
  go_wp2_with fail
  refine (word_n nm_mip rfl _).mono ?_
  rintro e w1 ⟨rfl, hb1⟩
  have k1 := keepB hb1 k0
  have F1 := F0.step hb1
  go_wp2_with fail
  refine (and_v (b := 2696) HT1.out _ hL (by omega)).mono ?_
  rintro e w2 ⟨rfl, hb2⟩
  have k2 := keepB hb2 k1
  have F2 := F1.step hb2
  go_wp2_with fail
  refine (or_v HT.out _ h17 ht1').mono ?_
  rintro e w3 ⟨rfl, hb3⟩
  have k3 := keepB hb3 k2
  have F3 := F2.step hb3
  go_wp2_with fail
  refine (rof_some HR.out _).mono ?_
  rintro e w4 ⟨rfl, hb4⟩
  have k4 := keepB hb4 k3
  have F4 := F3.step hb4
  clear ls k0 k1 k2 k3 F0 F1 F2 F3 hb1 hb2 hb3 hb4
  have ls := ldR (P := Try.prog) k4
  go_wp2_with fail
  refine (word_n nm_minstret rfl _).mono ?_
  rintro e w5 ⟨rfl, hb5⟩
  have F5 := F4.step hb5
  go_wp2
  go_ret
  exact ⟨rfl, F5.1⟩
set_option maxRecDepth 100000 in
set_option maxHeartbeats 2000000 in
theorem rget_3860 (s : FS) (L : Nat) (w : World) (ok : OkF s) (hL : L < 18446744073709551616) :
    Calls Try.prog 86 #[.agg (cellsR s), .int .i64 3860, .int .u64 (L : Int)] w fun e w' => e = .returned (.int .u64 (getOf s 3860 L : Int)) ∧ Below w.heap.size w w' := by
  have HR : Hid (row19 3860 = some (3860, ⟨#[109, 104, 97, 114, 116, 105, 100]⟩, 0)) := by show _ = _; decide +kernel
  obtain ⟨t1, ht1⟩ : ∃ t, L &&& 2696 = t := ⟨_, rfl⟩
  obtain ⟨t, ht⟩ : ∃ t, s.g 17 ||| t1 = t := ⟨_, rfl⟩
  have ht1' : t1 < 18446744073709551616 := by rw [← ht1]; exact and_lt hL
  have ht' : t < 18446744073709551616 := by rw [← ht]; exact or_lt64 (ok.g 17) ht1'
  have HTT : Hid (s.g 17 ||| (L &&& lined) = t) := by show _ = _; rw [← ht, ← ht1]; rfl
  have h17 := ok.g 17
  have HT1 := Lib.hid ht1
  have HT := Lib.hid ht
  clear ht1 ht
  have k0 := heap_alloc_new w (.cells (cellsR s) 34)
  have F0 := (Fr.refl w).alloc (.cells (cellsR s) 34)
  have ls := ldR (P := Try.prog) k0
  have l2 := sizeRv
  have fd := run_field1
  have HV := Lib.hid (hartW_val s.hart)
  have HG : Hid (getOf s 3860 L = hartW s.hart) := rfl
  go_enter Try.func86, Try.ntmps86
  go_wp2_with fail
  refine (word_n nm_mip rfl _).mono ?_
  rintro e w1 ⟨rfl, hb1⟩
  have k1 := keepB hb1 k0
  have F1 := F0.step hb1
  go_wp2_with fail
  refine (and_v (b := 2696) HT1.out _ hL (by omega)).mono ?_
  rintro e w2 ⟨rfl, hb2⟩
  have k2 := keepB hb2 k1
  have F2 := F1.step hb2
  go_wp2_with fail
  refine (or_v HT.out _ h17 ht1').mono ?_
  rintro e w3 ⟨rfl, hb3⟩
  have k3 := keepB hb3 k2
  have F3 := F2.step hb3
  go_wp2_with fail
  refine (rof_some HR.out _).mono ?_
  rintro e w4 ⟨rfl, hb4⟩
  have k4 := keepB hb4 k3
  have F4 := F3.step hb4
  clear ls k0 k1 k2 k3 F0 F1 F2 F3 hb1 hb2 hb3 hb4
  have ls := ldR (P := Try.prog) k4
  obtain ⟨q0, -, -, ql, -⟩ := knownR k4
  go_wp2
  go_ret
  exact ⟨by rw [HG.out, ← HV.out]; rfl, F4.1⟩
set_option maxRecDepth 100000 in
set_option maxHeartbeats 2000000 in
theorem rget_256 (s : FS) (L : Nat) (w : World) (ok : OkF s) (hL : L < 18446744073709551616) :
    Calls Try.prog 86 #[.agg (cellsR s), .int .i64 256, .int .u64 (L : Int)] w fun e w' => e = .returned (.int .u64 (getOf s 256 L : Int)) ∧ Below w.heap.size w w' := by
  have HR : Hid (row19 256 = some (256, ⟨#[115, 115, 116, 97, 116, 117, 115]⟩, 786722)) := by show _ = _; decide +kernel
  obtain ⟨t1, ht1⟩ : ∃ t, L &&& 2696 = t := ⟨_, rfl⟩
  obtain ⟨t, ht⟩ : ∃ t, s.g 17 ||| t1 = t := ⟨_, rfl⟩
  have ht1' : t1 < 18446744073709551616 := by rw [← ht1]; exact and_lt hL
  have ht' : t < 18446744073709551616 := by rw [← ht]; exact or_lt64 (ok.g 17) ht1'
  have HTT : Hid (s.g 17 ||| (L &&& lined) = t) := by show _ = _; rw [← ht, ← ht1]; rfl
  have h17 := ok.g 17
  have HT1 := Lib.hid ht1
  have HT := Lib.hid ht
  clear ht1 ht
  have k0 := heap_alloc_new w (.cells (cellsR s) 34)
  have F0 := (Fr.refl w).alloc (.cells (cellsR s) 34)
  have ls := ldR (P := Try.prog) k0
  have l2 := sizeRv
  have fd := run_field1
  obtain ⟨y, hy⟩ : ∃ y, viewOf (s.g 7) = y := ⟨_, rfl⟩
  have HG : Hid (getOf s 256 L = y) := by show _ = _; rw [← hy]; rfl
  have HY := Lib.hid hy
  have h7 := ok.g 7
  clear hy
  go_enter Try.func86, Try.ntmps86
  go_wp2_with fail
  refine (word_n nm_mip rfl _).mono ?_
  rintro e w1 ⟨rfl, hb1⟩
  have k1 := keepB hb1 k0
  have F1 := F0.step hb1
  go_wp2_with fail
  refine (and_v (b := 2696) HT1.out _ hL (by omega)).mono ?_
  rintro e w2 ⟨rfl, hb2⟩
  have k2 := keepB hb2 k1
  have F2 := F1.step hb2
  go_wp2_with fail
  refine (or_v HT.out _ h17 ht1').mono ?_
  rintro e w3 ⟨rfl, hb3⟩
  have k3 := keepB hb3 k2
  have F3 := F2.step hb3
  go_wp2_with fail
  refine (rof_some HR.out _).mono ?_
  rintro e w4 ⟨rfl, hb4⟩
  have k4 := keepB hb4 k3
  have F4 := F3.step hb4
  clear ls k0 k1 k2 k3 F0 F1 F2 F3 hb1 hb2 hb3 hb4
  have ls := ldR (P := Try.prog) k4
  go_wp2_with fail
  refine (word_n nm_mstatus rfl _).mono ?_
  rintro e w5 ⟨rfl, hb5⟩
  have F5 := F4.step hb5
  go_wp2_with fail
  refine (rview_h HY.out _ h7).mono ?_
  rintro e w6 ⟨rfl, hb6⟩
  have F6 := F5.step hb6
  go_wp2
  go_ret
  exact ⟨by rw [HG.out]; rfl, F6.1⟩
set_option maxRecDepth 100000 in
set_option maxHeartbeats 2000000 in
theorem rget_324 (s : FS) (L : Nat) (w : World) (ok : OkF s) (hL : L < 18446744073709551616) :
    Calls Try.prog 86 #[.agg (cellsR s), .int .i64 324, .int .u64 (L : Int)] w fun e w' => e = .returned (.int .u64 (getOf s 324 L : Int)) ∧ Below w.heap.size w w' := by
  have HR : Hid (row19 324 = some (324, ⟨#[115, 105, 112]⟩, 2)) := by show _ = _; decide +kernel
  obtain ⟨t1, ht1⟩ : ∃ t, L &&& 2696 = t := ⟨_, rfl⟩
  obtain ⟨t, ht⟩ : ∃ t, s.g 17 ||| t1 = t := ⟨_, rfl⟩
  have ht1' : t1 < 18446744073709551616 := by rw [← ht1]; exact and_lt hL
  have ht' : t < 18446744073709551616 := by rw [← ht]; exact or_lt64 (ok.g 17) ht1'
  have HTT : Hid (s.g 17 ||| (L &&& lined) = t) := by show _ = _; rw [← ht, ← ht1]; rfl
  have h17 := ok.g 17
  have HT1 := Lib.hid ht1
  have HT := Lib.hid ht
  clear ht1 ht
  have k0 := heap_alloc_new w (.cells (cellsR s) 34)
  have F0 := (Fr.refl w).alloc (.cells (cellsR s) 34)
  have ls := ldR (P := Try.prog) k0
  have l2 := sizeRv
  have fd := run_field1
  obtain ⟨y, hy⟩ : ∃ y, t &&& s.g 9 = y := ⟨_, rfl⟩
  have HG : Hid (getOf s 324 L = y) := by show _ = _; rw [← hy, ← HTT.out]; rfl
  have HY := Lib.hid hy
  have h9 := ok.g 9
  clear hy
  go_enter Try.func86, Try.ntmps86
  go_wp2_with fail
  refine (word_n nm_mip rfl _).mono ?_
  rintro e w1 ⟨rfl, hb1⟩
  have k1 := keepB hb1 k0
  have F1 := F0.step hb1
  go_wp2_with fail
  refine (and_v (b := 2696) HT1.out _ hL (by omega)).mono ?_
  rintro e w2 ⟨rfl, hb2⟩
  have k2 := keepB hb2 k1
  have F2 := F1.step hb2
  go_wp2_with fail
  refine (or_v HT.out _ h17 ht1').mono ?_
  rintro e w3 ⟨rfl, hb3⟩
  have k3 := keepB hb3 k2
  have F3 := F2.step hb3
  go_wp2_with fail
  refine (rof_some HR.out _).mono ?_
  rintro e w4 ⟨rfl, hb4⟩
  have k4 := keepB hb4 k3
  have F4 := F3.step hb4
  clear ls k0 k1 k2 k3 F0 F1 F2 F3 hb1 hb2 hb3 hb4
  have ls := ldR (P := Try.prog) k4
  go_wp2_with fail
  refine (word_n nm_mideleg rfl _).mono ?_
  rintro e w5 ⟨rfl, hb5⟩
  have F5 := F4.step hb5
  go_wp2_with fail
  refine (and_v HY.out _ ht' h9).mono ?_
  rintro e w6 ⟨rfl, hb6⟩
  have F6 := F5.step hb6
  go_wp2
  go_ret
  exact ⟨by rw [HG.out]; rfl, F6.1⟩
set_option maxRecDepth 100000 in
set_option maxHeartbeats 2000000 in
theorem rget_260 (s : FS) (L : Nat) (w : World) (ok : OkF s) (hL : L < 18446744073709551616) :
    Calls Try.prog 86 #[.agg (cellsR s), .int .i64 260, .int .u64 (L : Int)] w fun e w' => e = .returned (.int .u64 (getOf s 260 L : Int)) ∧ Below w.heap.size w w' := by
  have HR : Hid (row19 260 = some (260, ⟨#[115, 105, 101]⟩, 546)) := by show _ = _; decide +kernel
  obtain ⟨t1, ht1⟩ : ∃ t, L &&& 2696 = t := ⟨_, rfl⟩
  obtain ⟨t, ht⟩ : ∃ t, s.g 17 ||| t1 = t := ⟨_, rfl⟩
  have ht1' : t1 < 18446744073709551616 := by rw [← ht1]; exact and_lt hL
  have ht' : t < 18446744073709551616 := by rw [← ht]; exact or_lt64 (ok.g 17) ht1'
  have HTT : Hid (s.g 17 ||| (L &&& lined) = t) := by show _ = _; rw [← ht, ← ht1]; rfl
  have h17 := ok.g 17
  have HT1 := Lib.hid ht1
  have HT := Lib.hid ht
  clear ht1 ht
  have k0 := heap_alloc_new w (.cells (cellsR s) 34)
  have F0 := (Fr.refl w).alloc (.cells (cellsR s) 34)
  have ls := ldR (P := Try.prog) k0
  have l2 := sizeRv
  have fd := run_field1
  obtain ⟨y, hy⟩ : ∃ y, s.g 10 &&& s.g 9 = y := ⟨_, rfl⟩
  have HG : Hid (getOf s 260 L = y) := by show _ = _; rw [← hy]; rfl
  have HY := Lib.hid hy
  have h9 := ok.g 9
  have h10 := ok.g 10
  clear hy
  have lsA : ∀ w' : World, w'.heap[w.heap.size]? = some (.cells (cellsR s) 34) → (loadCellsFrom ⟨w.heap.size, 0, none⟩ 0 szR #[]).run Try.prog w' = .ok (cellsR s) w' := fun w' h => ldR h
  go_enter Try.func86, Try.ntmps86
  go_wp2_with fail
  refine (word_n nm_mip rfl _).mono ?_
  rintro e w1 ⟨rfl, hb1⟩
  have k1 := keepB hb1 k0
  have F1 := F0.step hb1
  go_wp2_with fail
  refine (and_v (b := 2696) HT1.out _ hL (by omega)).mono ?_
  rintro e w2 ⟨rfl, hb2⟩
  have k2 := keepB hb2 k1
  have F2 := F1.step hb2
  go_wp2_with fail
  refine (or_v HT.out _ h17 ht1').mono ?_
  rintro e w3 ⟨rfl, hb3⟩
  have k3 := keepB hb3 k2
  have F3 := F2.step hb3
  go_wp2_with fail
  refine (rof_some HR.out _).mono ?_
  rintro e w4 ⟨rfl, hb4⟩
  have k4 := keepB hb4 k3
  have F4 := F3.step hb4
  clear ls k0 k1 k2 k3 F0 F1 F2 F3 hb1 hb2 hb3 hb4
  have ls := ldR (P := Try.prog) k4
  clear ls
  go_wp2_with fail
  go_region_held3 (fun w' => Fr w.heap.size w w' ∧ w'.heap[w.heap.size]? = some (.cells (cellsR s) 34))
    (first | exact heldR ‹_› ‹_› | exact ⟨F4.drew, k4⟩ | exact ⟨F4, k4⟩ | go_keep)
    (first
      | (go_at_call 90; refine (word_n (by first | exact nm_mie | exact nm_mideleg) rfl _).mono ?_; rintro e w' ⟨rfl, hb⟩)
      | (go_at_call 114; refine (and_v HY.out _ h10 h9).mono ?_; rintro e w' ⟨rfl, hb⟩))
  rename_i w9 hS9
  obtain ⟨F9, -⟩ := hS9
  go_wp2
  go_ret
  exact ⟨by rw [HG.out]; rfl, F9.1⟩
set_option maxRecDepth 100000 in
set_option maxHeartbeats 2000000 in
theorem rget_plain (s : FS) (n : Int) (L : Nat) (w : World) (ok : OkF s) (hL : L < 18446744073709551616) (r : Int × ByteArray × Nat) (h : row19 n = some r) (hn : getSp.contains n = false) :
    Calls Try.prog 86 #[.agg (cellsR s), .int .i64 n, .int .u64 (L : Int)] w fun e w' => e = .returned (.int .u64 (getOf s n L : Int)) ∧ Below w.heap.size w w' := by
  obtain ⟨hp, i, j, ho, ha, hij⟩ := plainG_of h hn
  obtain ⟨n1, nm, mk⟩ := r
  have HG : Hid (getOf s n L = s.g i) := by
    show _ = _
    unfold getOf
    have hh : ∀ m : Int, getSp.contains m = true → n ≠ m := fun m hm e => by rw [← e, hn] at hm; cases hm
    rw [if_neg (hh 256 (by decide)), if_neg (hh 260 (by decide)), if_neg (hh 324 (by decide)), if_neg (hh 836 (by decide)), if_neg (hh 769 (by decide)), if_neg (hh 3072 (by decide)), if_neg (hh 3074 (by decide)), if_neg (hh 3860 (by decide)), ho]
  have HR := Lib.hid h
  have HA := Lib.hid ha
  have hj34 := (atN_lt ha).1
  have HIJ := Lib.hid hij
  unfold GetPlain at hp
  obtain ⟨p0, p1, p2, p3, p4, p5, p6, p7, p8, p9, p10, p11, p12, p13⟩ := hp
  clear h ho ha hij hn
  obtain ⟨t1, ht1⟩ : ∃ t, L &&& 2696 = t := ⟨_, rfl⟩
  obtain ⟨t, ht⟩ : ∃ t, s.g 17 ||| t1 = t := ⟨_, rfl⟩
  have ht1' : t1 < 18446744073709551616 := by rw [← ht1]; exact and_lt hL
  have ht' : t < 18446744073709551616 := by rw [← ht]; exact or_lt64 (ok.g 17) ht1'
  have HTT : Hid (s.g 17 ||| (L &&& lined) = t) := by show _ = _; rw [← ht, ← ht1]; rfl
  have h17 := ok.g 17
  have HT1 := Lib.hid ht1
  have HT := Lib.hid ht
  clear ht1 ht
  have k0 := heap_alloc_new w (.cells (cellsR s) 34)
  have F0 := (Fr.refl w).alloc (.cells (cellsR s) 34)
  have ls := ldR (P := Try.prog) k0
  have l2 := sizeRv
  have fd := run_field1
  go_enter Try.func86, Try.ntmps86
  go_wp2_with fail
  refine (word_n nm_mip rfl _).mono ?_
  rintro e w1 ⟨rfl, hb1⟩
  have k1 := keepB hb1 k0
  have F1 := F0.step hb1
  go_wp2_with fail
  refine (and_v (b := 2696) HT1.out _ hL (by omega)).mono ?_
  rintro e w2 ⟨rfl, hb2⟩
  have k2 := keepB hb2 k1
  have F2 := F1.step hb2
  go_wp2_with fail
  refine (or_v HT.out _ h17 ht1').mono ?_
  rintro e w3 ⟨rfl, hb3⟩
  have k3 := keepB hb3 k2
  have F3 := F2.step hb3
  go_wp2_with fail
  refine (rof_some HR.out _).mono ?_
  rintro e w4 ⟨rfl, hb4⟩
  have k4 := keepB hb4 k3
  have F4 := F3.step hb4
  clear ls k0 k1 k2 k3 F0 F1 F2 F3 hb1 hb2 hb3 hb4
  have ls := ldR (P := Try.prog) k4
  go_wp2_with fail
  refine (at_k HA.out _).mono ?_
  rintro e w5 ⟨rfl, hb5⟩
  have F5 := F4.step hb5
  have k5 := keepB hb5 k4
  have g5 := knownRg k5 hj34
  rw [rowG_of HIJ.out] at g5
  obtain ⟨-, -, -, ql, -⟩ := knownR k5
  go_wp2
  go_ret
  exact ⟨by rw [HG.out]; rfl, F5.1⟩
theorem rget_any (s : FS) (n : Int) (L : Nat) (w : World) (ok : OkF s) (hL : L < 18446744073709551616) :
    Calls Try.prog 86 #[.agg (cellsR s), .int .i64 n, .int .u64 (L : Int)] w fun e w' => e = .returned (.int .u64 (getOf s n L : Int)) ∧ Below w.heap.size w w' := by
  cases h : row19 n with
  | none => exact rget_none s n L w ok hL h
  | some r =>
    cases hn : getSp.contains n with
    | false => exact rget_plain s n L w ok hL r h hn
    | true =>
      simp [getSp] at hn
      rcases hn with rfl | rfl | rfl | rfl | rfl | rfl | rfl | rfl | rfl | rfl | rfl | rfl | rfl
      · exact rget_3073 s L w ok hL
      · exact rget_1474 s L w ok hL
      · exact rget_3857 s L w ok hL
      · exact rget_3858 s L w ok hL
      · exact rget_3859 s L w ok hL
      · exact rget_256 s L w ok hL
      · exact rget_260 s L w ok hL
      · exact rget_324 s L w ok hL
      · exact rget_836 s L w ok hL
      · exact rget_769 s L w ok hL
      · exact rget_3072 s L w ok hL
      · exact rget_3074 s L w ok hL
      · exact rget_3860 s L w ok hL
theorem rget_v {s : FS} {n : Int} {L y : Nat} (hy : getOf s n L = y) (w : World) (ok : OkF s) (hL : L < 18446744073709551616) :
    Calls Try.prog 86 #[.agg (cellsR s), .int .i64 n, .int .u64 (L : Int)] w fun e w' => e = .returned (.int .u64 (y : Int)) ∧ Below w.heap.size w w' := by
  rw [← hy]; exact rget_any s n L w ok hL
end Go.Proofs.Ythkkfdhgpaonjaa
