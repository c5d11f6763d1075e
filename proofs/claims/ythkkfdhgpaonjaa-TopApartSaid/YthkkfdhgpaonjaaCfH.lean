/- The document's CSR file: Word and with by name, New, With, and, or. -/
import Derived.Test.YthkkfdhgpaonjaaCfG
namespace Go.Proofs.Ythkkfdhgpaonjaa
open Go.RowKit
set_option linter.unusedSimpArgs false
set_option linter.unusedVariables false

/-- A name, its number, its place among the words and in the table. -/
def NameOk (nm : ByteArray) (n : Int) (i j : Nat) : Prop := numOf nm.toList = n ∧ atN n = some j ∧ rowIx.getD j none = some i
theorem rowG_of {s : FS} {i j : Nat} (h : rowIx.getD j none = some i) : rowG s j = s.g i := by unfold rowG; rw [h]
theorem word_n {nm : ByteArray} {n : Int} {i j : Nat} {s : FS} {y : Nat} (h : NameOk nm n i j) (hy : s.g i = y) (w : World) :
    Calls Try.prog 90 #[.agg (cellsR s), .string nm] w fun e w' => e = .returned (.int .u64 (y : Int)) ∧ Below w.heap.size w w' :=
  word22 h.1 h.2.1 ((rowG_of h.2.2).trans hy) w
theorem with_n {nm : ByteArray} {n : Int} {i j : Nat} {s s' : FS} {y : Nat} (h : NameOk nm n i j) (hs : setG s i y = s') (w : World) :
    Calls Try.prog 83 #[.agg (cellsR s), .string nm, .int .u64 (y : Int)] w fun e w' => e = .returned (.agg (cellsR s')) ∧ Below w.heap.size w w' := by
  rw [← hs]; exact with22 h.1 h.2.1 h.2.2 w
theorem nm_stvec : NameOk ⟨#[115, 116, 118, 101, 99]⟩ 261 0 2 := ⟨by rw [ByteArray.toList_eq]; decide +kernel, by decide +kernel, by decide +kernel⟩
theorem nm_scounteren : NameOk ⟨#[115, 99, 111, 117, 110, 116, 101, 114, 101, 110]⟩ 262 1 3 := ⟨by rw [ByteArray.toList_eq]; decide +kernel, by decide +kernel, by decide +kernel⟩
theorem nm_sscratch : NameOk ⟨#[115, 115, 99, 114, 97, 116, 99, 104]⟩ 320 2 4 := ⟨by rw [ByteArray.toList_eq]; decide +kernel, by decide +kernel, by decide +kernel⟩
theorem nm_sepc : NameOk ⟨#[115, 101, 112, 99]⟩ 321 3 5 := ⟨by rw [ByteArray.toList_eq]; decide +kernel, by decide +kernel, by decide +kernel⟩
theorem nm_scause : NameOk ⟨#[115, 99, 97, 117, 115, 101]⟩ 322 4 6 := ⟨by rw [ByteArray.toList_eq]; decide +kernel, by decide +kernel, by decide +kernel⟩
theorem nm_stval : NameOk ⟨#[115, 116, 118, 97, 108]⟩ 323 5 7 := ⟨by rw [ByteArray.toList_eq]; decide +kernel, by decide +kernel, by decide +kernel⟩
theorem nm_satp : NameOk ⟨#[115, 97, 116, 112]⟩ 384 6 9 := ⟨by rw [ByteArray.toList_eq]; decide +kernel, by decide +kernel, by decide +kernel⟩
theorem nm_mstatus : NameOk ⟨#[109, 115, 116, 97, 116, 117, 115]⟩ 768 7 10 := ⟨by rw [ByteArray.toList_eq]; decide +kernel, by decide +kernel, by decide +kernel⟩
theorem nm_medeleg : NameOk ⟨#[109, 101, 100, 101, 108, 101, 103]⟩ 770 8 12 := ⟨by rw [ByteArray.toList_eq]; decide +kernel, by decide +kernel, by decide +kernel⟩
theorem nm_mideleg : NameOk ⟨#[109, 105, 100, 101, 108, 101, 103]⟩ 771 9 13 := ⟨by rw [ByteArray.toList_eq]; decide +kernel, by decide +kernel, by decide +kernel⟩
theorem nm_mie : NameOk ⟨#[109, 105, 101]⟩ 772 10 14 := ⟨by rw [ByteArray.toList_eq]; decide +kernel, by decide +kernel, by decide +kernel⟩
theorem nm_mtvec : NameOk ⟨#[109, 116, 118, 101, 99]⟩ 773 11 15 := ⟨by rw [ByteArray.toList_eq]; decide +kernel, by decide +kernel, by decide +kernel⟩
theorem nm_mcounteren : NameOk ⟨#[109, 99, 111, 117, 110, 116, 101, 114, 101, 110]⟩ 774 12 16 := ⟨by rw [ByteArray.toList_eq]; decide +kernel, by decide +kernel, by decide +kernel⟩
theorem nm_mscratch : NameOk ⟨#[109, 115, 99, 114, 97, 116, 99, 104]⟩ 832 13 17 := ⟨by rw [ByteArray.toList_eq]; decide +kernel, by decide +kernel, by decide +kernel⟩
theorem nm_mepc : NameOk ⟨#[109, 101, 112, 99]⟩ 833 14 18 := ⟨by rw [ByteArray.toList_eq]; decide +kernel, by decide +kernel, by decide +kernel⟩
theorem nm_mcause : NameOk ⟨#[109, 99, 97, 117, 115, 101]⟩ 834 15 19 := ⟨by rw [ByteArray.toList_eq]; decide +kernel, by decide +kernel, by decide +kernel⟩
theorem nm_mtval : NameOk ⟨#[109, 116, 118, 97, 108]⟩ 835 16 20 := ⟨by rw [ByteArray.toList_eq]; decide +kernel, by decide +kernel, by decide +kernel⟩
theorem nm_mip : NameOk ⟨#[109, 105, 112]⟩ 836 17 21 := ⟨by rw [ByteArray.toList_eq]; decide +kernel, by decide +kernel, by decide +kernel⟩
theorem nm_shootva : NameOk ⟨#[115, 104, 111, 111, 116, 118, 97]⟩ 1472 18 22 := ⟨by rw [ByteArray.toList_eq]; decide +kernel, by decide +kernel, by decide +kernel⟩
theorem nm_shootasid : NameOk ⟨#[115, 104, 111, 111, 116, 97, 115, 105, 100]⟩ 1473 19 23 := ⟨by rw [ByteArray.toList_eq]; decide +kernel, by decide +kernel, by decide +kernel⟩
theorem nm_mcycle : NameOk ⟨#[109, 99, 121, 99, 108, 101]⟩ 2816 20 25 := ⟨by rw [ByteArray.toList_eq]; decide +kernel, by decide +kernel, by decide +kernel⟩
theorem nm_minstret : NameOk ⟨#[109, 105, 110, 115, 116, 114, 101, 116]⟩ 2818 21 26 := ⟨by rw [ByteArray.toList_eq]; decide +kernel, by decide +kernel, by decide +kernel⟩

attribute [local simp high] sizeRv zeroRv
theorem upper_with {nm : ByteArray} {n : Int} {i j : Nat} {s s' : FS} {y : Nat} (h : NameOk nm n i j) (hs : setG s i y = s') (w : World) :
    Calls Try.prog 102 #[.agg (cellsR s), .string nm, .int .u64 (y : Int)] w fun e w' => e = .returned (.agg (cellsR s')) ∧ Below w.heap.size w w' := by
  have l1 := zeroRv
  have l2 := sizeRv
  have l3 := size_cellsR
  have HS := Lib.hid hs
  clear hs
  have k0 := keep_alloc (heap_alloc_new w (.cells (cellsR s) 34)) (.cells (cellsR zeroF) 34)
  have z0 : ((w.alloc (.cells (cellsR s) 34)).alloc (.cells (cellsR zeroF) 34)).heap[w.heap.size + 1]? = some (.cells (cellsR zeroF) 34) := by simpa using heap_alloc_new (w.alloc (.cells (cellsR s) 34)) (.cells (cellsR zeroF) 34)
  have F0 := ((Fr.refl w).alloc (.cells (cellsR s) 34)).alloc (.cells (cellsR zeroF) 34)
  have ls := ldR (P := Try.prog) k0
  go_enter Try.func102, Try.ntmps102
  go_wp2_with fail
  refine (with_n h HS.out _).mono ?_
  rintro e w1 ⟨rfl, hb1⟩
  have F1 := F0.step hb1
  have z1 := keepB hb1 z0
  have ss := stR Try.prog z1 s'
  have E2 := Lib.hid (lvR (row_at z1 (cellsR s')))
  have FF := Lib.hid (F1.row (Nat.le_succ _) (cellsR s'))
  clear F0 F1 z0 z1 hb1 ls k0
  go_wp2
  refine bodyPost_ret (v := .agg (cellsR s')) (by simp [results, Try.results102, asAddr, E2.out]) rfl ⟨rfl, FF.out.1⟩
theorem rnew22_any (n : Int) (w : World) :
    Calls Try.prog 41 #[.int .i64 n] w fun e w' => e = .returned (.agg (cellsR (newF n))) ∧ Below w.heap.size w w' := by
  have HN : Hid (setG (hartF n) 7 42949672960 = newF n) := rfl
  have l1 := zeroRv
  have l2 := sizeRv
  have l3 := size_cellsR
  have l6 := cellsR_hart
  have z0 : (w.alloc (.cells (cellsR zeroF) 34)).heap[w.heap.size]? = some (.cells (cellsR zeroF) 34) := heap_alloc_new _ _
  have F0 := (Fr.refl w).alloc (.cells (cellsR zeroF) 34)
  go_enter Try.func41, Try.ntmps41
  go_wp2_with fail
  refine (with_n (y := 42949672960) nm_mstatus HN.out _).mono ?_
  rintro e w1 ⟨rfl, hb1⟩
  have F1 := F0.step hb1
  have z1 := keepB hb1 z0
  have ss := stR Try.prog z1 (newF n)
  have E2 := Lib.hid (lvR (row_at z1 (cellsR (newF n))))
  have FF := Lib.hid (F1.row (Nat.le_refl _) (cellsR (newF n)))
  clear F0 F1 z0 z1 hb1
  go_wp2
  refine bodyPost_ret (v := .agg (cellsR (newF n))) (by simp [results, Try.results41, asAddr, E2.out]) rfl ⟨rfl, FF.out.1⟩

theorem bitv (x k : Nat) (hx : x < 18446744073709551616) (hk : k < 64) : bitN x (k : Int) = (x.testBit k).toNat := by
  rw [bitN_big x hx _ (by omega)]; simp
def andF (a b : Nat) (k : Nat) : Bool := a.testBit k && b.testBit k
theorem W64_and (a b : Nat) (ha : a < 18446744073709551616) : W64 (andF a b) = a &&& b := by
  symm
  refine W64_eq (and_lt ha) fun i hi => ?_
  rw [Nat.testBit_and]; rfl
set_option maxRecDepth 100000 in
set_option maxHeartbeats 4000000 in
theorem and22_any (a b : Nat) (w : World) (ha : a < 18446744073709551616) (hb : b < 18446744073709551616) :
    Calls Try.prog 114 #[.int .u64 (a : Int), .int .u64 (b : Int)] w fun e w' => e = .returned (.int .u64 ((a &&& b : Nat) : Int)) ∧ Below w.heap.size w w' := by
  obtain ⟨i0, hi, hz0, hz1, hz2⟩ := info_parts info_u64
  go_enter Try.func114, Try.ntmps114
  go_wp2
  go_loopw [5, 6] (fun v i wr => ∃ k : Nat, k ≤ 64 ∧ i = .int .i64 k ∧ wr.ownsRow w.heap.size 25 1 v k ((List.range k).map fun j => Value.int .u64 ((andF a b j).toNat : Nat)) ∧ Fr w.heap.size w wr) (fun _ i _ => 64 - (intOf i).toNat)
  case atStart => exact ⟨0, by omega, rfl, World.ownsRow_nil _ _ _ _, Fr.refl w⟩
  case round =>
    obtain ⟨k, hk, rfl, hown, hfr⟩ := hrel
    by_cases hlt : k < 64
    · have HA := bitv a k ha hlt
      have HB := bitv b k hb hlt
      obtain ⟨t, ht⟩ : ∃ t, (andF a b k).toNat = t := ⟨_, rfl⟩
      have HP := Lib.hid (own_push' ht)
      have hm : IntKind.u64.wrap ((((a.testBit k).toNat : Nat) : Int) * (((b.testBit k).toNat : Nat) : Int)) = (t : Int) := by
        rw [← ht]; unfold andF; cases a.testBit k <;> cases b.testBit k <;> rfl
      obtain ⟨p, hp⟩ : ∃ p, (a.testBit k).toNat = p := ⟨_, rfl⟩
      obtain ⟨q, hq⟩ : ∃ q, (b.testBit k).toNat = q := ⟨_, rfl⟩
      rw [hp] at HA hm
      rw [hq] at HB hm
      have p1 : p ≤ 1 := by rw [← hp]; cases a.testBit k <;> decide
      have q1 : q ≤ 1 := by rw [← hq]; cases b.testBit k <;> decide
      have HHA := Lib.hid HA
      have HHB := Lib.hid HB
      have HM := Lib.hid hm
      clear HA HB hm ht hp hq
      go_wp2_with fail
      refine (bit_v HHA.out _ ha).mono ?_
      rintro e w' ⟨rfl, rfl⟩
      go_wp2_with fail
      refine (bit_v HHB.out _ hb).mono ?_
      rintro e w' ⟨rfl, rfl⟩
      go_wp2_with (first
        | (rw [HM.out])
        | (at_builtin; refine wpList_append_own _ rfl _ _ 87 rfl w.heap.size 25 i0 (.int .u64 0) 1 8 Try.underlying87 hi hz0 hz1 hz2 rfl (by decide) _ _ _ rfl (hown.alloc _) ⟨wr.heap.size, 0, none⟩ 1 1 [.int .u64 (t : Int)] rfl rfl (one_new _ _ _) (one_cell _) (by unfold maxLen; omega) (by omega) (by have := hfr.2; simp; omega) ?_; intro v' w1 hown1 hgrow1 _; rw [← HP.out] at hown1; have hfr1 := Fr.grown (hfr.alloc _) hgrow1 (own_ge hown)))
      go_roundw
      case rel => exact ⟨k + 1, by omega, by go_num, hown1, hfr1⟩
      case measure => simp [intOf]; omega
    · obtain rfl : k = 64 := by omega
      obtain ⟨g, cap, rfl, hg, hcells⟩ := own_cells hown (by omega)
      have hW := W64_and a b ha
      have hc : ∀ k, k < 64 → wr.cell? ⟨g, k, none⟩ = some (.int .u64 (((a &&& b).testBit k).toNat : Nat)) := fun k hk => by
        rw [hcells k hk]
        simp [hk, andF, Nat.testBit_and]
      have hc' := Lib.hid hc
      have hcells' := Lib.hid hcells
      clear hc hcells hW
      go_wp2_with fail
      refine (of_any _ (and_lt ha) g cap _ hc'.out).mono ?_
      rintro e w' ⟨rfl, rfl⟩
      go_wp2
      go_ret
      exact ⟨rfl, hfr.1⟩
theorem or_val (a b : Nat) (ha : a < 18446744073709551616) (hb : b < 18446744073709551616) : IntKind.u64.wrap (IntKind.u64.wrap ((a : Int) + (b : Int)) - ((a &&& b : Nat) : Int)) = ((a ||| b : Nat) : Int) := by
  have h := and_or_add a b
  have h2 := or_lt64 ha hb
  simp only [IntKind.wrap_u64]
  omega
theorem or22_any (a b : Nat) (w : World) (ha : a < 18446744073709551616) (hb : b < 18446744073709551616) :
    Calls Try.prog 115 #[.int .u64 (a : Int), .int .u64 (b : Int)] w fun e w' => e = .returned (.int .u64 ((a ||| b : Nat) : Int)) ∧ Below w.heap.size w w' := by
  have HV := Lib.hid (or_val a b ha hb)
  go_enter Try.func115, Try.ntmps115
  go_wp2_with fail
  refine (and22_any a b _ ha hb).mono ?_
  rintro e w1 ⟨rfl, hb1⟩
  go_wp2
  go_ret
  exact ⟨by rw [← HV.out]; rfl, hb1⟩
theorem and_v {a b y : Nat} (h : a &&& b = y) (w : World) (ha : a < 18446744073709551616) (hb : b < 18446744073709551616) :
    Calls Try.prog 114 #[.int .u64 (a : Int), .int .u64 (b : Int)] w fun e w' => e = .returned (.int .u64 (y : Int)) ∧ Below w.heap.size w w' := by
  rw [← h]; exact and22_any a b w ha hb
theorem or_v {a b y : Nat} (h : a ||| b = y) (w : World) (ha : a < 18446744073709551616) (hb : b < 18446744073709551616) :
    Calls Try.prog 115 #[.int .u64 (a : Int), .int .u64 (b : Int)] w fun e w' => e = .returned (.int .u64 (y : Int)) ∧ Below w.heap.size w w' := by
  rw [← h]; exact or22_any a b w ha hb
end Go.Proofs.Ythkkfdhgpaonjaa
