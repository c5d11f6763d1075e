/- The document's Class of an op, as far as CSR ops go; Writes. -/
import Derived.Test.YthkkfdhgpaonjaaCfL0
import Derived.Test.YthkkfdhgpaonjaaCfJ
import Derived.Test.YthkkfdhgpaonjaaCfF
namespace Go.Proofs.Ythkkfdhgpaonjaa
open Go.RowKit
set_option linter.unusedSimpArgs false
set_option linter.unusedVariables false

def endsB (s t : ByteArray) : Bool := decide (t.size ≤ s.size) && ((s.extract (s.size - t.size) s.size).toList == t.toList)
theorem ends_any (s t : ByteArray) (w : World) (hs : s.size ≤ 1000) (ht : t.size = 2) :
    Calls Try.prog 117 #[.string s, .string t] w fun e w' => e = .returned (.bool (endsB s t)) ∧ w' = w := by
  by_cases h : s.size < 2
  · have HE : Hid (endsB s t = false) := by show _ = _; unfold endsB; rw [ht]; simp; omega
    go_enter Try.func117, Try.ntmps117
    go_wp2
    go_ret
    exact ⟨by rw [HE.out]; rfl, rfl⟩
  · have h2 : 2 ≤ s.size := by omega
    have HE : Hid (endsB s t = ((s.extract (s.size - 2) s.size).toList == t.toList)) := by show _ = _; unfold endsB; rw [ht]; simp [h2]
    clear h
    go_enter Try.func117, Try.ntmps117
    go_wp2
    go_ret
    exact ⟨by rw [HE.out]; rfl, rfl⟩
theorem ends_v {s t : ByteArray} {q : Bool} (h : endsB s t = q) (w : World) (hs : s.size ≤ 1000) (ht : t.size = 2) :
    Calls Try.prog 117 #[.string s, .string t] w fun e w' => e = .returned (.bool q) ∧ w' = w := by
  rw [← h]; exact ends_any s t w hs ht
theorem names_size : ∀ k, k < 99 → (nameAt k).size ≤ 1000 := by decide +kernel
/-- What is checked of a CSR op's name, ahead of its being one. -/
def csrChk (s : ByteArray) : Bool := s.data.toList != [108, 117, 105] && s.data.toList != [97, 117, 105, 112, 99] && s.data.toList != [106, 97, 108] && s.data.toList != [106, 97, 108, 114] && s.data.toList != [102, 101, 110, 99, 101] && s.data.toList != [102, 101, 110, 99, 101, 46, 105]
  && s.data.toList != [101, 99, 97, 108, 108] && s.data.toList != [101, 98, 114, 101, 97, 107] && s.data.toList != [109, 114, 101, 116] && s.data.toList != [115, 114, 101, 116] && s.data.toList != [119, 102, 105] && s.data.toList != [115, 102, 101, 110, 99, 101, 46, 118, 109, 97]
theorem csr_ends : ∀ k, k < 99 → 89 ≤ k → k ≤ 94 → ((nameAt k).extract ((nameAt k).size - 2) (nameAt k).size).data.toList ≠ [46, 119] ∧ ((nameAt k).extract ((nameAt k).size - 2) (nameAt k).size).data.toList ≠ [46, 100] ∧ 3 < (nameAt k).size ∧ ((nameAt k).extract 0 3).data.toList = [99, 115, 114] := by decide +kernel
theorem not_csr : ∀ k, k < 99 → (k < 89 ∨ 94 < k) → 3 < (nameAt k).size → ((nameAt k).extract 0 3).data.toList ≠ [99, 115, 114] := by decide +kernel
theorem csr_chk : ∀ k, k < 99 → 89 ≤ k → k ≤ 94 → csrChk (nameAt k) = true := by decide +kernel
theorem some_byte : ∀ k, k < 99 → 1 ≤ k → 1 ≤ (nameAt k).size := by decide +kernel

set_option maxRecDepth 100000 in
set_option maxHeartbeats 2000000 in
theorem rclass_csr (op : Nat) (w : World) (h1 : 89 ≤ op) (h2 : op ≤ 94) :
    Calls Try.prog 88 #[.int .i64 (op : Int)] w fun e w' => e = .returned (.int .i64 8) ∧ Below w.heap.size w w' := by
  have hF := (Fr.refl w).alloc (.cells cells04 9)
  have hc := cells04_at (heap_alloc_new w (.cells cells04 9)) op (by omega)
  have hz := names_size op (by omega)
  have hk := csr_chk op (by omega) h1 h2
  obtain ⟨e1, e2, e3, e4⟩ := csr_ends op (by omega) h1 h2
  obtain ⟨s, hs⟩ : ∃ s, nameAt op = s := ⟨_, rfl⟩
  rw [hs] at hc hz e1 e2 e3 e4 hk
  clear hs
  unfold csrChk at hk
  simp only [Bool.and_eq_true, bne_iff_ne, ne_eq] at hk
  have q1 : (s.toList == [108, 117, 105]) = false := by rw [ByteArray.toList_eq]; simp [hk]
  have q2 : (s.toList == [97, 117, 105, 112, 99]) = false := by rw [ByteArray.toList_eq]; simp [hk]
  have q3 : (s.toList == [106, 97, 108]) = false := by rw [ByteArray.toList_eq]; simp [hk]
  have q4 : (s.toList == [106, 97, 108, 114]) = false := by rw [ByteArray.toList_eq]; simp [hk]
  have q5 : (s.toList == [102, 101, 110, 99, 101]) = false := by rw [ByteArray.toList_eq]; simp [hk]
  have q6 : (s.toList == [102, 101, 110, 99, 101, 46, 105]) = false := by rw [ByteArray.toList_eq]; simp [hk]
  have q7 : (s.toList == [101, 99, 97, 108, 108]) = false := by rw [ByteArray.toList_eq]; simp [hk]
  have q8 : (s.toList == [101, 98, 114, 101, 97, 107]) = false := by rw [ByteArray.toList_eq]; simp [hk]
  have q9 : (s.toList == [109, 114, 101, 116]) = false := by rw [ByteArray.toList_eq]; simp [hk]
  have q10 : (s.toList == [115, 114, 101, 116]) = false := by rw [ByteArray.toList_eq]; simp [hk]
  have q11 : (s.toList == [119, 102, 105]) = false := by rw [ByteArray.toList_eq]; simp [hk]
  have q12 : (s.toList == [115, 102, 101, 110, 99, 101, 46, 118, 109, 97]) = false := by rw [ByteArray.toList_eq]; simp [hk]
  have E1 : Hid (endsB s ⟨#[46, 119]⟩ = false) := by
    show _ = _; unfold endsB; rw [ByteArray.toList_eq, ByteArray.toList_eq]
    have : ((s.extract (s.size - (⟨#[46, 119]⟩ : ByteArray).size) s.size).data.toList == (⟨#[46, 119]⟩ : ByteArray).data.toList) = false := by rw [show (⟨#[46, 119]⟩ : ByteArray).size = 2 from rfl]; exact beq_eq_false_iff_ne.2 e1
    rw [this]; simp
  have E2 : Hid (endsB s ⟨#[46, 100]⟩ = false) := by
    show _ = _; unfold endsB; rw [ByteArray.toList_eq, ByteArray.toList_eq]
    have : ((s.extract (s.size - (⟨#[46, 100]⟩ : ByteArray).size) s.size).data.toList == (⟨#[46, 100]⟩ : ByteArray).data.toList) = false := by rw [show (⟨#[46, 100]⟩ : ByteArray).size = 2 from rfl]; exact beq_eq_false_iff_ne.2 e2
    rw [this]; simp
  have e5 : ((s.extract 0 3).toList == [99, 115, 114]) = true := by rw [ByteArray.toList_eq, e4]; rfl
  have e6 : 3 ≤ s.size := by omega
  clear e1 e2 e4 hk
  go_enter Try.func88, Try.ntmps88
  go_wp2_with fail
  refine (names_any _).mono ?_
  rintro e w1 ⟨rfl, rfl⟩
  go_wp2_with fail
  refine (ends_v E1.out _ hz rfl).mono ?_
  rintro e w1 ⟨rfl, rfl⟩
  go_wp2_with fail
  refine (ends_v E2.out _ hz rfl).mono ?_
  rintro e w1 ⟨rfl, rfl⟩
  go_wp2
  go_ret
  exact ⟨rfl, hF.1⟩
def NotEightB (w : World) (e : Ending) (w' : World) : Prop := ∃ c : Int, e = .returned (.int .i64 c) ∧ (c == 8) = false ∧ (c != 8) = true ∧ Below w.heap.size w w'
set_option maxRecDepth 100000 in
set_option maxHeartbeats 4000000 in
theorem rclass_in (op : Nat) (w : World) (h0 : 1 ≤ op) (h98 : op ≤ 98) (h : op < 89 ∨ 94 < op) :
    Calls Try.prog 88 #[.int .i64 (op : Int)] w (NotEightB w) := by
  have hF := (Fr.refl w).alloc (.cells cells04 9)
  have hc := cells04_at (heap_alloc_new w (.cells cells04 9)) op (by omega)
  have hz := names_size op (by omega)
  have hn := not_csr op (by omega) h
  have hb := some_byte op (by omega) h0
  obtain ⟨s, hs⟩ : ∃ s, nameAt op = s := ⟨_, rfl⟩
  rw [hs] at hc hz hn hb
  clear hs h
  have e5 : 3 < s.size → ((s.extract 0 3).toList == [99, 115, 114]) = false := fun h => by rw [ByteArray.toList_eq]; simpa using hn h
  have HF := Lib.hid hF.1
  clear hn
  go_enter Try.func88, Try.ntmps88
  go_wp2_with fail
  refine (names_any _).mono ?_
  rintro e w1 ⟨rfl, rfl⟩
  by_cases h3 : 3 < s.size
  · have e5 := e5 h3
    have e6 : 3 ≤ s.size := by omega
    go_wp2_with (go_at_call 117; refine (ends_any _ _ _ hz rfl).mono ?_; rintro e w1 ⟨rfl, rfl⟩)
    all_goals go_ret
    all_goals exact ⟨_, rfl, rfl, rfl, HF.out⟩
  · clear e5
    go_wp2_with (go_at_call 117; refine (ends_any _ _ _ hz rfl).mono ?_; rintro e w1 ⟨rfl, rfl⟩)
    all_goals go_ret
    all_goals exact ⟨_, rfl, rfl, rfl, HF.out⟩
theorem rclass_other (op : Int) (w : World) (h : isCsrOp op = false) :
    Calls Try.prog 88 #[.int .i64 op] w (NotEightB w) := by
  by_cases h1 : op < 1
  · go_enter Try.func88, Try.ntmps88
    go_wp2
    go_ret
    exact ⟨_, rfl, rfl, rfl, Below.refl _ _⟩
  by_cases h2 : 98 < op
  · go_enter Try.func88, Try.ntmps88
    go_wp2
    go_ret
    exact ⟨_, rfl, rfl, rfl, Below.refl _ _⟩
  obtain ⟨k, rfl⟩ := Int.eq_ofNat_of_zero_le (show 0 ≤ op by omega)
  refine rclass_in k w (by omega) (by omega) ?_
  unfold isCsrOp at h
  simp at h
  omega
end Go.Proofs.Ythkkfdhgpaonjaa
