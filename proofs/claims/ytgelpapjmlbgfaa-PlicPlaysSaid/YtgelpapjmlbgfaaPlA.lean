/- The plic's state as cells, of the program and of the document. Plain. -/
import Derived.Test.YtgelpapjmlbgfaaWd
import Derived.Lib.Hide
import Derived.Deep.WholeRow
import Derived.Test.YtgelpapjmlbgfaaChecked
namespace Go.Proofs.Ytgelpapjmlbgfaa
open Go.RowKit
set_option linter.unusedSimpArgs false
set_option linter.unusedVariables false

/-- The word of bits. -/
def mkW (f : Nat → Bool) : Nat → Nat
  | 0 => 0
  | n + 1 => mkW f n + (f n).toNat * 2 ^ n
theorem mkW_lt (f : Nat → Bool) : ∀ n, mkW f n < 2 ^ n
  | 0 => by simp [mkW]
  | n + 1 => by
    have := mkW_lt f n
    rw [mkW, Nat.pow_succ]
    cases f n <;> simp <;> omega
theorem mkW_bit (f : Nat → Bool) : ∀ n i, (mkW f n).testBit i = (decide (i < n) && f i)
  | 0, i => by simp [mkW]
  | n + 1, i => by
    have hl := mkW_lt f n
    have ih := mkW_bit f n i
    have e : mkW f (n + 1) = 2 ^ n * (f n).toNat + mkW f n := by rw [mkW, Nat.mul_comm, Nat.add_comm]
    rw [e, Nat.testBit_two_pow_mul_add _ hl]
    by_cases h : i < n
    · rw [if_pos h, ih]; simp [h, Nat.lt_succ_of_lt h]
    · rw [if_neg h]
      by_cases h2 : i = n
      · subst h2; cases f i <;> simp
      · have h3 : ¬ i < n + 1 := by omega
        have : i - n ≠ 0 := by omega
        cases f n
        · simp [h3]
        · have e1 : (true.toNat).testBit (i - n) = false := by
            refine Nat.testBit_lt_two_pow ?_
            have := Nat.pow_le_pow_right (n := 2) (by omega) (show 1 ≤ i - n by omega)
            simp at this ⊢
            omega
          rw [e1]; simp [h3]
def W32 (f : Nat → Bool) : Nat := mkW f 32
theorem W32_lt (f : Nat → Bool) : W32 f < 4294967296 := mkW_lt f 32
theorem W32_bit (f : Nat → Bool) (i : Nat) : (W32 f).testBit i = (decide (i < 32) && f i) := mkW_bit f 32 i
theorem W32_eq {f : Nat → Bool} {y : Nat} (hy : y < 4294967296) (h : ∀ i, i < 32 → y.testBit i = f i) : y = W32 f := by
  apply Nat.eq_of_testBit_eq
  intro i
  rw [W32_bit]
  by_cases hi : i < 32
  · rw [h i hi]; simp [hi]
  · rw [Nat.testBit_lt_two_pow (Nat.lt_of_lt_of_le hy (by have := Nat.pow_le_pow_right (n := 2) (by omega) (show 32 ≤ i by omega); simpa using this))]
    simp [hi]
theorem W32_congr {f g : Nat → Bool} (h : ∀ i, i < 32 → f i = g i) : W32 f = W32 g :=
  W32_eq (W32_lt f) fun i hi => by rw [W32_bit]; simp [hi, h i hi]

/-- A row of n cells. -/
def rowV (n : Nat) (f : Nat → Value) : Array Value := ((List.range n).map f).toArray
theorem rowV_size (n : Nat) (f : Nat → Value) : (rowV n f).size = n := by simp [rowV]
theorem rowV_get (n : Nat) (f : Nat → Value) {i : Nat} (hi : i < n) : (rowV n f)[i]? = some (f i) := by simp [rowV, hi]
theorem rowV_one (n : Nat) (f : Nat → Value) (h : ∀ i, i < n → (f i).oneCell' = true) : (rowV n f).all (·.oneCell') = true := by
  rw [Array.all_eq_true_iff_forall_mem]
  intro v hv
  simp only [rowV, List.mem_toArray, List.mem_map, List.mem_range] at hv
  obtain ⟨i, hi, rfl⟩ := hv
  exact h i hi
theorem rowV_ext {n : Nat} {f g : Nat → Value} (e : ∀ i, i < n → f i = g i) : rowV n f = rowV n g := by
  unfold rowV
  congr 1
  exact List.map_congr_left fun i hi => e i (List.mem_range.1 hi)
theorem rowV_set {n : Nat} {f g : Nat → Value} {i : Nat} {v : Value} (hi : i < n) (h1 : g i = v) (h2 : ∀ j, j < n → j ≠ i → g j = f j) : (rowV n f).setIfInBounds i v = rowV n g := by
  apply Array.ext_getElem?
  intro j
  rw [Array.getElem?_setIfInBounds]
  by_cases hj : j < n
  · rw [rowV_get _ _ hj, rowV_get _ _ hj, rowV_size]
    by_cases e : i = j
    · subst e; simp [hj, h1]
    · rw [if_neg e, h2 j hj (Ne.symm e)]
  · have n1 : (rowV n f)[j]? = none := by rw [Array.getElem?_eq_none]; rw [rowV_size]; omega
    have n2 : (rowV n g)[j]? = none := by rw [Array.getElem?_eq_none]; rw [rowV_size]; omega
    rw [n1, n2, if_neg (by omega)]

/-- A controller. -/
structure PS where
  n : Int
  pr : Nat → Nat
  wi : Nat → Bool
  wa : Nat → Bool
  se : Nat → Bool
  on : Nat → Nat → Bool
  lv : Nat → Nat
def cellP (s : PS) (i : Nat) : Value :=
  if i = 0 then .int .i64 s.n
  else if i < 33 then .int .u8 (s.pr (i - 1) : Int)
  else if i = 33 then .int .u32 (W32 s.wi : Int)
  else if i = 34 then .int .u32 (W32 s.wa : Int)
  else if i = 35 then .int .u32 (W32 s.se : Int)
  else if i < 52 then .int .u32 (W32 (s.on (i - 36)) : Int)
  else .int .u8 (s.lv (i - 52) : Int)
def cellD (s : PS) (i : Nat) : Value :=
  if i = 0 then .int .i64 s.n
  else if i < 33 then .int .i64 (s.pr (i - 1) : Int)
  else if i < 65 then .bool (s.wi (i - 33))
  else if i < 97 then .bool (s.wa (i - 65))
  else if i < 129 then .bool (s.se (i - 97))
  else if i < 641 then .bool (s.on ((i - 129) / 32) ((i - 129) % 32))
  else .int .i64 (s.lv (i - 641) : Int)
def cellsP (s : PS) : Array Value := rowV 68 (cellP s)
def cellsD (s : PS) : Array Value := rowV 657 (cellD s)
def szP : Nat := 68
def szD : Nat := 657
theorem size_cellsP (s : PS) : (cellsP s).size = szP := rowV_size _ _
theorem size_cellsD (s : PS) : (cellsD s).size = szD := rowV_size _ _
theorem one_cellsP (s : PS) : (cellsP s).all (·.oneCell') = true := rowV_one _ _ fun i _ => by
  unfold cellP
  repeat' split
  all_goals rfl
theorem one_cellsD (s : PS) : (cellsD s).all (·.oneCell') = true := rowV_one _ _ fun i _ => by
  unfold cellD
  repeat' split
  all_goals rfl
def upN {α : Type} (f : Nat → α) (i : Nat) (v : α) : Nat → α := fun j => if j = i then v else f j
theorem upN_same {α : Type} (f : Nat → α) (i : Nat) (v : α) : upN f i v i = v := if_pos rfl
theorem upN_other {α : Type} (f : Nat → α) {i j : Nat} (h : j ≠ i) (v : α) : upN f i v j = f j := if_neg h
def setPr (s : PS) (i v : Nat) : PS := { s with pr := upN s.pr i v }
def setLv (s : PS) (i v : Nat) : PS := { s with lv := upN s.lv i v }
def setOn (s : PS) (i : Nat) (f : Nat → Bool) : PS := { s with on := upN s.on i f }
def setWi (s : PS) (f : Nat → Bool) : PS := { s with wi := f }
def setWa (s : PS) (f : Nat → Bool) : PS := { s with wa := f }
def setSe (s : PS) (f : Nat → Bool) : PS := { s with se := f }
def setN (s : PS) (n : Int) : PS := { s with n := n }

theorem P_n (s : PS) : (cellsP s)[0]? = some (.int .i64 s.n) := rowV_get _ _ (by omega)
theorem P_pr (s : PS) {i : Nat} (hi : i < 32) : (cellsP s)[1 + i]? = some (.int .u8 (s.pr i : Int)) := by
  rw [cellsP, rowV_get _ _ (by omega)]; unfold cellP
  rw [if_neg (by omega), if_pos (by omega), show 1 + i - 1 = i by omega]
theorem P_wi (s : PS) : (cellsP s)[33]? = some (.int .u32 (W32 s.wi : Int)) := rowV_get _ _ (by omega)
theorem P_wa (s : PS) : (cellsP s)[34]? = some (.int .u32 (W32 s.wa : Int)) := rowV_get _ _ (by omega)
theorem P_se (s : PS) : (cellsP s)[35]? = some (.int .u32 (W32 s.se : Int)) := rowV_get _ _ (by omega)
theorem P_on (s : PS) {i : Nat} (hi : i < 16) : (cellsP s)[36 + i]? = some (.int .u32 (W32 (s.on i) : Int)) := by
  rw [cellsP, rowV_get _ _ (by omega)]; unfold cellP
  rw [if_neg (by omega), if_neg (by omega), if_neg (by omega), if_neg (by omega), if_neg (by omega), if_pos (by omega), show 36 + i - 36 = i by omega]
theorem P_lv (s : PS) {i : Nat} (hi : i < 16) : (cellsP s)[52 + i]? = some (.int .u8 (s.lv i : Int)) := by
  rw [cellsP, rowV_get _ _ (by omega)]; unfold cellP
  rw [if_neg (by omega), if_neg (by omega), if_neg (by omega), if_neg (by omega), if_neg (by omega), if_neg (by omega), show 52 + i - 52 = i by omega]
theorem P_setN (s : PS) (n : Int) : (cellsP s).setIfInBounds 0 (.int .i64 n) = cellsP (setN s n) :=
  rowV_set (by omega) rfl fun j hj hne => by unfold cellP setN; simp only [if_neg hne]
theorem P_setPr (s : PS) {i : Nat} (hi : i < 32) (v : Nat) : (cellsP s).setIfInBounds (1 + i) (.int .u8 (v : Int)) = cellsP (setPr s i v) := by
  refine rowV_set (by omega) ?_ fun j hj hne => ?_
  · unfold cellP setPr
    rw [if_neg (by omega), if_pos (by omega), show 1 + i - 1 = i by omega]
    show Value.int .u8 ((upN s.pr i v i : Nat) : Int) = _
    rw [upN_same]
  · unfold cellP setPr
    simp only []
    by_cases h0 : j = 0
    · rw [if_pos h0, if_pos h0]
    · rw [if_neg h0, if_neg h0, upN_other _ (by omega)]
theorem P_setWi (s : PS) (f : Nat → Bool) : (cellsP s).setIfInBounds 33 (.int .u32 (W32 f : Int)) = cellsP (setWi s f) :=
  rowV_set (by omega) rfl fun j hj hne => by unfold cellP setWi; simp only [if_neg hne]
theorem P_setWa (s : PS) (f : Nat → Bool) : (cellsP s).setIfInBounds 34 (.int .u32 (W32 f : Int)) = cellsP (setWa s f) :=
  rowV_set (by omega) rfl fun j hj hne => by unfold cellP setWa; simp only [if_neg hne]
theorem P_setSe (s : PS) (f : Nat → Bool) : (cellsP s).setIfInBounds 35 (.int .u32 (W32 f : Int)) = cellsP (setSe s f) :=
  rowV_set (by omega) rfl fun j hj hne => by unfold cellP setSe; simp only [if_neg hne]
theorem P_setOn (s : PS) {i : Nat} (hi : i < 16) (f : Nat → Bool) : (cellsP s).setIfInBounds (36 + i) (.int .u32 (W32 f : Int)) = cellsP (setOn s i f) := by
  refine rowV_set (by omega) ?_ fun j hj hne => ?_
  · unfold cellP setOn
    rw [if_neg (by omega), if_neg (by omega), if_neg (by omega), if_neg (by omega), if_neg (by omega), if_pos (by omega), show 36 + i - 36 = i by omega]
    show Value.int .u32 (W32 (upN s.on i f i) : Int) = _
    rw [upN_same]
  · unfold cellP setOn
    simp only []
    by_cases h5 : j < 36
    · by_cases h0 : j = 0
      · simp only [if_pos h0]
      · by_cases h1 : j < 33
        · simp only [if_neg h0, if_pos h1]
        · by_cases h2 : j = 33
          · simp only [if_neg h0, if_neg h1, if_pos h2]
          · by_cases h3 : j = 34
            · simp only [if_neg h0, if_neg h1, if_neg h2, if_pos h3]
            · simp only [if_neg h0, if_neg h1, if_neg h2, if_neg h3, if_pos (show j = 35 by omega)]
    · rw [upN_other _ (by omega)]
theorem P_setLv (s : PS) {i : Nat} (hi : i < 16) (v : Nat) : (cellsP s).setIfInBounds (52 + i) (.int .u8 (v : Int)) = cellsP (setLv s i v) := by
  refine rowV_set (by omega) ?_ fun j hj hne => ?_
  · unfold cellP setLv
    rw [if_neg (by omega), if_neg (by omega), if_neg (by omega), if_neg (by omega), if_neg (by omega), if_neg (by omega), show 52 + i - 52 = i by omega]
    show Value.int .u8 ((upN s.lv i v i : Nat) : Int) = _
    rw [upN_same]
  · unfold cellP setLv
    simp only []
    by_cases h5 : j < 52
    · simp only [if_pos h5]
    · rw [upN_other _ (by omega)]
theorem D_n (s : PS) : (cellsD s)[0]? = some (.int .i64 s.n) := rowV_get _ _ (by omega)
theorem D_pr (s : PS) {i : Nat} (hi : i < 32) : (cellsD s)[1 + i]? = some (.int .i64 (s.pr i : Int)) := by
  rw [cellsD, rowV_get _ _ (by omega)]; unfold cellD
  rw [if_neg (by omega), if_pos (by omega), show 1 + i - 1 = i by omega]
theorem D_wi (s : PS) {i : Nat} (hi : i < 32) : (cellsD s)[33 + i]? = some (.bool (s.wi i)) := by
  rw [cellsD, rowV_get _ _ (by omega)]; unfold cellD
  rw [if_neg (by omega), if_neg (by omega), if_pos (by omega), show 33 + i - 33 = i by omega]
theorem D_wa (s : PS) {i : Nat} (hi : i < 32) : (cellsD s)[65 + i]? = some (.bool (s.wa i)) := by
  rw [cellsD, rowV_get _ _ (by omega)]; unfold cellD
  rw [if_neg (by omega), if_neg (by omega), if_neg (by omega), if_pos (by omega), show 65 + i - 65 = i by omega]
theorem D_se (s : PS) {i : Nat} (hi : i < 32) : (cellsD s)[97 + i]? = some (.bool (s.se i)) := by
  rw [cellsD, rowV_get _ _ (by omega)]; unfold cellD
  rw [if_neg (by omega), if_neg (by omega), if_neg (by omega), if_neg (by omega), if_pos (by omega), show 97 + i - 97 = i by omega]
theorem D_on (s : PS) {c i : Nat} (hc : c < 16) (hi : i < 32) : (cellsD s)[129 + c * 32 + i]? = some (.bool (s.on c i)) := by
  rw [cellsD, rowV_get _ _ (by omega)]; unfold cellD
  rw [if_neg (by omega), if_neg (by omega), if_neg (by omega), if_neg (by omega), if_neg (by omega), if_pos (by omega), show (129 + c * 32 + i - 129) / 32 = c by omega, show (129 + c * 32 + i - 129) % 32 = i by omega]
theorem D_lv (s : PS) {i : Nat} (hi : i < 16) : (cellsD s)[641 + i]? = some (.int .i64 (s.lv i : Int)) := by
  rw [cellsD, rowV_get _ _ (by omega)]; unfold cellD
  rw [if_neg (by omega), if_neg (by omega), if_neg (by omega), if_neg (by omega), if_neg (by omega), if_neg (by omega), show 641 + i - 641 = i by omega]
theorem D_setN (s : PS) (n : Int) : (cellsD s).setIfInBounds 0 (.int .i64 n) = cellsD (setN s n) :=
  rowV_set (by omega) rfl fun j hj hne => by unfold cellD setN; simp only [if_neg hne]
theorem D_setPr (s : PS) {i : Nat} (hi : i < 32) (v : Nat) : (cellsD s).setIfInBounds (1 + i) (.int .i64 (v : Int)) = cellsD (setPr s i v) := by
  refine rowV_set (by omega) ?_ fun j hj hne => ?_
  · unfold cellD setPr
    rw [if_neg (by omega), if_pos (by omega), show 1 + i - 1 = i by omega]
    show Value.int .i64 ((upN s.pr i v i : Nat) : Int) = _
    rw [upN_same]
  · unfold cellD setPr
    simp only []
    by_cases h0 : j = 0
    · rw [if_pos h0, if_pos h0]
    · rw [if_neg h0, if_neg h0, upN_other _ (by omega)]
theorem D_setWi (s : PS) {i : Nat} (hi : i < 32) (v : Bool) : (cellsD s).setIfInBounds (33 + i) (.bool v) = cellsD (setWi s (upN s.wi i v)) := by
  refine rowV_set (by omega) ?_ fun j hj hne => ?_
  · unfold cellD setWi
    rw [if_neg (by omega), if_neg (by omega), if_pos (by omega), show 33 + i - 33 = i by omega]
    show Value.bool (upN s.wi i v i) = _
    rw [upN_same]
  · unfold cellD setWi
    simp only []
    by_cases h0 : j < 33
    · by_cases h1 : j = 0
      · simp only [if_pos h1]
      · simp only [if_neg h1, if_pos h0]
    · rw [upN_other _ (by omega)]
theorem D_setWa (s : PS) {i : Nat} (hi : i < 32) (v : Bool) : (cellsD s).setIfInBounds (65 + i) (.bool v) = cellsD (setWa s (upN s.wa i v)) := by
  refine rowV_set (by omega) ?_ fun j hj hne => ?_
  · unfold cellD setWa
    rw [if_neg (by omega), if_neg (by omega), if_neg (by omega), if_pos (by omega), show 65 + i - 65 = i by omega]
    show Value.bool (upN s.wa i v i) = _
    rw [upN_same]
  · unfold cellD setWa
    simp only []
    by_cases h0 : j < 65
    · by_cases h1 : j = 0
      · simp only [if_pos h1]
      · by_cases h2 : j < 33
        · simp only [if_neg h1, if_pos h2]
        · simp only [if_neg h1, if_neg h2, if_pos h0]
    · rw [upN_other _ (by omega)]
theorem D_setSe (s : PS) {i : Nat} (hi : i < 32) (v : Bool) : (cellsD s).setIfInBounds (97 + i) (.bool v) = cellsD (setSe s (upN s.se i v)) := by
  refine rowV_set (by omega) ?_ fun j hj hne => ?_
  · unfold cellD setSe
    rw [if_neg (by omega), if_neg (by omega), if_neg (by omega), if_neg (by omega), if_pos (by omega), show 97 + i - 97 = i by omega]
    show Value.bool (upN s.se i v i) = _
    rw [upN_same]
  · unfold cellD setSe
    simp only []
    by_cases h0 : j < 97
    · by_cases h1 : j = 0
      · simp only [if_pos h1]
      · by_cases h2 : j < 33
        · simp only [if_neg h1, if_pos h2]
        · by_cases h3 : j < 65
          · simp only [if_neg h1, if_neg h2, if_pos h3]
          · simp only [if_neg h1, if_neg h2, if_neg h3, if_pos h0]
    · rw [upN_other _ (by omega)]
theorem D_setOn (s : PS) {c i : Nat} (hc : c < 16) (hi : i < 32) (v : Bool) : (cellsD s).setIfInBounds (129 + c * 32 + i) (.bool v) = cellsD (setOn s c (upN (s.on c) i v)) := by
  refine rowV_set (by omega) ?_ fun j hj hne => ?_
  · unfold cellD setOn
    rw [if_neg (by omega), if_neg (by omega), if_neg (by omega), if_neg (by omega), if_neg (by omega), if_pos (by omega), show (129 + c * 32 + i - 129) / 32 = c by omega, show (129 + c * 32 + i - 129) % 32 = i by omega]
    show Value.bool (upN s.on c (upN (s.on c) i v) c i) = _
    rw [upN_same, upN_same]
  · unfold cellD setOn
    simp only []
    by_cases h0 : j < 129
    · by_cases h1 : j = 0
      · simp only [if_pos h1]
      · by_cases h2 : j < 33
        · simp only [if_neg h1, if_pos h2]
        · by_cases h3 : j < 65
          · simp only [if_neg h1, if_neg h2, if_pos h3]
          · by_cases h4 : j < 97
            · simp only [if_neg h1, if_neg h2, if_neg h3, if_pos h4]
            · simp only [if_neg h1, if_neg h2, if_neg h3, if_neg h4, if_pos h0]
    · by_cases h5 : (j - 129) / 32 = c
      · rw [h5, upN_same, upN_other _ (by omega)]
      · rw [upN_other _ h5]
theorem D_setLv (s : PS) {i : Nat} (hi : i < 16) (v : Nat) : (cellsD s).setIfInBounds (641 + i) (.int .i64 (v : Int)) = cellsD (setLv s i v) := by
  refine rowV_set (by omega) ?_ fun j hj hne => ?_
  · unfold cellD setLv
    rw [if_neg (by omega), if_neg (by omega), if_neg (by omega), if_neg (by omega), if_neg (by omega), if_neg (by omega), show 641 + i - 641 = i by omega]
    show Value.int .i64 ((upN s.lv i v i : Nat) : Int) = _
    rw [upN_same]
  · unfold cellD setLv
    simp only []
    by_cases h5 : j < 641
    · simp only [if_pos h5]
    · rw [upN_other _ (by omega)]
def zeroP : PS := ⟨0, fun _ => 0, fun _ => false, fun _ => false, fun _ => false, fun _ _ => false, fun _ => 0⟩
def newP (n : Int) : PS := if n < 1 ∨ 8 < n then zeroP else setN zeroP n

/- Blocks that hold a controller. -/
theorem knownP {w : World} {b : Nat} {s : PS} {t : TypeId} (h : w.heap[b]? = some (.cells (cellsP s) t)) :
    w.cell? ⟨b, 0, none⟩ = some (.int .i64 s.n) ∧ w.cell? ⟨b, 33, none⟩ = some (.int .u32 (W32 s.wi : Int)) ∧ w.cell? ⟨b, 34, none⟩ = some (.int .u32 (W32 s.wa : Int)) ∧ w.cell? ⟨b, 35, none⟩ = some (.int .u32 (W32 s.se : Int)) ∧ b < w.heap.size ∧ (∀ o, w.frozen? ⟨b, o, none⟩ = false) := by
  refine ⟨by rw [cell_at h]; exact P_n s, by rw [cell_at h]; exact P_wi s, by rw [cell_at h]; exact P_wa s, by rw [cell_at h]; exact P_se s, lt_of_at h, fun o => by simp [World.frozen?, h]⟩
theorem knownPpr {w : World} {b : Nat} {s : PS} {t : TypeId} (h : w.heap[b]? = some (.cells (cellsP s) t)) {i : Nat} (hi : i < 32) : w.cell? ⟨b, 1 + i, none⟩ = some (.int .u8 (s.pr i : Int)) := by
  rw [cell_at h]; exact P_pr s hi
theorem knownPon {w : World} {b : Nat} {s : PS} {t : TypeId} (h : w.heap[b]? = some (.cells (cellsP s) t)) {i : Nat} (hi : i < 16) : w.cell? ⟨b, 36 + i, none⟩ = some (.int .u32 (W32 (s.on i) : Int)) := by
  rw [cell_at h]; exact P_on s hi
theorem knownPlv {w : World} {b : Nat} {s : PS} {t : TypeId} (h : w.heap[b]? = some (.cells (cellsP s) t)) {i : Nat} (hi : i < 16) : w.cell? ⟨b, 52 + i, none⟩ = some (.int .u8 (s.lv i : Int)) := by
  rw [cell_at h]; exact P_lv s hi
theorem knownD {w : World} {b : Nat} {s : PS} {t : TypeId} (h : w.heap[b]? = some (.cells (cellsD s) t)) :
    w.cell? ⟨b, 0, none⟩ = some (.int .i64 s.n) ∧ b < w.heap.size ∧ (∀ o, w.frozen? ⟨b, o, none⟩ = false) := by
  refine ⟨by rw [cell_at h]; exact D_n s, lt_of_at h, fun o => by simp [World.frozen?, h]⟩
theorem ld_row {P : Program} {w : World} {b : Nat} {c : Array Value} {t : TypeId} (h : w.heap[b]? = some (.cells c t)) : (loadCellsFrom ⟨b, 0, none⟩ 0 c.size #[]).run P w = .ok c w := by
  have := run_loadCells_list (P := P) w ⟨b, 0, none⟩ c.toList (fun j v hv => by
    have hadd : (⟨b, 0, none⟩ : Addr).add j = ⟨b, j, none⟩ := by unfold Addr.add; split <;> simp_all
    rw [hadd, cell_at h]
    simpa using hv)
  rw [Array.length_toList] at this
  exact this
theorem row_at {w : World} {b : Nat} {c : Array Value} {t : TypeId} {f : Nat × Nat} (h : w.heap[b]? = some (.cells c t f)) (c' : Array Value) : (w.setRow b c').heap[b]? = some (.cells c' t f) := by
  simp [World.setRow, Array.getElem?_modify, h]
theorem keep_row {w : World} {b b' : Nat} {o : Obj} (h : w.heap[b']? = some o) (hne : b ≠ b') (c' : Array Value) : (w.setRow b c').heap[b']? = some o := by
  simp [World.setRow, Array.getElem?_modify, h, hne]
theorem Fr.row {B : Nat} {w0 w : World} (h : Fr B w0 w) {b : Nat} (hb : B ≤ b) (c' : Array Value) : Fr B w0 (w.setRow b c') :=
  ⟨⟨h.1.os, h.1.tape, h.1.output, by simpa [World.setRow] using h.1.size, fun j hj => by
      have e := h.1.block j hj
      rw [← e]
      simp [World.setRow, Array.getElem?_modify, show ¬ b = j by omega]⟩, by simpa [World.setRow] using h.2⟩
theorem st_row {w : World} {b : Nat} {c c' : Array Value} {t : TypeId} (P : Program) (h : w.heap[b]? = some (.cells c t)) (hs : c.size = c'.size) (h1 : c'.all (·.oneCell') = true) : (storeCells ⟨b, 0, none⟩ c'.toList).run P w = .ok () (w.setRow b c') := by
  have := run_storeCells_from (P := P) b t c'.toList 0 c w h (by simp [hs]) (fun v hv => (Array.all_eq_true_iff_forall_mem.1 h1) v (by simpa using hv))
  simpa [hs] using this
theorem ldP {P : Program} {w : World} {b : Nat} {s : PS} {t : TypeId} (h : w.heap[b]? = some (.cells (cellsP s) t)) : (loadCellsFrom ⟨b, 0, none⟩ 0 szP #[]).run P w = .ok (cellsP s) w := by
  have := ld_row (P := P) h; rwa [size_cellsP] at this
theorem ldD {P : Program} {w : World} {b : Nat} {s : PS} {t : TypeId} (h : w.heap[b]? = some (.cells (cellsD s) t)) : (loadCellsFrom ⟨b, 0, none⟩ 0 szD #[]).run P w = .ok (cellsD s) w := by
  have := ld_row (P := P) h; rwa [size_cellsD] at this
theorem stP {w : World} {b : Nat} {s : PS} {t : TypeId} (P : Program) (h : w.heap[b]? = some (.cells (cellsP s) t)) (s' : PS) : (storeCells ⟨b, 0, none⟩ (cellsP s').toList).run P w = .ok () (w.setRow b (cellsP s')) := st_row P h (by rw [size_cellsP, size_cellsP]) (one_cellsP s')
theorem stD {w : World} {b : Nat} {s : PS} {t : TypeId} (P : Program) (h : w.heap[b]? = some (.cells (cellsD s) t)) (s' : PS) : (storeCells ⟨b, 0, none⟩ (cellsD s').toList).run P w = .ok () (w.setRow b (cellsD s')) := st_row P h (by rw [size_cellsD, size_cellsD]) (one_cellsD s')

/- The two types. -/
theorem infoP : (Try.prog.info? 60).map (·.size) = some 68 := by kernel_rfl
theorem zeroPv (w : World) : (zeroValue 60).run Try.prog w = .ok (.agg (cellsP zeroP)) w := by kernel_rfl
theorem sizePv (w : World) : (sizeOf 60).run Try.prog w = .ok szP w := by kernel_rfl
theorem lvP {w : World} {b : Nat} {s : PS} {t : TypeId} (h : w.heap[b]? = some (.cells (cellsP s) t)) : (loadVar 60 ⟨b, 0, none⟩).run Try.prog w = .ok (.agg (cellsP s)) w := run_loadVar_row w b _ _ _ _ _ h Try.underlying60 rfl (by rw [infoP, size_cellsP]; rfl)
theorem bdP (w : World) : (Instr.build 60 #[]).run Try.prog w = .ok (.agg (cellsP zeroP)) w := by
  simp [Instr.build, zeroPv, go_sem]
theorem stnP (w : World) (s s' : PS) : (storeCells ⟨w.heap.size, 0, none⟩ (cellsP s').toList).run Try.prog (w.alloc (.cells (cellsP s) 60)) = .ok () (w.alloc (.cells (cellsP s') 60)) :=
  run_storeCells_new w _ _ _ infoP (by rw [size_cellsP]; rfl) (one_cellsP s')
theorem stnP_1 (w : World) (o : Obj) (s s' : PS) : (storeCells ⟨w.heap.size + 1, 0, none⟩ (cellsP s').toList).run Try.prog ((w.alloc o).alloc (.cells (cellsP s) 60)) = .ok () ((w.alloc o).alloc (.cells (cellsP s') 60)) := by
  have h := stnP (w.alloc o) s s'
  have e : (w.alloc o).heap.size = w.heap.size + 1 := by simp
  rw [e] at h
  exact h
end Go.Proofs.Ytgelpapjmlbgfaa
