/- Lines of 64 bytes as cells. Plain. -/
import Derived.Test.YtdeheoaeagoidaaWd
import Derived.Test.YtdeheoaeagoidaaArr
import Derived.Lib.Hide
import Derived.Deep.WholeRow
import Derived.DeepKeys
import Derived.Test.YtdeheoaeagoidaaChecked
namespace Go.Proofs.Ytdeheoaeagoidaa
open Go.RowKit
set_option linter.unusedSimpArgs false
set_option linter.unusedVariables false

/-- A line's cells. -/
def cellsL (g : Nat → Nat) : Array Value := ((List.range 64).map fun i => Value.int .u8 (g i : Int)).toArray
def sz64 : Nat := 64
theorem size_cellsL (g : Nat → Nat) : (cellsL g).size = sz64 := by simp [cellsL, sz64]
theorem size_cellsL' (g : Nat → Nat) : (cellsL g).size = 64 := by simp [cellsL]
theorem one_cellsL (g : Nat → Nat) : (cellsL g).all (·.oneCell') = true := by simp [cellsL, Value.oneCell']
theorem cellsL_get (g : Nat → Nat) {i : Nat} (hi : i < 64) : (cellsL g)[i]? = some (.int .u8 (g i : Int)) := by simp [cellsL, hi]
theorem cellsL_getD (g : Nat → Nat) {i : Nat} (hi : i < 64) : (cellsL g).getD i undef = .int .u8 (g i : Int) := by
  have h := cellsL_get g hi
  simp [Array.getD_eq_getD_getElem?, h]
def updL (g : Nat → Nat) (i v : Nat) : Nat → Nat := fun j => if j = i then v else g j
theorem cellsL_ext {g h : Nat → Nat} (e : ∀ i, i < 64 → g i = h i) : cellsL g = cellsL h := by
  unfold cellsL
  congr 1
  refine List.map_congr_left fun i hi => ?_
  rw [e i (List.mem_range.1 hi)]
theorem cellsL_set (g : Nat → Nat) {i : Nat} (hi : i < 64) (v : Nat) : (cellsL g).setIfInBounds i (.int .u8 (v : Int)) = cellsL (updL g i v) := by
  apply Array.ext_getElem?
  intro j
  rw [Array.getElem?_setIfInBounds]
  by_cases hj : j < 64
  · rw [cellsL_get _ hj, cellsL_get _ hj, size_cellsL']
    unfold updL
    by_cases e : i = j
    · subst e; simp [hj]
    · simp [e, Ne.symm e]
  · have n1 : (cellsL g)[j]? = none := by rw [Array.getElem?_eq_none]; rw [size_cellsL']; omega
    have n2 : (cellsL (updL g i v))[j]? = none := by rw [Array.getElem?_eq_none]; rw [size_cellsL']; omega
    rw [n1, n2, if_neg (by omega)]
def OkL (g : Nat → Nat) : Prop := ∀ i, g i < 256
theorem OkL.upd {g : Nat → Nat} (ok : OkL g) (i v : Nat) (hv : v < 256) : OkL (updL g i v) := by
  intro j; unfold updL; split; exact hv; exact ok j

/- A number in a line. -/
def numL (g : Nat → Nat) (a : Nat) : Nat → Nat
  | 0 => 0
  | m + 1 => g a + 256 * numL g (a + 1) m
theorem numL_lt {g : Nat → Nat} (ok : OkL g) : ∀ (m a : Nat), numL g a m < 256 ^ m
  | 0, _ => by simp [numL]
  | m + 1, a => by
      have h := numL_lt ok m (a + 1)
      have h0 := ok a
      show g a + 256 * numL g (a + 1) m < 256 ^ (m + 1)
      rw [Nat.pow_succ]
      omega
theorem pow256_le {m : Nat} (h : m ≤ 8) : 256 ^ m ≤ 18446744073709551616 := by
  have := Nat.pow_le_pow_right (n := 256) (by omega) h
  simpa using this
theorem numL_64 {g : Nat → Nat} (ok : OkL g) (a : Nat) {m : Nat} (h : m ≤ 8) : numL g a m < 18446744073709551616 := Nat.lt_of_lt_of_le (numL_lt ok m a) (pow256_le h)
theorem numL_up (g : Nat → Nat) : ∀ (m a : Nat), numL g a (m + 1) = numL g a m + 256 ^ m * g (a + m)
  | 0, a => by simp [numL]
  | m + 1, a => by
      have h := numL_up g m (a + 1)
      show g a + 256 * numL g (a + 1) (m + 1) = (g a + 256 * numL g (a + 1) m) + 256 ^ (m + 1) * g (a + (m + 1))
      rw [h, Nat.pow_succ, show a + (m + 1) = a + 1 + m by omega, Nat.mul_add, ← Nat.add_assoc, ← Nat.mul_assoc, Nat.mul_comm 256 (256 ^ m)]
/-- The line with a number changed. -/
def putL (g : Nat → Nat) (a n v : Nat) : Nat → Nat := fun j => if a ≤ j ∧ j < a + n then v / 256 ^ (j - a) % 256 else g j
theorem putL_zero (g : Nat → Nat) (a v : Nat) : putL g a 0 v = g := by
  funext j; unfold putL; rw [if_neg (by omega)]
theorem putL_step (g : Nat → Nat) (a k v : Nat) : updL (putL g a k v) (a + k) (v / 256 ^ k % 256) = putL g a (k + 1) v := by
  funext j
  unfold updL putL
  by_cases h : j = a + k
  · subst h
    rw [if_pos rfl, if_pos (by omega), show a + k - a = k by omega]
  · rw [if_neg h]
    by_cases h2 : a ≤ j ∧ j < a + k
    · rw [if_pos h2, if_pos (by omega)]
    · rw [if_neg h2, if_neg (by omega)]
theorem OkL.put {g : Nat → Nat} (ok : OkL g) (a n v : Nat) : OkL (putL g a n v) := by
  intro j; unfold putL; split
  · exact Nat.mod_lt _ (by omega)
  · exact ok j
def fitB (a n : Int) : Bool := decide (1 ≤ n) && decide (n ≤ 8) && decide (0 ≤ a) && decide (a + n ≤ 64)
def getV (g : Nat → Nat) (a n : Int) : Nat := if fitB a n then numL g a.toNat n.toNat else 0
def putV (g : Nat → Nat) (a n : Int) (v : Nat) : Nat → Nat := if fitB a n then putL g a.toNat n.toNat v else g
theorem fitB_t {a n : Int} (h : fitB a n = true) : 1 ≤ n ∧ n ≤ 8 ∧ 0 ≤ a ∧ a + n ≤ 64 := by
  unfold fitB at h
  simp only [Bool.and_eq_true, decide_eq_true_eq] at h
  omega
theorem fitB_f {a n : Int} (h : ¬ (1 ≤ n ∧ n ≤ 8 ∧ 0 ≤ a ∧ a + n ≤ 64)) : fitB a n = false := by
  cases hq : fitB a n with
  | false => rfl
  | true => exact absurd (fitB_t hq) h
/-- The bytes of a slice, as a line. -/
def ofL (b : Nat → Nat) (len : Nat) : Nat → Nat := fun i => if i < len ∧ i < 64 then b i else 0
theorem ofL_zero (b : Nat → Nat) : ofL b 0 = fun _ => 0 := by funext i; unfold ofL; rw [if_neg (by omega)]
def blendL (g h : Nat → Nat) (x k : Nat) : Nat → Nat := fun i => if i < k ∧ x.testBit i = true then h i else g i

/- The keys of a line: equality. -/
theorem flat_one {α β : Type} (f : α → β) : ∀ l : List α, (l.map fun a => [f a]).flatten = l.map f
  | [] => rfl
  | a :: l => by simp [flat_one f l]
theorem mapMK {α β : Type} (f : α → Option β) (g : α → β) : ∀ l : List α, (∀ a ∈ l, f a = some (g a)) → l.mapM f = some (l.map g)
  | [], _ => rfl
  | a :: l, h => by
      rw [List.mapM_cons, h a (by simp), mapMK f g l (fun b hb => h b (by simp [hb]))]
      rfl
theorem wf8 (x : Nat) (h : x < 256) : (Lit.int .u8 (x : Int)).wf = true := by
  simp only [Lit.wf, Bool.and_eq_true, decide_eq_true_eq]
  constructor
  · show (0 : Int) ≤ _; omega
  · show (x : Int) ≤ 255; omega
theorem cellsL_at (g : Nat → Nat) {i : Nat} (hi : i < 64) : ((cellsL g).toList.drop (i * 1)).take 1 = [.int .u8 (g i : Int)] := by
  have h := cellsL_get g hi
  have hl : i < (cellsL g).toList.length := by rw [Array.length_toList, size_cellsL']; exact hi
  rw [Nat.mul_one, List.drop_eq_getElem_cons hl]
  have h2 : (cellsL g).toList[i] = .int .u8 (g i : Int) := by
    rw [Array.getElem?_eq_getElem (by rw [size_cellsL']; exact hi)] at h
    simpa using h
  simp [h2]
theorem keys_L {P : Program} {t e : TypeId} (ht : P.underlying t = some (.array 64 e)) (he : P.underlying e = some (.int .u8)) (ce : P.cellsOf e = 1) (ct : P.cellsOf t = 64) (g : Nat → Nat) (ok : OkL g) (D : Nat) :
    P.keyLits (D + 2) t (cellsL g).toList = some ((List.range 64).map fun i => Lit.int .u8 (g i : Int)) := by
  unfold Program.keyLits
  simp only [ht]
  rw [if_pos (by rw [ct, Array.length_toList, size_cellsL']), ce]
  rw [mapMK _ (fun i => [Lit.int .u8 (g i : Int)])]
  · simp only [Option.map_some, flat_one]
  · intro i hi
    rw [cellsL_at g (List.mem_range.1 hi)]
    simp [Program.keyLits, he, wf8 _ (ok i)]
theorem eqL_gen {P : Program} {t e : TypeId} (ht : P.underlying t = some (.array 64 e)) (he : P.underlying e = some (.int .u8)) (ce : P.cellsOf e = 1) (ct : P.cellsOf t = 64) (kt : P.keyTypeAt 3 t = true)
    (g h : Nat → Nat) (okg : OkL g) (okh : OkL h) (w : World) : ∃ r, (Op.equalIn 10000 t (.agg (cellsL g)) (.agg (cellsL h))).run P w = .ok r w ∧ (r = true ↔ ∀ i, i < 64 → g i = h i) := by
  have fm : ∀ g, (Value.agg (cellsL g)).formed P t = true := by
    intro g
    simp [Value.formed, ht, ct, size_cellsL']
  obtain ⟨r, hr, hi⟩ := run_equalIn_deep (P := P) 9997 3 t kt w 3 3 _ _ _ _ (fm g) (fm h) (keys_L ht he ce ct g okg 1) (keys_L ht he ce ct h okh 1)
  refine ⟨r, hr, hi.trans ?_⟩
  rw [List.map_inj_left]
  constructor
  · intro H i hi
    have h1 := H i (List.mem_range.2 hi)
    have h2 : (g i : Int) = (h i : Int) := by simpa using h1
    omega
  · intro H i hi
    rw [H i (List.mem_range.1 hi)]
theorem eqL_same {P : Program} {t e : TypeId} (ht : P.underlying t = some (.array 64 e)) (he : P.underlying e = some (.int .u8)) (ce : P.cellsOf e = 1) (ct : P.cellsOf t = 64) (kt : P.keyTypeAt 3 t = true)
    (g : Nat → Nat) (okg : OkL g) (w : World) : (Op.equalIn 10000 t (.agg (cellsL g)) (.agg (cellsL g))).run P w = .ok true w := by
  obtain ⟨r, hr, hi⟩ := eqL_gen ht he ce ct kt g g okg okg w
  rw [hi.2 (fun _ _ => rfl)] at hr
  exact hr
/- Rows. -/
theorem ld_rowL {P : Program} {w : World} {b : Nat} {g : Nat → Nat} {t : TypeId} (h : w.heap[b]? = some (.cells (cellsL g) t)) : (loadCellsFrom ⟨b, 0, none⟩ 0 sz64 #[]).run P w = .ok (cellsL g) w := by
  have := run_loadCells_list (P := P) w ⟨b, 0, none⟩ (cellsL g).toList (fun j v hv => by
    have hadd : (⟨b, 0, none⟩ : Addr).add j = ⟨b, j, none⟩ := by unfold Addr.add; split <;> simp_all
    rw [hadd, cell_at h]
    simpa using hv)
  rw [Array.length_toList, size_cellsL] at this
  exact this
theorem row_at {w : World} {b : Nat} {c : Array Value} {t : TypeId} {f : Nat × Nat} (h : w.heap[b]? = some (.cells c t f)) (c' : Array Value) : (w.setRow b c').heap[b]? = some (.cells c' t f) := by
  simp [World.setRow, Array.getElem?_modify, h]
theorem keep_row {w : World} {b b' : Nat} {o : Obj} (h : w.heap[b']? = some o) (hne : b ≠ b') (c' : Array Value) : (w.setRow b c').heap[b']? = some o := by
  simp [World.setRow, Array.getElem?_modify, h, hne]
theorem Fr.row {B : Nat} {w0 w : World} (h : Fr B w0 w) {b : Nat} (hb : B ≤ b) (c' : Array Value) : Fr B w0 (w.setRow b c') :=
  ⟨⟨h.1.os, h.1.tape, h.1.output, by simpa [World.setRow] using h.1.size, fun j hj => by
      have e := h.1.block j hj
      rw [← e]
      simp [World.setRow, Array.getElem?_modify, show ¬ b = j by omega]⟩, by simpa [World.setRow] using h.2⟩
theorem st_rowL {w : World} {b : Nat} {g : Nat → Nat} {t : TypeId} (P : Program) (h : w.heap[b]? = some (.cells (cellsL g) t)) (g' : Nat → Nat) : (storeCells ⟨b, 0, none⟩ (cellsL g').toList).run P w = .ok () (w.setRow b (cellsL g')) := by
  have := run_storeCells_from (P := P) b t (cellsL g').toList 0 (cellsL g) w h (by simp [size_cellsL']) (fun v hv => (Array.all_eq_true_iff_forall_mem.1 (one_cellsL g')) v (by simpa using hv))
  simpa [size_cellsL'] using this
theorem knownL {w : World} {b : Nat} {g : Nat → Nat} {t : TypeId} (h : w.heap[b]? = some (.cells (cellsL g) t)) {i : Nat} (hi : i < 64) : w.cell? ⟨b, i, none⟩ = some (.int .u8 (g i : Int)) := by
  rw [cell_at h]; exact cellsL_get g hi
theorem setL {w : World} {b : Nat} {g : Nat → Nat} {t : TypeId} (h : w.heap[b]? = some (.cells (cellsL g) t)) {i : Nat} (hi : i < 64) (v : Nat) : (w.setCell ⟨b, i, none⟩ (.int .u8 (v : Int))).heap[b]? = some (.cells (cellsL (updL g i v)) t) := by
  have := set_at h i (.int .u8 (v : Int))
  rwa [cellsL_set _ hi] at this
end Go.Proofs.Ytdeheoaeagoidaa
