/- Lines: the types' facts; line.Of and the document's. -/
import Derived.Test.YtbboaekfhdeolaaLnA
import Derived.Laws.CopyRow
import Derived.Deep.DeepCutAuto
import Derived.Laws.IdiomCopy
namespace Go.Proofs.Ytbboaekfhdeolaa
open Go.RowKit
set_option linter.unusedSimpArgs false
set_option linter.unusedVariables false

theorem infoLL : (Try.prog.info? 26).map (·.size) = some 64 := by kernel_rfl
theorem infoLR : (Try.prog.info? 25).map (·.size) = some 64 := by kernel_rfl
theorem zeroLL (w : World) : (zeroValue 26).run Try.prog w = .ok (.agg (cellsL fun _ => 0)) w := by rw [Try.zeroValue26]; rfl
theorem zeroLR (w : World) : (zeroValue 25).run Try.prog w = .ok (.agg (cellsL fun _ => 0)) w := by rw [Try.zeroValue25]; rfl
theorem sizeLL (w : World) : (sizeOf 26).run Try.prog w = .ok sz64 w := by rw [Try.sizeOf26]; rfl
theorem sizeLR (w : World) : (sizeOf 25).run Try.prog w = .ok sz64 w := by rw [Try.sizeOf25]; rfl
theorem lvLL {w : World} {b : Nat} {g : Nat → Nat} {t : TypeId} (h : w.heap[b]? = some (.cells (cellsL g) t)) : (loadVar 26 ⟨b, 0, none⟩).run Try.prog w = .ok (.agg (cellsL g)) w := run_loadVar_row w b _ _ _ _ _ h Try.underlying26 rfl (by rw [size_cellsL']; exact infoLL)
theorem lvLR {w : World} {b : Nat} {g : Nat → Nat} {t : TypeId} (h : w.heap[b]? = some (.cells (cellsL g) t)) : (loadVar 25 ⟨b, 0, none⟩).run Try.prog w = .ok (.agg (cellsL g)) w := run_loadVar_row w b _ _ _ _ _ h Try.underlying25 rfl (by rw [size_cellsL']; exact infoLR)
theorem stnLL (w : World) (g g' : Nat → Nat) : (storeCells ⟨w.heap.size, 0, none⟩ (cellsL g').toList).run Try.prog (w.alloc (.cells (cellsL g) 26)) = .ok () (w.alloc (.cells (cellsL g') 26)) :=
  run_storeCells_new w _ _ _ infoLL (by simp [size_cellsL']) (one_cellsL g')
theorem stnLR (w : World) (g g' : Nat → Nat) : (storeCells ⟨w.heap.size, 0, none⟩ (cellsL g').toList).run Try.prog (w.alloc (.cells (cellsL g) 25)) = .ok () (w.alloc (.cells (cellsL g') 25)) :=
  run_storeCells_new w _ _ _ infoLR (by simp [size_cellsL']) (one_cellsL g')
theorem coU8 : Try.prog.cellsOf 5 = 1 := by kernel_rfl
theorem coLL : Try.prog.cellsOf 26 = 64 := by kernel_rfl
theorem coLR : Try.prog.cellsOf 25 = 64 := by kernel_rfl
theorem ktLL : Try.prog.keyTypeAt 3 26 = true := by kernel_rfl
theorem eqLL (g h : Nat → Nat) (okg : OkL g) (okh : OkL h) (w : World) : ∃ r, (Op.equalIn 10000 26 (.agg (cellsL g)) (.agg (cellsL h))).run Try.prog w = .ok r w ∧ (r = true ↔ ∀ i, i < 64 → g i = h i) :=
  eqL_gen Try.underlying26 Try.underlying5 coU8 coLL ktLL g h okg okh w
theorem eqLs (g : Nat → Nat) (okg : OkL g) (w : World) : (Op.equalIn 10000 26 (.agg (cellsL g)) (.agg (cellsL g))).run Try.prog w = .ok true w :=
  eqL_same Try.underlying26 Try.underlying5 coU8 coLL ktLL g okg w
theorem one8 : one1 Try.prog 5 = true := by kernel_rfl
theorem ixLR (g : Nat → Nat) (i : Nat) (hi : i < 64) (w : World) : (Instr.index 25 (.agg (cellsL g)) (.int .i64 (i : Int))).run Try.prog w = .ok (.int .u8 (g i : Int)) w := by
  rw [run_index_arr Try.underlying25 one8 (size_cellsL' g) .i64 (i : Int) (by omega) (by omega) w]
  rw [Int.toNat_natCast, cellsL_getD g hi]

/-- The bytes of a slice in memory. -/
def Bytes (w : World) (a : Option Addr) (len : Nat) (b : Nat → Nat) : Prop := ∀ i, i < len → ∃ ad, a = some ad ∧ ad.block < w.heap.size ∧ w.cell? (ad.add i) = some (.int .u8 (b i : Int))
theorem Bytes.keep {w w' : World} {a : Option Addr} {len : Nat} {b : Nat → Nat} (h : Bytes w a len b) (hb : Below w.heap.size w w') : Bytes w' a len b := by
  intro i hi
  obtain ⟨ad, e, hl, hc⟩ := h i hi
  exact ⟨ad, e, Nat.lt_of_lt_of_le hl hb.size, hcell hb hc⟩
def byteCells (b : Nat → Nat) (n : Nat) : List Value := (List.range n).map fun i => Value.int .u8 (b i : Int)
theorem byteCells_len (b : Nat → Nat) (n : Nat) : (byteCells b n).length = n := by simp [byteCells]
theorem copyL_cells (b : Nat → Nat) (len n : Nat) (hn : n = Nat.min len 64) : ((cellsL fun _ => 0).toList.take 0 ++ byteCells b n ++ (cellsL fun _ => 0).toList.drop (0 + n)).toArray = cellsL (ofL b len) := by
  have hn64 : n ≤ 64 := by rw [hn]; exact Nat.min_le_right _ _
  have hnl : n ≤ len := by rw [hn]; exact Nat.min_le_left _ _
  apply Array.ext_getElem?
  intro j
  simp only [List.take_zero, List.nil_append, Nat.zero_add, List.getElem?_toArray]
  by_cases hj : j < 64
  · rw [cellsL_get _ hj]
    by_cases h2 : j < n
    · rw [List.getElem?_append_left (by rw [byteCells_len]; exact h2)]
      unfold ofL byteCells
      rw [if_pos (by omega)]
      simp [h2]
    · rw [List.getElem?_append_right (by rw [byteCells_len]; omega), byteCells_len, List.getElem?_drop]
      have h3 : ¬ j < len := by
        intro h
        apply h2
        rw [hn]
        exact Nat.lt_min.2 ⟨h, hj⟩
      unfold ofL
      rw [if_neg (by omega), show n + (j - n) = j by omega]
      have := cellsL_get (fun _ => 0) hj
      simpa using this
  · have n2 : (cellsL (ofL b len))[j]? = none := by rw [Array.getElem?_eq_none]; rw [size_cellsL']; omega
    rw [n2, List.getElem?_eq_none]
    rw [List.length_append, byteCells_len, List.length_drop, Array.length_toList, size_cellsL']
    omega
attribute [local simp high] sizeLL zeroLL sizeLR zeroLR
theorem sz8 : (Try.prog.info? 5).map (·.size) = some 1 := by kernel_rfl
set_option maxRecDepth 100000 in
set_option maxHeartbeats 2000000 in
theorem lof_any (a : Option Addr) (len cap : Nat) (b : Nat → Nat) (w : World) (hb : Bytes w a len b) :
    Calls Try.prog 9 #[.slice a len cap] w fun e w' => e = .returned (.agg (cellsL (ofL b len))) ∧ Below w.heap.size w w' := by
  have l3 := size_cellsL
  by_cases h0 : len = 0
  · subst h0
    have hcp : ∀ W d, (Builtin.copy_ #[22, 22] 3 #[.slice d 64 64, .slice a 0 cap]).run Try.prog W = .ok (goInt 0) W := fun W d => run_copy_none W _ _ _ 5 d a 64 64 0 cap Try.underlying22 sz8 rfl
    have k1 := heap_alloc_new (w.alloc (.cells (cellsL fun _ => 0) 26)) (.cells (cellsL fun _ => 0) 26)
    have k0 := keep_alloc (heap_alloc_new w (.cells (cellsL fun _ => 0) 26)) (.cells (cellsL fun _ => 0) 26)
    have hs1 : (w.alloc (.cells (cellsL fun _ => 0) 26)).heap.size = w.heap.size + 1 := by simp
    rw [hs1] at k1
    have ld := ld_rowL (P := Try.prog) k1
    have st := st_rowL Try.prog k0 (fun _ => 0)
    clear hs1
    go_enter Try.func9, Try.ntmps9
    go_wp2
    refine bodyPost_ret (v := .agg (cellsL fun _ => 0)) (by simp [results, Try.results9, asAddr, lvLL (row_at k0 (cellsL fun _ => 0))]) rfl ⟨by rw [ofL_zero], ((((Fr.refl w).alloc _).alloc _).row (Nat.le_refl _) _).1⟩
  · obtain ⟨ad, ea, -, -⟩ := hb 0 (by omega)
    subst ea
    have hsrc : ∀ (o : Obj) (o' : Obj) (n : Nat), n ≤ len → ∀ j v, (byteCells b n)[j]? = some v → ((w.alloc o).alloc o').cell? (ad.add j) = some v := by
      intro o o' n hn j v hj
      have hjn : j < n := by
        rcases Nat.lt_or_ge j n with h | h
        · exact h
        · rw [List.getElem?_eq_none (by rw [byteCells_len]; exact h)] at hj; cases hj
      obtain ⟨ad', e, hl, hc⟩ := hb j (by omega)
      cases e
      have e1 := hcell ((((Fr.refl w).alloc o).alloc o').1) hc
      rw [e1]
      unfold byteCells at hj
      simpa [hjn] using hj
    have k1 := heap_alloc_new (w.alloc (.cells (cellsL fun _ => 0) 26)) (.cells (cellsL fun _ => 0) 26)
    have k0 := keep_alloc (heap_alloc_new w (.cells (cellsL fun _ => 0) 26)) (.cells (cellsL fun _ => 0) 26)
    have hs1 : (w.alloc (.cells (cellsL fun _ => 0) 26)).heap.size = w.heap.size + 1 := by simp
    rw [hs1] at k1
    have hn64 : Nat.min len 64 ≤ 64 := Nat.min_le_right _ _
    have hnl : Nat.min len 64 ≤ len := Nat.min_le_left _ _
    have hcp := run_copy_row (P := Try.prog) ((w.alloc (.cells (cellsL fun _ => 0) 26)).alloc (.cells (cellsL fun _ => 0) 26)) 22 22 3 5 (w.heap.size + 1) 0 64 64 ad len cap (cellsL fun _ => 0) 26 (byteCells b (Nat.min len 64)) Try.underlying22 sz8 k1
      (byteCells_len _ _) (hsrc _ _ _ hnl) (by rw [byteCells_len, size_cellsL']; omega) (fun v hv => by unfold byteCells at hv; simp only [List.mem_map] at hv; obtain ⟨i, -, rfl⟩ := hv; rfl)
    rw [byteCells_len, copyL_cells b len _ rfl] at hcp
    have k1' := row_at k1 (cellsL (ofL b len))
    have k0' := keep_row k0 (show w.heap.size + 1 ≠ w.heap.size by omega) (cellsL (ofL b len))
    have ld := ld_rowL (P := Try.prog) k1'
    have st := st_rowL Try.prog k0' (ofL b len)
    clear hs1 hn64 hnl hsrc
    go_enter Try.func9, Try.ntmps9
    go_wp2
    refine bodyPost_ret (v := .agg (cellsL (ofL b len))) (by simp [results, Try.results9, asAddr, lvLL (row_at k0' (cellsL (ofL b len)))]) rfl ⟨rfl, (((((Fr.refl w).alloc _).alloc _).row (Nat.le_succ _) _).row (Nat.le_refl _) _).1⟩
end Go.Proofs.Ytbboaekfhdeolaa
