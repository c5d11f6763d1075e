/- csrfile's own. -/
import Derived.Test.YthkkfdhgpaonjaaCfA
import Derived.Laws.Tables
import Derived.Test.YthkkfdhgpaonjaaArr
import Derived.Test.YthkkfdhgpaonjaaFirst
namespace Go.Proofs.Ythkkfdhgpaonjaa
open Go.RowKit
set_option linter.unusedSimpArgs false
set_option linter.unusedVariables false

def zero22 : Array Value := Array.replicate 22 (.int .i64 0)
def sz22 : Nat := 22
theorem info22 : (Try.prog.info? 159).map (·.size) = some 22 := by kernel_rfl
theorem zero22v (w : World) : (zeroValue 159).run Try.prog w = .ok (.agg zero22) w := by kernel_rfl
theorem size22v (w : World) : (sizeOf 159).run Try.prog w = .ok sz22 w := by kernel_rfl
theorem size_zero22 : zero22.size = sz22 := rfl
theorem size_own : ownCells.size = sz22 := rfl
theorem one_own : ownCells.all (·.oneCell') = true := by decide +kernel
theorem wpList_build_as {P : Program} {ops : Array Oper} {rest : List Oper} {o : Oper} {a : Act} {w : World} {Q : Exit → Act → World → Prop} (hg : o.guard = none) (t : TypeId) (parts : Array (Nat × Operand)) (ho : o.op = .build t parts)
    (cs : Array Value) (hf : P.built t (parts.map fun (i, x) => (i, a.eval x)).toList = some cs) (h : wpList P ops Q rest (a.put o.dst (.agg cs)) w) : wpList P ops Q (o :: rest) a w :=
  wpList_build hg t parts ho (by rw [hf]; rfl) (by rw [hf]; exact h)
theorem stn22 (w : World) : (storeCells ⟨w.heap.size, 0, none⟩ ownCells.toList).run Try.prog (w.alloc (.cells zero22 159)) = .ok () (w.alloc (.cells ownCells 159)) :=
  run_storeCells_new w _ _ _ info22 rfl one_own
theorem lv22 {w : World} {b : Nat} {t : TypeId} (h : w.heap[b]? = some (.cells ownCells t)) : (loadVar 159 ⟨b, 0, none⟩).run Try.prog w = .ok (.agg ownCells) w := run_loadVar_row w b _ _ _ _ _ h Try.underlying159 rfl info22

attribute [local simp high] size22v zero22v
set_option maxRecDepth 100000 in
set_option maxHeartbeats 400000 in
theorem own_any (w : World) :
    Calls Try.prog 108 #[] w fun e w' => e = .returned (.agg ownCells) ∧ Below w.heap.size w w' := by
  have l1 := zero22v
  have l2 := size22v
  have l3 := size_own
  have l4 := stn22
  have l6 := size_zero22
  go_enter Try.func108, Try.ntmps108
  go_wp2_with ((with_reducible refine wpList_build_as (by rfl) 159 _ (by rfl) ownCells ?hf ?_); rotate_right)
  case hf => kernel_rfl
  refine bodyPost_ret (v := .agg ownCells) (by simp [results, Try.results108, asAddr, lv22 (heap_alloc_new w (.cells ownCells 159))]) rfl ⟨rfl, ((Fr.refl w).alloc _).1⟩

theorem frR {B : Nat} {w0 w w' : World} (hb : Below w.heap.size w w') (h : Fr B w0 w) : Fr B w0 w' := h.step hb
set_option maxRecDepth 100000 in
set_option maxHeartbeats 2000000 in
theorem word_any (b : Nat) (s : FS) (n : Int) (w : World) (h : w.heap[b]? = some (.cells (cellsF s) 31)) :
    Calls Try.prog 69 #[.pointer (some ⟨b, 0, none⟩), .int .i64 n] w fun e w' => e = .returned (ptrOf b n) ∧ Below w.heap.size w w' := by
  have ix := fun (cs : Array Value) (hc : cs.size = 22) k i h0 hn w => run_index_arr (P := Try.prog) Try.underlying159 one_int hc k i h0 hn w
  have sz := ownCells_size
  go_enter Try.func69, Try.ntmps69
  go_wp2_with fail
  refine (own_any _).mono ?_
  rintro e w1 ⟨rfl, hb1⟩
  go_wp2
  go_loop [8] (fun i => ∃ k : Nat, k ≤ 22 ∧ i = .int .i64 k ∧ Hid (∀ j, j < k → own22.getD j 0 ≠ n)) (fun i => 22 - (intOf i).toNat)
  case atStart => exact ⟨0, by omega, rfl, fun j hj => by omega⟩
  case round =>
    obtain ⟨k, hk, rfl, H⟩ := hrel
    by_cases hlt : k < 22
    · have hg := ownCells_get k hlt
      obtain ⟨m, hm⟩ : ∃ m, own22.getD k 0 = m := ⟨_, rfl⟩
      rw [hm] at hg
      have HM := Lib.hid hm
      clear hm
      by_cases hmn : m = n
      · subst hmn
        have HX : Hid (ptrOf b m = .pointer (some ⟨b, 1 + k, none⟩)) := by show _ = _; unfold ptrOf; rw [ownIx_hit m k hlt H.out HM.out]
        clear H
        go_wp2
        go_ret
        exact ⟨by rw [HX.out]; rfl, hb1⟩
      · have e0 : (m == n) = false := by simpa using hmn
        have H2 : Hid (∀ j, j < k + 1 → own22.getD j 0 ≠ n) := fun j hj => by
          by_cases hjk : j < k
          · exact H.out j hjk
          · obtain rfl : j = k := by omega
            rw [HM.out]; exact hmn
        clear H hmn
        go_wp2
        go_round
        case rel => exact ⟨k + 1, by omega, by go_num, H2⟩
        case measure => simp [intOf]; omega
    · obtain rfl : k = 22 := by omega
      have HX : Hid (ptrOf b n = .pointer none) := by show _ = _; unfold ptrOf; rw [ownIx_miss n H.out]
      clear H
      go_wp2
      go_ret
      exact ⟨by rw [HX.out]; rfl, hb1⟩

theorem word_some {b : Nat} {s : FS} {n : Int} {k : Nat} (hn : ownIx n = some k) (w : World) (h : w.heap[b]? = some (.cells (cellsF s) 31)) :
    Calls Try.prog 69 #[.pointer (some ⟨b, 0, none⟩), .int .i64 n] w fun e w' => e = .returned (.pointer (some ⟨b, 1 + k, none⟩)) ∧ Below w.heap.size w w' := by
  have := word_any b s n w h
  unfold ptrOf at this
  rw [hn] at this
  exact this
theorem word_none {b : Nat} {s : FS} {n : Int} (hn : ownIx n = none) (w : World) (h : w.heap[b]? = some (.cells (cellsF s) 31)) :
    Calls Try.prog 69 #[.pointer (some ⟨b, 0, none⟩), .int .i64 n] w fun e w' => e = .returned (.pointer none) ∧ Below w.heap.size w w' := by
  have := word_any b s n w h
  unfold ptrOf at this
  rw [hn] at this
  exact this

attribute [local simp high] sizeFv zeroFv
set_option maxRecDepth 100000 in
set_option maxHeartbeats 2000000 in
theorem newF_any (n : Int) (w : World) :
    Calls Try.prog 40 #[.int .i64 n] w fun e w' => e = .returned (.agg (cellsF (newF n))) ∧ Below w.heap.size w w' := by
  have l1 := zeroFv
  have l2 := sizeFv
  have l3 := size_cellsF
  have l4 := stnF_1
  have l6 := cellsF_hart
  go_enter Try.func40, Try.ntmps40
  go_wp2_with fail
  have h1 : ((w.alloc (.cells (cellsF zeroF) 31)).alloc (.cells (cellsF (hartF n)) 31)).heap[w.heap.size + 1]? = some (.cells (cellsF (hartF n)) 31) := by simpa using heap_alloc_new (w.alloc (.cells (cellsF zeroF) 31)) (.cells (cellsF (hartF n)) 31)
  have h0 : ((w.alloc (.cells (cellsF zeroF) 31)).alloc (.cells (cellsF (hartF n)) 31)).heap[w.heap.size]? = some (.cells (cellsF zeroF) 31) := keep_alloc (heap_alloc_new _ _) _
  have hC := ((Fr.refl w).alloc (.cells (cellsF zeroF) 31)).alloc (.cells (cellsF (hartF n)) 31)
  refine (word_some (n := 768) (k := 7) (by decide) _ h1).mono ?_
  rintro e w1 ⟨rfl, hb1⟩
  have hC := hC.step hb1
  have k0 := keepB hb1 h0
  have k1 := keepB hb1 h1
  have hlt := lt_of_at k1
  clear h0 h1 hb1 l4 l6
  have c1 := knownFg k1 (i := 7) (by omega)
  obtain ⟨-, -, -, -, f1⟩ := knownF k1
  have e1 : (w1.setCell ⟨w.heap.size + 1, 8, none⟩ (.int .u64 42949672960)).heap[w.heap.size + 1]? = some (.cells (cellsF (setG (hartF n) 7 42949672960)) 31) := by
    have := set_at k1 (1 + 7) (.int .u64 ((42949672960 : Nat) : Int))
    rw [cellsF_setG _ (by omega)] at this
    exact this
  have e0 := keep_setCell k0 (p := ⟨w.heap.size + 1, 8, none⟩) (by simp) (.int .u64 42949672960)
  have ef := hC.setCell (p := ⟨w.heap.size + 1, 8, none⟩) (by simp) (.int .u64 42949672960)
  have E0 := Lib.hid e0
  have EF := Lib.hid ef
  have ls := ldF (P := Try.prog) e1
  have ss := stF Try.prog e0 (setG (hartF n) 7 42949672960)
  have e2 := row_at e0 (cellsF (setG (hartF n) 7 42949672960))
  have E2 := Lib.hid (lvF e2)
  clear e0 e1 ef e2
  go_wp2
  refine bodyPost_ret (v := .agg (cellsF (setG (hartF n) 7 42949672960))) (by simp [results, Try.results40, asAddr, E2.out]) rfl ⟨rfl, (EF.out.row (Nat.le_refl _) _).1⟩

theorem get1_any (b : Nat) (s : FS) (n : Int) (k bf : Nat) (w : World) (hn : ownIx n = some k) (h : w.heap[b]? = some (.cells (cellsF s) 31)) (hf : w.cell? ⟨bf, 0, none⟩ = some (.pointer (some ⟨b, 0, none⟩))) :
    Calls Try.prog 68 #[.int .i64 n, .pointer (some ⟨bf, 0, none⟩)] w fun e w' => e = .returned (.int .u64 (s.g k : Int)) ∧ Below w.heap.size w w' := by
  have hk := (ownIx_lt hn).1
  have HN := Lib.hid hn
  clear hn
  go_enter Try.func68, Try.ntmps68
  go_wp2_with fail
  refine (word_some HN.out _ h).mono ?_
  rintro e w1 ⟨rfl, hb1⟩
  have k1 := keepB hb1 h
  have hg := knownFg k1 hk
  go_wp2
  go_ret
  exact ⟨rfl, hb1⟩
end Go.Proofs.Ythkkfdhgpaonjaa
