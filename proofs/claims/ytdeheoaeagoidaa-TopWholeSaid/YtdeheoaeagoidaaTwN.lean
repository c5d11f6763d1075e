/- shard's New. -/
import Derived.Test.YtdeheoaeagoidaaTwM
namespace Go.Proofs.Ytdeheoaeagoidaa
open Go.RowKit
set_option linter.unusedSimpArgs false
set_option linter.unusedVariables false

set_option maxRecDepth 100000 in
set_option maxHeartbeats 8000000 in
theorem shnew_any (n : Nat) (w : World) (h0 : 1 ≤ n) (h1 : n ≤ 2) :
    Calls Try.prog 4 #[.agg #[.int .i64 (n : Int), .int .i64 (n : Int), .int .i64 (n : Int), .int .i64 1]] w fun e w' => ∃ s r m, e = .returned (.tuple #[.pointer (some ⟨s, 0, none⟩), .int .i64 0]) ∧ w'.heap[s]? = some (.cells (shC r n n n 1) 68) ∧ RamAt w' r m 0 n (fun _ _ => 0) ∧ Below w.heap.size w w' ∧ w.heap.size ≤ s ∧ w.heap.size ≤ r ∧ w.heap.size ≤ m := by
  have kz := heap_alloc_new w (.cells #[.int .i64 (n : Int), .int .i64 (n : Int), .int .i64 (n : Int), .int .i64 1] 25)
  have F0 := (Fr.refl w).alloc (.cells #[.int .i64 (n : Int), .int .i64 (n : Int), .int .i64 (n : Int), .int .i64 1] 25)
  have HA := Lib.hid (And.intro h0 h1)
  clear h0 h1
  go_enter Try.func4, Try.ntmps4
  go_wp2_with fail
  refine (right_any n _ (by have := HA.out; omega) (by have := HA.out; omega)).mono ?_
  rintro e w1 ⟨rfl, hb1⟩
  have k1 := keepB hb1 kz
  have F1 := F0.step hb1
  have c2 : w1.cell? ⟨w.heap.size, 2, none⟩ = some (.int .i64 (n : Int)) := by rw [cell_at k1]; rfl
  clear kz F0 hb1
  go_wp2_with fail
  refine (ramnew_yes n _ HA.out.1 (by have := HA.out; omega)).mono ?_
  rintro e w2 ⟨rfl, hR, hb2⟩
  have k2 := keepB hb2 k1
  have F2 := F1.step hb2
  have l1 := F1.2
  have d0 : w2.cell? ⟨w.heap.size, 0, none⟩ = some (.int .i64 (n : Int)) := by rw [cell_at k2]; rfl
  have d1 : w2.cell? ⟨w.heap.size, 1, none⟩ = some (.int .i64 (n : Int)) := by rw [cell_at k2]; rfl
  have d2 : w2.cell? ⟨w.heap.size, 2, none⟩ = some (.int .i64 (n : Int)) := by rw [cell_at k2]; rfl
  have d3 : w2.cell? ⟨w.heap.size, 3, none⟩ = some (.int .i64 1) := by rw [cell_at k2]; rfl
  clear k1 k2 F1 hb2
  have HR := Lib.hid hR
  have FE := Lib.hid (F2.alloc (.cells (shC (w1.heap.size + 1) n n n 1) 68))
  have HL := Lib.hid F2.2
  have L1 := Lib.hid l1
  clear hR F2 l1
  go_wp2
  go_ret2
  refine ⟨w2.heap.size, w1.heap.size + 1, w1.heap.size, rfl, heap_alloc_new _ _, HR.out.keep ((Fr.refl _).alloc _).1, FE.out.1, HL.out, ?_, L1.out⟩
  exact Nat.le_succ_of_le L1.out
end Go.Proofs.Ytdeheoaeagoidaa
