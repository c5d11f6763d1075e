/- CauseTakes: the exceptions of any accesses and calls, and who takes any cause, is as the document says. -/
import Derived.Test.YtaogccjihbbdcaaTabH
namespace Go.Proofs.Ytaogccjihbbdcaa
open Go.RowKit
set_option linter.unusedSimpArgs false
set_option linter.unusedVariables false

theorem cto_machine (i : Bool) (c : Int) (d e : Nat) (w : World) (hd : d < 18446744073709551616) (he : e < 18446744073709551616) :
    Calls Try.prog 18 #[.agg #[.bool i, .int .i64 c], .int .i64 3, .int .u64 d, .int .u64 e] w fun e' w' => e' = .returned (.int .i64 3) ∧ Below w.heap.size w w' :=
  (cto_any i c 3 d e w hd he).mono fun e w' ⟨he, hb⟩ => ⟨by rw [he]; simp [toOf], hb⟩

set_option maxRecDepth 100000 in
set_option maxHeartbeats 4000000 in
theorem causeTakes_walk (i : Bool) (c n0 n1 : Int) (d e : Nat) (w : World) (hd : d < 18446744073709551616) (he : e < 18446744073709551616) :
    Calls Try.prog 4 #[.agg #[.bool i, .int .i64 c], .agg #[.int .i64 n0, .int .i64 n1], .agg #[.int .u64 (d : Int), .int .u64 (e : Int)]] w fun e w' => e = .returned (.bool true) ∧ Below w.heap.size w w' := by
  go_enter Try.func4, Try.ntmps4
  go_wp2_with fail
  have k0 := keep_alloc (keep_alloc (keep_alloc (heap_alloc_new w (.cells #[.bool i, .int .i64 c] 24)) (.cells #[.int .i64 n0, .int .i64 n1] 33)) (.cells #[.int .u64 (d : Int), .int .u64 (e : Int)] 34)) (.cells #[.bool i, .int .i64 c] 27)
  have k1 := keep_alloc (keep_alloc (heap_alloc_new (w.alloc (.cells #[.bool i, .int .i64 c] 24)) (.cells #[.int .i64 n0, .int .i64 n1] 33)) (.cells #[.int .u64 (d : Int), .int .u64 (e : Int)] 34)) (.cells #[.bool i, .int .i64 c] 27)
  have k2 := keep_alloc (heap_alloc_new ((w.alloc (.cells #[.bool i, .int .i64 c] 24)).alloc (.cells #[.int .i64 n0, .int .i64 n1] 33)) (.cells #[.int .u64 (d : Int), .int .u64 (e : Int)] 34)) (.cells #[.bool i, .int .i64 c] 27)
  have k3 := heap_alloc_new (((w.alloc (.cells #[.bool i, .int .i64 c] 24)).alloc (.cells #[.int .i64 n0, .int .i64 n1] 33)).alloc (.cells #[.int .u64 (d : Int), .int .u64 (e : Int)] 34)) (.cells #[.bool i, .int .i64 c] 27)
  simp only [World.size_alloc] at k1 k2 k3
  have hB : Fr w.heap.size w _ := ((((Fr.refl w).alloc (.cells #[.bool i, .int .i64 c] 24)).alloc (.cells #[.int .i64 n0, .int .i64 n1] 33)).alloc (.cells #[.int .u64 (d : Int), .int .u64 (e : Int)] 34)).alloc (.cells #[.bool i, .int .i64 c] 27)
  generalize (((w.alloc (.cells #[.bool i, .int .i64 c] 24)).alloc (.cells #[.int .i64 n0, .int .i64 n1] 33)).alloc (.cells #[.int .u64 (d : Int), .int .u64 (e : Int)] 34)).alloc (.cells #[.bool i, .int .i64 c] 27) = w1 at k0 k1 k2 k3 hB ⊢
  obtain ⟨a0, a1, -, -⟩ := known2' k0
  obtain ⟨b0, b1, -, -⟩ := known2' k1
  obtain ⟨c0, c1, -, -⟩ := known2' k2
  obtain ⟨d0, d1, -, -⟩ := known2' k3
  go_region_held3 (fun w' => Fr w.heap.size w w' ∧ w'.cell? ⟨w.heap.size, 0, none⟩ = some (.bool i) ∧ w'.cell? ⟨w.heap.size, 1, none⟩ = some (.int .i64 c) ∧ w'.cell? ⟨w.heap.size + 1, 0, none⟩ = some (.int .i64 n0) ∧ w'.cell? ⟨w.heap.size + 1, 1, none⟩ = some (.int .i64 n1) ∧ w'.cell? ⟨w.heap.size + 1 + 1, 0, none⟩ = some (.int .u64 (d : Int)) ∧ w'.cell? ⟨w.heap.size + 1 + 1, 1, none⟩ = some (.int .u64 (e : Int)) ∧ w'.cell? ⟨w.heap.size + 1 + 1 + 1, 0, none⟩ = some (.bool i) ∧ w'.cell? ⟨w.heap.size + 1 + 1 + 1, 1, none⟩ = some (.int .i64 c))
    (first | exact held8 ‹_› ‹_› | exact ⟨hB.drew, a0, a1, b0, b1, c0, c1, d0, d1⟩ | go_keep)
    (first
      | (go_at_call 12; refine (cAlign_any _ _).mono ?_; rintro e w' ⟨rfl, hb⟩)
      | (go_at_call 14; refine (cFault_any _ _).mono ?_; rintro e w' ⟨rfl, hb⟩)
      | (go_at_call 15; refine (cPage_any _ _).mono ?_; rintro e w' ⟨rfl, hb⟩)
      | (go_at_call 13; ((with_reducible refine (racc_align _ _).mono ?_); rintro e w' ⟨rfl, hb⟩))
      | (go_at_call 13; ((with_reducible refine (racc_fault _ _).mono ?_); rintro e w' ⟨rfl, hb⟩))
      | (go_at_call 13; ((with_reducible refine (racc_page _ _).mono ?_); rintro e w' ⟨rfl, hb⟩)))
  rename_i w2 hS
  obtain ⟨hB, a0, a1, b0, b1, c0, c1, d0, d1⟩ := hS
  go_wp2_with fail
  go_region_held3 (fun w' => Fr w.heap.size w w' ∧ w'.cell? ⟨w.heap.size, 0, none⟩ = some (.bool i) ∧ w'.cell? ⟨w.heap.size, 1, none⟩ = some (.int .i64 c) ∧ w'.cell? ⟨w.heap.size + 1, 0, none⟩ = some (.int .i64 n0) ∧ w'.cell? ⟨w.heap.size + 1, 1, none⟩ = some (.int .i64 n1) ∧ w'.cell? ⟨w.heap.size + 1 + 1, 0, none⟩ = some (.int .u64 (d : Int)) ∧ w'.cell? ⟨w.heap.size + 1 + 1, 1, none⟩ = some (.int .u64 (e : Int)) ∧ w'.cell? ⟨w.heap.size + 1 + 1 + 1, 0, none⟩ = some (.bool i) ∧ w'.cell? ⟨w.heap.size + 1 + 1 + 1, 1, none⟩ = some (.int .i64 c))
    (first | exact held8 ‹_› ‹_› | exact ⟨hB.drew, a0, a1, b0, b1, c0, c1, d0, d1⟩ | go_keep)
    (first
      | (go_at_call 16; refine (ccall_any _ _).mono ?_; rintro e w' ⟨rfl, hb⟩)
      | (go_at_call 17; refine (rcall_any _ _).mono ?_; rintro e w' ⟨rfl, hb⟩)
      | (go_at_call 18; refine (cto_machine _ _ _ _ _ hd he).mono ?_; rintro e w' ⟨rfl, hb⟩))
  rename_i w3 hS
  obtain ⟨hB, a0, a1, b0, b1, c0, c1, d0, d1⟩ := hS
  go_wp2_with fail
  go_region_held3 (fun w' => Fr w.heap.size w w' ∧ w'.cell? ⟨w.heap.size, 0, none⟩ = some (.bool i) ∧ w'.cell? ⟨w.heap.size, 1, none⟩ = some (.int .i64 c) ∧ w'.cell? ⟨w.heap.size + 1, 0, none⟩ = some (.int .i64 n0) ∧ w'.cell? ⟨w.heap.size + 1, 1, none⟩ = some (.int .i64 n1) ∧ w'.cell? ⟨w.heap.size + 1 + 1, 0, none⟩ = some (.int .u64 (d : Int)) ∧ w'.cell? ⟨w.heap.size + 1 + 1, 1, none⟩ = some (.int .u64 (e : Int)) ∧ w'.cell? ⟨w.heap.size + 1 + 1 + 1, 0, none⟩ = some (.bool i) ∧ w'.cell? ⟨w.heap.size + 1 + 1 + 1, 1, none⟩ = some (.int .i64 c))
    (first | exact held8 ‹_› ‹_› | exact ⟨hB.drew, a0, a1, b0, b1, c0, c1, d0, d1⟩ | go_keep)
    (first
      | (go_at_call 18; refine (cto_any _ _ _ _ _ _ hd he).mono ?_; rintro e w' ⟨rfl, hb⟩)
      | (go_at_call 19; refine (rto_any _ _ _ _ _ _ hd he).mono ?_; rintro e w' ⟨rfl, hb⟩)
      | (go_at_call 11; refine (live21 _).mono ?_; rintro e w' ⟨rfl, hb⟩))
  rename_i w4 hS
  go_wp2
  go_ret
  exact ⟨rfl, hS.1.1⟩
end Go.Proofs.Ytaogccjihbbdcaa
