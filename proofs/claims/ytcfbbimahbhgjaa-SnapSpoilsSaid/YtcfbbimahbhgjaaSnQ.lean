/- Snap: a writer's answer. -/
import Derived.Test.YtcfbbimahbhgjaaSnP
namespace Go.Proofs.Ytcfbbimahbhgjaa
open Go.RowKit
set_option linter.unusedSimpArgs false
set_option linter.unusedVariables false

theorem sizeMail (w : World) : (sizeOf 88).run Try.prog w = .ok sz40 w := by rw [Try.sizeOf88]; rfl
theorem ixMail (s : EV) {k : Nat} (hk : k < 8) (w : World) : (Instr.index 88 (.agg (rowE s 22 sz40)) (.int .i64 (k : Int))).run Try.prog w = .ok (.agg #[.bool (s.b (22 + 5 * k)), .bool (s.b (23 + 5 * k)), .bool (s.b (24 + 5 * k)), .int .u64 (s.u (25 + 5 * k)), .int .i64 (s.i (26 + 5 * k))]) w := by
  have h : k = 0 ∨ k = 1 ∨ k = 2 ∨ k = 3 ∨ k = 4 ∨ k = 5 ∨ k = 6 ∨ k = 7 := by omega
  rcases h with rfl | rfl | rfl | rfl | rfl | rfl | rfl | rfl <;> (show _ = _; kernel_rfl)
theorem five {w : World} {b : Nat} {t : TypeId} {f : Nat × Nat} {v0 v1 v2 v3 v4 : Value} (h : w.heap[b]? = some (.cells #[v0, v1, v2, v3, v4] t f)) : w.cell? ⟨b, 0, none⟩ = some v0 ∧ w.cell? ⟨b, 1, none⟩ = some v1 ∧ w.cell? ⟨b, 2, none⟩ = some v2 ∧ w.cell? ⟨b, 3, none⟩ = some v3 ∧ w.cell? ⟨b, 4, none⟩ = some v4 := by
  refine ⟨?_, ?_, ?_, ?_, ?_⟩ <;> (rw [cell_at h]; rfl)
attribute [local simp high] sizeMail
set_option maxRecDepth 100000 in
set_option maxHeartbeats 8000000 in
theorem answer_z {w0 w : World} {base b k : Nat} {K : List (Nat × Obj)} (s : EV) (ok : OkE s) (h : WZ w0 base b k K w) (hk : k ≤ 200000000) :
    Calls Try.prog 42 #[.pointer (some ⟨b, 0, none⟩), .agg (rowE s 20 42)] w fun e w' => (∃ v, e = .returned v) ∧ WZ w0 base b (k + 600) K w' := by
  obtain ⟨B, hB⟩ : ∃ B, w.heap.size = B := ⟨_, rfl⟩
  have Z1 := h.new (.cells (rowE s 20 42) 90)
  rw [hB] at Z1
  have hsz := rowE_size s 20 42
  have c0 : (w.alloc (.cells (rowE s 20 42) 90)).cell? ⟨B, 0, none⟩ = some (.int .u64 (s.u 20)) := atE Z1.hd (by omega)
  obtain ⟨w1, hw1⟩ : ∃ w1, w.alloc (.cells (rowE s 20 42) 90) = w1 := ⟨_, rfl⟩
  rw [hw1] at Z1 c0
  clear h
  go_enter Try.func42, Try.ntmps42
  go_wp2_with fail
  refine (num_z (s.u 20) (ok.u0 _) (ok.u1 _) Z1 (by omega)).mono ?_
  rintro e w2 ⟨⟨v2, rfl⟩, Z2⟩
  have c1 : w2.cell? ⟨B, 1, none⟩ = some (.bool (s.b 21)) := atE Z2.hd (by omega)
  clear hw1 c0 Z1 hsz
  go_wp2_with fail
  refine (truth_z (s.b 21) Z2 (by omega)).mono ?_
  rintro e w3 ⟨⟨v3, rfl⟩, Z3⟩
  clear c1 Z2
  have ld := ldE (P := Try.prog) Z3.hd (show 2 + sz40 ≤ 42 by decide)
  go_wp2_with fail
  have Z9 := Lib.hid Z3
  clear Z3 ld
  go_loopw [4, 19] (fun n t wr => ∃ (j : Nat) (m : Nat), j ≤ 8 ∧ m ≤ j ∧ n = .int .i64 (m : Int) ∧ t = .int .i64 (j : Int) ∧ WZ w0 base b (k + 20) ((B, .cells (rowE s 20 42) 90) :: K) wr) (fun _ t _ => 8 - (intOf t).toNat)
  case atStart => exact ⟨0, 0, by omega, by omega, rfl, rfl, Z9.out⟩
  case round =>
    clear Z9
    obtain ⟨j, m, hj, hm, rfl, rfl, hZ⟩ := hrel
    have hj0 : (0 : Int) ≤ j := by omega
    by_cases hlt : j < 8
    · have hji : (j : Int) < 8 := by omega
      have hix := ixMail s hlt
      go_wp2
      all_goals first
        | exact ⟨⟨j + 1, m + 1, by omega, by omega, by go_num, by go_num, (hZ.new _).tail⟩, by simp [intOf]; omega⟩
        | exact ⟨⟨j + 1, m, by omega, by omega, rfl, by go_num, (hZ.new _).tail⟩, by simp [intOf]; omega⟩
    · have e : j = 8 := by omega
      subst e
      have hdl : ¬ (((8 : Nat) : Int) < 8) := by omega
      have em : IntKind.u64.wrap (m : Int) = (m : Int) := by rw [IntKind.wrap_u64]; omega
      go_wp2_with fail
      refine (num_z (m : Int) (by omega) (by omega) hZ (by omega)).mono ?_
      rintro e w4 ⟨⟨v4, rfl⟩, Z4⟩
      have ld := ldE (P := Try.prog) Z4.hd (show 2 + sz40 ≤ 42 by decide)
      clear hZ
      go_wp2_with fail
      have Z9 := Lib.hid Z4
      clear Z4 ld
      go_loopw [34] (fun t wr => ∃ j : Nat, j ≤ 8 ∧ t = .int .i64 (j : Int) ∧ WZ w0 base b (k + 30 + 60 * j) ((B, .cells (rowE s 20 42) 90) :: K) wr) (fun t _ => 8 - (intOf t).toNat)
      case atStart => exact ⟨0, by omega, rfl, Z9.out⟩
      case round =>
        clear Z9
        obtain ⟨j, hj, rfl, hZ⟩ := hrel
        have hj0 : (0 : Int) ≤ j := by omega
        by_cases hlt : j < 8
        · have hji : (j : Int) < 8 := by omega
          have hix := ixMail s hlt
          have ej : IntKind.u64.wrap (j : Int) = (j : Int) := by rw [IntKind.wrap_u64]; omega
          obtain ⟨q1, hq1⟩ : ∃ q, s.b (22 + 5 * j) = q := ⟨_, rfl⟩
          obtain ⟨q2, hq2⟩ : ∃ q, s.b (23 + 5 * j) = q := ⟨_, rfl⟩
          obtain ⟨q3, hq3⟩ : ∃ q, s.b (24 + 5 * j) = q := ⟨_, rfl⟩
          obtain ⟨u, hu⟩ : ∃ q, s.u (25 + 5 * j) = q := ⟨_, rfl⟩
          obtain ⟨i, hi⟩ : ∃ q, s.i (26 + 5 * j) = q := ⟨_, rfl⟩
          have hU : U64 u := by rw [← hu]; exact ok.U _
          have hI : I64 i := by rw [← hi]; exact ok.I _
          rw [hq1, hq2, hq3, hu, hi] at hix
          have HU := Lib.hid hU
          have HI := Lib.hid hI
          clear hq1 hq2 hq3 hu hi hU hI
          have hN : Hid (∀ cs : Array Value, WZ w0 base b (k + 30 + 60 * j) ((wr.heap.size, .cells cs 83) :: (B, .cells (rowE s 20 42) 90) :: K) (wr.alloc (.cells cs 83))) := fun cs => hZ.new _
          have hD : Hid (∀ w' : World, WZ w0 base b (k + 30 + 60 * j) ((B, .cells (rowE s 20 42) 90) :: K) w' → ∃ j_1 : Nat, j_1 ≤ 8 ∧ Value.int .i64 ((j : Int) + 1) = .int .i64 (j_1 : Int) ∧ WZ w0 base b (k + 30 + 60 * j_1) ((B, .cells (rowE s 20 42) 90) :: K) w') := fun w' h => ⟨j + 1, by omega, by go_num, h.more (by omega)⟩
          clear hZ
          go_wp2_with fail
          all_goals try (exact ⟨hD.out _ (hN.out _).tail, by simp [intOf]; omega⟩)
          all_goals
            refine (num_z (j : Int) (by omega) (by omega) (hN.out _) (by omega)).mono ?_
            rintro e w5 ⟨⟨v5, rfl⟩, Z5⟩
            obtain ⟨c0, c1, c2, c3, c4⟩ := five Z5.hd
            have Z6 := Lib.hid Z5
            clear Z5 hix
            go_wp2_with fail
            refine (req_z _ _ _ _ _ (by first | exact HU.out.1 | decide) (by first | exact HU.out.2 | decide) (by first | exact HI.out.1 | decide) (by first | exact HI.out.2 | decide) Z6.out (by omega)).mono ?_
            rintro e w7 ⟨⟨v7, rfl⟩, Z7⟩
            have Z8 := Lib.hid Z7.tail
            clear Z6 Z7 c0 c1 c2 c3 c4
            go_wp2
            exact ⟨⟨j + 1, by omega, by go_num, Z8.out.more (by omega)⟩, by simp [intOf]; omega⟩
        · have e : j = 8 := by omega
          subst e
          have hdl : ¬ (((8 : Nat) : Int) < 8) := by omega
          have E := Lib.hid (hZ.tail.more (show k + 30 + 60 * 8 ≤ k + 600 by omega))
          clear hZ
          go_wp2_with fail
          go_end0
          exact ⟨⟨_, rfl⟩, E.out⟩
end Go.Proofs.Ytcfbbimahbhgjaa
