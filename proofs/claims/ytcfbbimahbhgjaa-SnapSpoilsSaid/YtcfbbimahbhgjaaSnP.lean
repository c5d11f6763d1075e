/- Snap: events in cells; a writer's ask. -/
import Derived.Test.YtcfbbimahbhgjaaSnO
namespace Go.Proofs.Ytcfbbimahbhgjaa
open Go.RowKit
set_option linter.unusedSimpArgs false
set_option linter.unusedVariables false

/-! ## An event's cells. -/
structure EV where
  i : Nat → Int
  u : Nat → Int
  b : Nat → Bool
def kE : List Nat := [0, 0, 1, 1, 0, 0, 0, 1, 1, 2, 0, 2, 2, 2, 1, 0, 0, 1, 0, 1, 1, 2, 2, 2, 2, 1, 0, 2, 2, 2, 1, 0, 2, 2, 2, 1, 0, 2, 2, 2, 1, 0, 2, 2, 2, 1, 0, 2, 2, 2, 1, 0, 2, 2, 2, 1, 0, 2, 2, 2, 1, 0, 0, 0, 0]
def evF (s : EV) (j : Nat) : Value := match kE[j]? with
  | some 0 => .int .i64 (s.i j)
  | some 1 => .int .u64 (s.u j)
  | _ => .bool (s.b j)
structure OkE (s : EV) : Prop where
  i0 : ∀ j, -9223372036854775808 ≤ s.i j
  i1 : ∀ j, s.i j ≤ 9223372036854775807
  u0 : ∀ j, 0 ≤ s.u j
  u1 : ∀ j, s.u j < 18446744073709551616
def rowE (s : EV) (off n : Nat) : Array Value := ((List.range n).map fun j => evF s (off + j)).toArray
theorem rowE_size (s : EV) (off n : Nat) : (rowE s off n).size = n := by simp [rowE]
theorem rowE_get (s : EV) (off n : Nat) {j : Nat} (hj : j < n) : (rowE s off n)[j]? = some (evF s (off + j)) := by simp [rowE, hj]
theorem evF_one (s : EV) (j : Nat) : (evF s j).oneCell' = true := by
  unfold evF
  split <;> rfl
theorem rowE_one (s : EV) (off n : Nat) : (rowE s off n).all (·.oneCell') = true := by
  rw [Array.all_eq_true_iff_forall_mem]
  intro v hv
  simp only [rowE, List.mem_toArray, List.mem_map, List.mem_range] at hv
  obtain ⟨j, _, rfl⟩ := hv
  exact evF_one _ _
/-- Cells off.. of a block that holds a row. -/
theorem ldE {P : Program} {w : World} {b off n m o : Nat} {s : EV} {t : TypeId} (h : w.heap[b]? = some (.cells (rowE s off n) t)) (hm : o + m ≤ n) : (loadCellsFrom ⟨b, o, none⟩ 0 m #[]).run P w = .ok (rowE s (off + o) m) w := by
  have hz : (rowE s (off + o) m).toList.length = m := by simp [rowE]
  have := run_loadCells_list (P := P) w ⟨b, o, none⟩ (rowE s (off + o) m).toList (fun j v hv => by
    have hadd : (⟨b, o, none⟩ : Addr).add j = ⟨b, o + j, none⟩ := by unfold Addr.add; split <;> simp_all
    have hj : j < m := by have := (List.getElem?_eq_some_iff.1 hv).1; omega
    rw [hadd, cell_at h, rowE_get _ _ _ (show o + j < n by omega)]
    have h2 := rowE_get s (off + o) m hj
    rw [Array.getElem?_toList] at hv
    rw [h2] at hv
    rw [← hv, Nat.add_assoc])
  rw [hz] at this
  exact this
theorem atE {w : World} {b off n j : Nat} {s : EV} {t : TypeId} (h : w.heap[b]? = some (.cells (rowE s off n) t)) (hj : j < n) : w.cell? ⟨b, j, none⟩ = some (evF s (off + j)) := by
  rw [cell_at h, rowE_get _ _ _ hj]
def sz65 : Nat := 65
def sz19 : Nat := 19
def sz42 : Nat := 42
def sz40 : Nat := 40
def zeroE : EV := ⟨fun _ => 0, fun _ => 0, fun _ => false⟩
theorem sizeEv (w : World) : (sizeOf 92).run Try.prog w = .ok sz65 w := by rw [Try.sizeOf92]; rfl
theorem zeroEv (w : World) : (zeroValue 92).run Try.prog w = .ok (.agg (rowE zeroE 0 sz65)) w := by rw [Try.zeroValue92]; rfl
theorem infoEv : (Try.prog.info? 92).map (·.size) = some 65 := by kernel_rfl
theorem stnEv (w : World) (s s' : EV) : (storeCells ⟨w.heap.size, 0, none⟩ (rowE s' 0 sz65).toList).run Try.prog (w.alloc (.cells (rowE s 0 sz65) 92)) = .ok () (w.alloc (.cells (rowE s' 0 sz65) 92)) :=
  run_storeCells_new w _ _ _ infoEv (by rw [rowE_size, rowE_size]) (rowE_one ..)
theorem sizeAsk (w : World) : (sizeOf 87).run Try.prog w = .ok sz19 w := by rw [Try.sizeOf87]; rfl
theorem sizeAns (w : World) : (sizeOf 90).run Try.prog w = .ok sz42 w := by rw [Try.sizeOf90]; rfl
theorem ix5 (a b c d e : Int) {k : Nat} (hk : k < 5) : ∃ x, (x = a ∨ x = b ∨ x = c ∨ x = d ∨ x = e) ∧ ∀ w : World, (Instr.index 111 (.agg #[.int .i64 a, .int .i64 b, .int .i64 c, .int .i64 d, .int .i64 e]) (.int .i64 (k : Int))).run Try.prog w = .ok (.int .i64 x) w := by
  have h : k = 0 ∨ k = 1 ∨ k = 2 ∨ k = 3 ∨ k = 4 := by omega
  rcases h with rfl | rfl | rfl | rfl | rfl
  · exact ⟨a, by simp, fun w => by kernel_rfl⟩
  · exact ⟨b, by simp, fun w => by kernel_rfl⟩
  · exact ⟨c, by simp, fun w => by kernel_rfl⟩
  · exact ⟨d, by simp, fun w => by kernel_rfl⟩
  · exact ⟨e, by simp, fun w => by kernel_rfl⟩
theorem ix4 (a b c d : Int) {k : Nat} (hk : k < 4) : ∃ x, (x = a ∨ x = b ∨ x = c ∨ x = d) ∧ ∀ w : World, (Instr.index 93 (.agg #[.int .i64 a, .int .i64 b, .int .i64 c, .int .i64 d]) (.int .i64 (k : Int))).run Try.prog w = .ok (.int .i64 x) w := by
  have h : k = 0 ∨ k = 1 ∨ k = 2 ∨ k = 3 := by omega
  rcases h with rfl | rfl | rfl | rfl
  · exact ⟨a, by simp, fun w => by kernel_rfl⟩
  · exact ⟨b, by simp, fun w => by kernel_rfl⟩
  · exact ⟨c, by simp, fun w => by kernel_rfl⟩
  · exact ⟨d, by simp, fun w => by kernel_rfl⟩
theorem ix4u (a b c d : Int) {k : Nat} (hk : k < 4) : ∃ x, (x = a ∨ x = b ∨ x = c ∨ x = d) ∧ ∀ w : World, (Instr.index 112 (.agg #[.int .u64 a, .int .u64 b, .int .u64 c, .int .u64 d]) (.int .i64 (k : Int))).run Try.prog w = .ok (.int .u64 x) w := by
  have h : k = 0 ∨ k = 1 ∨ k = 2 ∨ k = 3 := by omega
  rcases h with rfl | rfl | rfl | rfl
  · exact ⟨a, by simp, fun w => by kernel_rfl⟩
  · exact ⟨b, by simp, fun w => by kernel_rfl⟩
  · exact ⟨c, by simp, fun w => by kernel_rfl⟩
  · exact ⟨d, by simp, fun w => by kernel_rfl⟩
def I64 (x : Int) : Prop := -9223372036854775808 ≤ x ∧ x ≤ 9223372036854775807
def U64 (x : Int) : Prop := 0 ≤ x ∧ x < 18446744073709551616
theorem OkE.I {s : EV} (h : OkE s) (j : Nat) : I64 (s.i j) := ⟨h.i0 j, h.i1 j⟩
theorem OkE.U {s : EV} (h : OkE s) (j : Nat) : U64 (s.u j) := ⟨h.u0 j, h.u1 j⟩
set_option maxRecDepth 100000 in
set_option maxHeartbeats 8000000 in
theorem ask_z {w0 w : World} {base b k : Nat} {K : List (Nat × Obj)} (s : EV) (ok : OkE s) (h : WZ w0 base b k K w) (hk : k ≤ 200000000) :
    Calls Try.prog 41 #[.pointer (some ⟨b, 0, none⟩), .agg (rowE s 1 19)] w fun e w' => (∃ v, e = .returned v) ∧ WZ w0 base b (k + 200) K w' := by
  obtain ⟨B, hB⟩ : ∃ B, w.heap.size = B := ⟨_, rfl⟩
  have Z1 := h.new (.cells (rowE s 1 19) 87)
  rw [hB] at Z1
  have hsz := rowE_size s 1 19
  have c0 : (w.alloc (.cells (rowE s 1 19) 87)).cell? ⟨B, 0, none⟩ = some (.int .i64 (s.i 1)) := atE Z1.hd (by omega)
  have c3 : (w.alloc (.cells (rowE s 1 19) 87)).cell? ⟨B, 3, none⟩ = some (.int .i64 (s.i 4)) := atE Z1.hd (by omega)
  have c4 : (w.alloc (.cells (rowE s 1 19) 87)).cell? ⟨B, 4, none⟩ = some (.int .i64 (s.i 5)) := atE Z1.hd (by omega)
  have c5 : (w.alloc (.cells (rowE s 1 19) 87)).cell? ⟨B, 5, none⟩ = some (.int .i64 (s.i 6)) := atE Z1.hd (by omega)
  have c9 : (w.alloc (.cells (rowE s 1 19) 87)).cell? ⟨B, 9, none⟩ = some (.int .i64 (s.i 10)) := atE Z1.hd (by omega)
  obtain ⟨w1, hw1⟩ : ∃ w1, w.alloc (.cells (rowE s 1 19) 87) = w1 := ⟨_, rfl⟩
  rw [hw1] at Z1 c0 c3 c4 c5 c9
  clear h
  go_enter Try.func41, Try.ntmps41
  go_wp2_with fail
  have Z9 := Lib.hid Z1
  clear hw1 c0 c3 c4 c5 c9 Z1 hsz
  go_loopw [19] (fun t wr => ∃ j : Nat, j ≤ 5 ∧ t = .int .i64 (j : Int) ∧ WZ w0 base b (k + 10 * j) ((B, .cells (rowE s 1 19) 87) :: K) wr) (fun t _ => 5 - (intOf t).toNat)
  case atStart => exact ⟨0, by omega, rfl, Z9.out⟩
  case round =>
    clear Z9
    obtain ⟨j, hj, rfl, hZ⟩ := hrel
    have hj0 : (0 : Int) ≤ j := by omega
    by_cases hlt : j < 5
    · have hji : (j : Int) < 5 := by omega
      obtain ⟨x, hx, hix⟩ := ix5 (s.i 1) (s.i 4) (s.i 5) (s.i 6) (s.i 10) hlt
      have hI : I64 x := by rcases hx with rfl | rfl | rfl | rfl | rfl <;> exact ok.I _
      clear hx
      go_wp2_with fail
      refine (int_z x hI.1 hI.2 hZ (by omega)).mono ?_
      rintro e w2 ⟨⟨v2, rfl⟩, Z2⟩
      have Z3 := Lib.hid (Z2.more (show k + 10 * j + 10 ≤ k + 10 * (j + 1) by omega))
      clear hZ Z2 hI hix
      go_wp2
      exact ⟨⟨j + 1, by omega, by go_num, Z3.out⟩, by simp [intOf]; omega⟩
    · have e : j = 5 := by omega
      subst e
      have hdl : ¬ (((5 : Nat) : Int) < 5) := by omega
      have c1 : wr.cell? ⟨B, 1, none⟩ = some (.int .u64 (s.u 2)) := atE hZ.hd (by omega)
      have c2 : wr.cell? ⟨B, 2, none⟩ = some (.int .u64 (s.u 3)) := atE hZ.hd (by omega)
      have c6 : wr.cell? ⟨B, 6, none⟩ = some (.int .u64 (s.u 7)) := atE hZ.hd (by omega)
      have c7 : wr.cell? ⟨B, 7, none⟩ = some (.int .u64 (s.u 8)) := atE hZ.hd (by omega)
      obtain ⟨w3, rfl⟩ : ∃ w3, wr = w3 := ⟨_, rfl⟩
      have Z9 := Lib.hid hZ
      clear hZ
      go_wp2_with fail
      clear c1 c2 c6 c7
      go_loopw [35] (fun t wr => ∃ j : Nat, j ≤ 4 ∧ t = .int .i64 (j : Int) ∧ WZ w0 base b (k + 50 + 10 * j) ((B, .cells (rowE s 1 19) 87) :: K) wr) (fun t _ => 4 - (intOf t).toNat)
      case atStart => exact ⟨0, by omega, rfl, Z9.out⟩
      case round =>
        clear Z9
        obtain ⟨j, hj, rfl, hZ⟩ := hrel
        have hj0 : (0 : Int) ≤ j := by omega
        by_cases hlt : j < 4
        · have hji : (j : Int) < 4 := by omega
          obtain ⟨x, hx, hix⟩ := ix4u (s.u 2) (s.u 3) (s.u 7) (s.u 8) hlt
          have hI : U64 x := by rcases hx with rfl | rfl | rfl | rfl <;> exact ok.U _
          clear hx
          go_wp2_with fail
          refine (num_z x hI.1 hI.2 hZ (by omega)).mono ?_
          rintro e w2 ⟨⟨v2, rfl⟩, Z2⟩
          have Z3 := Lib.hid (Z2.more (show k + 50 + 10 * j + 10 ≤ k + 50 + 10 * (j + 1) by omega))
          clear hZ Z2 hI hix
          go_wp2
          exact ⟨⟨j + 1, by omega, by go_num, Z3.out⟩, by simp [intOf]; omega⟩
        · have e : j = 4 := by omega
          subst e
          have hdl : ¬ (((4 : Nat) : Int) < 4) := by omega
          have c8 : wr.cell? ⟨B, 8, none⟩ = some (.bool (s.b 9)) := atE hZ.hd (by omega)
          go_wp2_with fail
          refine (truth_z (s.b 9) hZ (by omega)).mono ?_
          rintro e w4 ⟨⟨v4, rfl⟩, Z4⟩
          clear hZ c8
          have c10 : w4.cell? ⟨B, 10, none⟩ = some (.bool (s.b 11)) := atE Z4.hd (by omega)
          have c11 : w4.cell? ⟨B, 11, none⟩ = some (.bool (s.b 12)) := atE Z4.hd (by omega)
          have c12 : w4.cell? ⟨B, 12, none⟩ = some (.bool (s.b 13)) := atE Z4.hd (by omega)
          have c13 : w4.cell? ⟨B, 13, none⟩ = some (.int .u64 (s.u 14)) := atE Z4.hd (by omega)
          have c14 : w4.cell? ⟨B, 14, none⟩ = some (.int .i64 (s.i 15)) := atE Z4.hd (by omega)
          go_wp2_with fail
          refine (req_z (s.b 11) (s.b 12) (s.b 13) (s.u 14) (s.i 15) (ok.u0 _) (ok.u1 _) (ok.i0 _) (ok.i1 _) Z4 (by omega)).mono ?_
          rintro e w5 ⟨⟨v5, rfl⟩, Z5⟩
          clear Z4 c10 c11 c12 c13 c14
          have c15 : w5.cell? ⟨B, 15, none⟩ = some (.int .i64 (s.i 16)) := atE Z5.hd (by omega)
          go_wp2_with fail
          refine (int_z (s.i 16) (ok.i0 _) (ok.i1 _) Z5 (by omega)).mono ?_
          rintro e w6 ⟨⟨v6, rfl⟩, Z6⟩
          clear Z5 c15
          have c17 : w6.cell? ⟨B, 17, none⟩ = some (.int .i64 (s.i 18)) := atE Z6.hd (by omega)
          go_wp2_with fail
          refine (int_z (s.i 18) (ok.i0 _) (ok.i1 _) Z6 (by omega)).mono ?_
          rintro e w7 ⟨⟨v7, rfl⟩, Z7⟩
          clear Z6 c17
          have c16 : w7.cell? ⟨B, 16, none⟩ = some (.int .u64 (s.u 17)) := atE Z7.hd (by omega)
          go_wp2_with fail
          refine (num_z (s.u 17) (ok.u0 _) (ok.u1 _) Z7 (by omega)).mono ?_
          rintro e w8 ⟨⟨v8, rfl⟩, Z8⟩
          clear Z7 c16
          have c18 : w8.cell? ⟨B, 18, none⟩ = some (.int .u64 (s.u 19)) := atE Z8.hd (by omega)
          go_wp2_with fail
          refine (num_z (s.u 19) (ok.u0 _) (ok.u1 _) Z8 (by omega)).mono ?_
          rintro e w9 ⟨⟨v9, rfl⟩, Z9⟩
          clear Z8 c18
          have E := Lib.hid (Z9.tail.more (show k + 50 + 10 * 4 + 10 + 50 + 10 + 10 + 10 + 10 ≤ k + 200 by omega))
          clear Z9
          go_wp2_with fail
          go_end0
          exact ⟨⟨_, rfl⟩, E.out⟩
end Go.Proofs.Ytcfbbimahbhgjaa
