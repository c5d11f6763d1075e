/- The document's best and Line of the plic. -/
import Derived.Test.YtgelpapjmlbgfaaPlL
import Derived.BigQuiet
namespace Go.Proofs.Ytgelpapjmlbgfaa
open Go.RowKit
set_option linter.unusedSimpArgs false
set_option linter.unusedVariables false
attribute [local simp high] zeroPv sizePv zeroDv sizeDv

theorem knownDpr {w : World} {b : Nat} {s : PS} {t : TypeId} (h : w.heap[b]? = some (.cells (cellsD s) t)) {i : Nat} (hi : i < 32) : w.cell? ⟨b, 1 + i, none⟩ = some (.int .i64 (s.pr i : Int)) := by
  rw [cell_at h]; exact D_pr s hi
theorem knownDwi {w : World} {b : Nat} {s : PS} {t : TypeId} (h : w.heap[b]? = some (.cells (cellsD s) t)) {i : Nat} (hi : i < 32) : w.cell? ⟨b, 33 + i, none⟩ = some (.bool (s.wi i)) := by
  rw [cell_at h]; exact D_wi s hi
theorem knownDwa {w : World} {b : Nat} {s : PS} {t : TypeId} (h : w.heap[b]? = some (.cells (cellsD s) t)) {i : Nat} (hi : i < 32) : w.cell? ⟨b, 65 + i, none⟩ = some (.bool (s.wa i)) := by
  rw [cell_at h]; exact D_wa s hi
theorem knownDse {w : World} {b : Nat} {s : PS} {t : TypeId} (h : w.heap[b]? = some (.cells (cellsD s) t)) {i : Nat} (hi : i < 32) : w.cell? ⟨b, 97 + i, none⟩ = some (.bool (s.se i)) := by
  rw [cell_at h]; exact D_se s hi
theorem knownDon {w : World} {b : Nat} {s : PS} {t : TypeId} (h : w.heap[b]? = some (.cells (cellsD s) t)) {c i : Nat} (hc : c < 16) (hi : i < 32) : w.cell? ⟨b, 129 + c * 32 + i, none⟩ = some (.bool (s.on c i)) := by
  rw [cell_at h]; exact D_on s hc hi
theorem knownDlv {w : World} {b : Nat} {s : PS} {t : TypeId} (h : w.heap[b]? = some (.cells (cellsD s) t)) {i : Nat} (hi : i < 16) : w.cell? ⟨b, 641 + i, none⟩ = some (.int .i64 (s.lv i : Int)) := by
  rw [cell_at h]; exact D_lv s hi
theorem bestD_step (m : Nat → Bool) (pr : Nat → Nat) (a k : Nat) (h1 : 1 ≤ k) (h31 : k ≤ 31) : bestD m pr a (31 - (k - 1)) = if cand m pr a k = true ∧ (bestD m pr a (31 - k) = 0 ∨ pr (bestD m pr a (31 - k)) ≤ pr k) then k else bestD m pr a (31 - k) := by
  rw [show 31 - (k - 1) = (31 - k) + 1 by omega]
  show (if cand m pr a (31 - (31 - k)) = true ∧ (bestD m pr a (31 - k) = 0 ∨ pr (bestD m pr a (31 - k)) ≤ pr (31 - (31 - k))) then 31 - (31 - k) else bestD m pr a (31 - k)) = _
  rw [show 31 - (31 - k) = k by omega]
set_option maxRecDepth 100000 in
set_option maxHeartbeats 4000000 in
theorem rbest_any (s : PS) (c a : Nat) (w : World) (ok : OkP s) (hc : c < 16) (ha : a < 256) :
    Calls Try.prog 48 #[.agg (cellsD s), .int .i64 (c : Int), .int .i64 (a : Int)] w fun e w' => e = .returned (.int .i64 ((bestD (fun i => s.wa i && s.on c i) s.pr a 31 : Nat) : Int)) ∧ Below w.heap.size w w' := by
  have F0 := (Fr.refl w).alloc (.cells (cellsD s) 72)
  have k0 := heap_alloc_new w (.cells (cellsD s) 72)
  have hc0 : (0 : Int) ≤ c := by omega
  have hc16 : (c : Int) < 16 := by omega
  obtain ⟨m, hm⟩ : ∃ m, (fun i => s.wa i && s.on c i) = m := ⟨_, rfl⟩
  have hmk : ∀ k, m k = (s.wa k && s.on c k) := fun k => by rw [← hm]
  have HM := Lib.hid hmk
  rw [hm]
  clear hm hmk
  go_enter Try.func48, Try.ntmps48
  go_wp2
  go_loopw [7, 8] (fun o i wr => ∃ k : Nat, k ≤ 31 ∧ i = .int .i64 (k : Int) ∧ o = .int .i64 ((bestD m s.pr a (31 - k) : Nat) : Int) ∧ Fr w.heap.size w wr ∧ wr.heap[w.heap.size]? = some (.cells (cellsD s) 72)) (fun _ i _ => (intOf i).toNat)
  case atStart => exact ⟨31, by omega, by go_num, rfl, F0, k0⟩
  case round =>
    clear F0 k0
    obtain ⟨k, hk31, rfl, rfl, hfr, hr⟩ := hrel
    have hkk : (k : Int) ≤ 31 := by omega
    obtain ⟨o, ho⟩ : ∃ o, bestD m s.pr a (31 - k) = o := ⟨_, rfl⟩
    have hol : o ≤ 31 := by rw [← ho]; exact bestD_le _ _ _ _
    rw [ho]
    by_cases hlt : 1 ≤ k
    · have hst := bestD_step m s.pr a k hlt hk31
      rw [ho] at hst
      have hk0 : (0 : Int) ≤ k := by omega
      have hk1 : (1 : Int) ≤ k := by omega
      have hk3 : (k : Int) < 32 := by omega
      have ho00 : (0 : Int) ≤ o := by omega
      have ho32 : (o : Int) < 32 := by omega
      have cw := knownDwa hr (i := k) (by omega)
      have cn := knownDon hr hc (i := k) (by omega)
      have co := knownDpr hr (i := o) (by omega)
      have ck := knownDpr hr (i := k) (by omega)
      have hp8 := ok.pr k
      have hq8 := ok.pr o
      have hmk := HM.out k
      obtain ⟨P, hP⟩ : ∃ P, s.pr k = P := ⟨_, rfl⟩
      obtain ⟨Q, hQ⟩ : ∃ Q, s.pr o = Q := ⟨_, rfl⟩
      rw [hP] at ck hp8
      rw [hQ] at co hq8
      obtain ⟨r, hr'⟩ : ∃ r, bestD m s.pr a (31 - (k - 1)) = r := ⟨_, rfl⟩
      rw [hr', hP, hQ] at hst
      unfold cand at hst
      rw [hP, hmk] at hst
      have HR := Lib.hid hr'
      clear hr' hP hQ ho hmk
      cases h1 : s.wa k with
      | false =>
        rw [h1] at cw hst
        have hr0 : r = o := by rw [hst, if_neg (by simp)]
        subst hr0
        clear hst
        go_wp2_with fail
        go_quiet (fail)
        go_wp2
        go_roundw
        case rel => exact ⟨k - 1, by omega, by go_num, by rw [HR.out], hfr.drewN _, hr⟩
        case measure => simp [intOf] <;> omega
      | true =>
        rw [h1] at cw hst
        cases h2 : s.on c k with
        | false =>
          rw [h2] at cn hst
          have hr0 : r = o := by rw [hst, if_neg (by simp)]
          subst hr0
          clear hst
          go_wp2_with fail
          go_quiet (fail)
          go_wp2
          go_roundw
          case rel => exact ⟨k - 1, by omega, by go_num, by rw [HR.out], hfr.drewN _, hr⟩
          case measure => simp [intOf] <;> omega
        | true =>
          rw [h2] at cn hst
          by_cases hap : a < P
          · by_cases ho0 : o = 0
            · subst ho0
              have hr0 : r = k := by rw [hst, if_pos (by simp [hap])]
              subst hr0
              clear hst
              go_wp2_with fail
              go_quiet (fail)
              go_wp2
              go_roundw
              case rel => exact ⟨r - 1, by omega, by go_num, by rw [HR.out], hfr.drewN _, hr⟩
              case measure => simp [intOf] <;> omega
            · by_cases hqp : Q ≤ P
              · have hr0 : r = k := by rw [hst, if_pos (by simp [hap, hqp])]
                subst hr0
                clear hst
                go_wp2_with fail
                go_quiet (fail)
                go_wp2
                go_roundw
                case rel => exact ⟨r - 1, by omega, by go_num, by rw [HR.out], hfr.drewN _, hr⟩
                case measure => simp [intOf] <;> omega
              · have hr0 : r = o := by rw [hst, if_neg (by simp [hap, hqp, ho0])]
                subst hr0
                clear hst
                go_wp2_with fail
                go_quiet (fail)
                go_wp2
                go_roundw
                case rel => exact ⟨k - 1, by omega, by go_num, by rw [HR.out], hfr.drewN _, hr⟩
                case measure => simp [intOf] <;> omega
          · have hr0 : r = o := by rw [hst, if_neg (by simp [hap])]
            subst hr0
            clear hst
            go_wp2_with fail
            go_quiet (fail)
            go_wp2
            go_roundw
            case rel => exact ⟨k - 1, by omega, by go_num, by rw [HR.out], hfr.drewN _, hr⟩
            case measure => simp [intOf] <;> omega
    · have e : k = 0 := by omega
      subst e
      go_wp2
      go_ret
      subst ho
      exact ⟨rfl, hfr.1⟩
theorem rbest_v {s : PS} {c a r : Nat} (hr : bestP s c a = r) (w : World) (ok : OkP s) (hc : c < 16) (ha : a < 256) :
    Calls Try.prog 48 #[.agg (cellsD s), .int .i64 (c : Int), .int .i64 (a : Int)] w fun e w' => e = .returned (.int .i64 (r : Int)) ∧ Below w.heap.size w w' := by
  have := rbest_any s c a w ok hc ha
  rw [best_same] at this
  unfold bestP at hr
  rwa [hr] at this

theorem heldD {w w' : World} {B b : Nat} {o : Obj} {w0 : World} {a0 a1 : Addr} {v0 v1 : Value} (hb : Below w.heap.size w w') (h : ((Fr B w0 w ∧ w.heap[b]? = some o) ∧ w.cell? a0 = some v0) ∧ w.cell? a1 = some v1) :
    ((Fr B w0 w' ∧ w'.heap[b]? = some o) ∧ w'.cell? a0 = some v0) ∧ w'.cell? a1 = some v1 := ⟨⟨⟨h.1.1.1.step hb, keepB hb h.1.1.2⟩, hcell hb h.1.2⟩, hcell hb h.2⟩
set_option maxRecDepth 100000 in
set_option maxHeartbeats 4000000 in
theorem rline_out (s : PS) (c : Int) (w : World) (ok : OkP s) (hc : c < 0 ∨ 2 * s.n ≤ c) :
    Calls Try.prog 36 #[.agg (cellsD s), .int .i64 c] w fun e w' => e = .returned (.bool (lineP s c)) ∧ Below w.heap.size w w' := by
  have HL : Hid (lineP s c = false) := by
    show _ = _
    unfold lineP
    by_cases h0 : 0 ≤ c
    · have : ¬ c < 2 * s.n := by omega
      simp [this]
    · simp [h0]
  have n0 := ok.n0
  have n8 := ok.n8
  have F0 := (Fr.refl w).alloc (.cells (cellsD s) 72)
  have h := heap_alloc_new w (.cells (cellsD s) 72)
  obtain ⟨c0, cl, cf⟩ := knownD h
  obtain ⟨k, hk⟩ : ∃ k : Nat, s.n = (k : Int) := ⟨s.n.toNat, by omega⟩
  rw [hk] at c0 hc n0 n8
  have hk8 : k ≤ 8 := by omega
  rcases hc with hc | hc
  · have d1 : decide (0 ≤ c) = false := by simp; omega
    go_enter Try.func36, Try.ntmps36
    go_wp2_with fail
    go_quiet (fail)
    go_wp2
    go_ret
    exact ⟨by rw [HL.out]; rfl, (F0.drewN _).1⟩
  · have hc0 : 0 ≤ c := by omega
    have d2 : decide (c < 2 * (k : Int)) = false := by simp; omega
    have hw2 : IntKind.i64.wrap (2 * (k : Int)) = 2 * (k : Int) := by rw [IntKind.wrap_i64]; omega
    go_enter Try.func36, Try.ntmps36
    go_wp2_with fail
    go_quiet (fail)
    go_wp2
    go_ret
    exact ⟨by rw [HL.out]; rfl, (F0.drewN _).1⟩
set_option maxRecDepth 100000 in
set_option maxHeartbeats 4000000 in
theorem rline_in (s : PS) (i : Nat) (w : World) (ok : OkP s) (hc : (i : Int) < 2 * s.n) :
    Calls Try.prog 36 #[.agg (cellsD s), .int .i64 (i : Int)] w fun e w' => e = .returned (.bool (lineP s (i : Int))) ∧ Below w.heap.size w w' := by
  obtain ⟨r, hr⟩ : ∃ r, bestP s i (s.lv i) = r := ⟨_, rfl⟩
  have HL : Hid (lineP s (i : Int) = decide (0 < r)) := by
    show _ = _
    unfold lineP
    rw [Int.toNat_natCast, hr]
    simp [hc]
  have n0 := ok.n0
  have n8 := ok.n8
  have hl := ok.lv i
  have F0 := (Fr.refl w).alloc (.cells (cellsD s) 72)
  have h := heap_alloc_new w (.cells (cellsD s) 72)
  obtain ⟨c0, cl, cf⟩ := knownD h
  have hi16 : i < 16 := by omega
  have cv := knownDlv h hi16
  obtain ⟨k, hk⟩ : ∃ k : Nat, s.n = (k : Int) := ⟨s.n.toNat, by omega⟩
  rw [hk] at c0 hc n0 n8
  have hk8 : k ≤ 8 := by omega
  have hi0 : (0 : Int) ≤ i := by omega
  have hi16' : (i : Int) < 16 := by omega
  have d1 : decide ((0 : Int) ≤ i) = true := by simp
  have d2 : decide ((i : Int) < 2 * (k : Int)) = true := by simp; omega
  have hw2 : IntKind.i64.wrap (2 * (k : Int)) = 2 * (k : Int) := by rw [IntKind.wrap_i64]; omega
  obtain ⟨l, hll⟩ : ∃ l, s.lv i = l := ⟨_, rfl⟩
  rw [hll] at cv hl hr
  have HR := Lib.hid hr
  have HLV := Lib.hid (show l < 256 by omega)
  clear hr hll
  have a7 : ∀ w' : World, w'.heap[w.heap.size]? = some (.cells (cellsD s) 72) → (loadCellsFrom ⟨w.heap.size, 0, none⟩ 0 szD #[]).run Try.prog w' = .ok (cellsD s) w' := fun w' h => ldD h
  by_cases h0 : 0 < r
  all_goals
    go_enter Try.func36, Try.ntmps36
    go_wp2_with fail
    go_region_held3 (fun w' => ((Fr w.heap.size w w' ∧ w'.heap[w.heap.size]? = some (.cells (cellsD s) 72)) ∧ w'.cell? ⟨w.heap.size, 0, none⟩ = some (.int .i64 (k : Int))) ∧ w'.cell? ⟨w.heap.size, 641 + i, none⟩ = some (.int .i64 (l : Int)))
      (first | exact heldD ‹_› ‹_› | exact ⟨⟨⟨F0.drew, h⟩, c0⟩, cv⟩ | go_keep)
      (first
        | (go_at_call 48; refine (rbest_v HR.out _ ok hi16 HLV.out).mono ?_; rintro e w' ⟨rfl, hb⟩))
    rename_i w5 hS
    obtain ⟨⟨⟨hC, -⟩, -⟩, -⟩ := hS
    go_wp2
    go_ret
    exact ⟨by rw [HL.out]; simp [h0], hC.1⟩
theorem rline_any (s : PS) (c : Int) (w : World) (ok : OkP s) :
    Calls Try.prog 36 #[.agg (cellsD s), .int .i64 c] w fun e w' => e = .returned (.bool (lineP s c)) ∧ Below w.heap.size w w' := by
  by_cases hc : c < 0 ∨ 2 * s.n ≤ c
  · exact rline_out s c w ok hc
  · obtain ⟨i, rfl⟩ := Int.eq_ofNat_of_zero_le (by omega : 0 ≤ c)
    exact rline_in s i w ok (by omega)
theorem rline_v {s : PS} {c : Int} {q : Bool} (hr : lineP s c = q) (w : World) (ok : OkP s) :
    Calls Try.prog 36 #[.agg (cellsD s), .int .i64 c] w fun e w' => e = .returned (.bool q) ∧ Below w.heap.size w w' := by
  rw [← hr]; exact rline_any s c w ok
end Go.Proofs.Ytgelpapjmlbgfaa
