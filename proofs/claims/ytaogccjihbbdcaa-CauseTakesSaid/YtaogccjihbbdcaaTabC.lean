/- The contracts of cause.Find, cause.Name, cause.Of and their kin. -/
import Derived.Test.YtaogccjihbbdcaaTabB
namespace Go.Proofs.Ytaogccjihbbdcaa
open Go.RowKit
set_option linter.unusedSimpArgs false
set_option linter.unusedVariables false

theorem fr_out {w wr : World} {x : Obj} (h : Fr (w.heap.size + 1) (w.alloc x) wr) : Fr w.heap.size w wr :=
  ⟨((Below.refl _ w).alloc (Nat.le_refl _) x).trans (h.1.mono (by omega)), by have := h.2; omega⟩

theorem not_frozen {w : World} {b : Nat} {c : Array Value} {t : TypeId} (h : w.heap[b]? = some (.cells c t)) (o : Nat) : w.frozen? ⟨b, o, none⟩ = false := by
  simp [World.frozen?, h]
theorem two_cells {w : World} {b : Nat} {v0 v1 : Value} {t : TypeId} (h : w.heap[b]? = some (.cells #[v0, v1] t)) : w.cell? ⟨b, 0, none⟩ = some v0 ∧ w.cell? ⟨b, 1, none⟩ = some v1 := by
  rw [cell_at h, cell_at h]; exact ⟨rfl, rfl⟩

set_option maxRecDepth 100000 in
set_option maxHeartbeats 1000000 in
theorem cfind_any (s : ByteArray) (w : World) :
    Calls Try.prog 30 #[.string s] w fun e w' => e = .returned (optCause (findOf s)) ∧ Below w.heap.size w w' := by
  go_enter Try.func30, Try.ntmps30
  go_wp2_with (go_at_call 54; refine (all_any _).mono ?_; rintro e w1 ⟨b, rfl, hb, hh, hbel⟩)
  have hf : Fr (w.heap.size + 1) (w.alloc (.cells #[.bool false, .int .i64 0] 24)) w1 := ⟨by simpa using hbel, by simpa using hbel.size⟩
  have h0 : w1.heap[w.heap.size]? = some (.cells #[.bool false, .int .i64 0] 24) := keepB hbel (heap_alloc_new _ _)
  have hbw : w.heap.size + 1 ≤ b := by simpa using hb
  clear hbel hb
  go_loopw [8] (fun i wr => ∃ k : Nat, k ≤ 20 ∧ i = .int .i64 k ∧ Hid ((tab21.drop k).find? (fun r => r.2.2.toList == s.toList) = findOf s) ∧ Fr (w.heap.size + 1) (w.alloc (.cells #[.bool false, .int .i64 0] 24)) wr ∧ wr.heap[b]? = some (.cells cells21 86)) (fun i _ => 20 - (intOf i).toNat)
  case atStart => exact ⟨0, by omega, rfl, rfl, hf, hh⟩
  case round =>
    obtain ⟨k, hk, rfl, H, hfr, hhr⟩ := hrel
    have hr0 : wr.heap[w.heap.size]? = some (.cells #[.bool false, .int .i64 0] 24) := heapAt hfr.1 (heap_alloc_new _ _) (by omega)
    obtain ⟨z0, z1⟩ := two_cells hr0
    have zf := not_frozen hr0
    have zs := lt_of_at hr0
    have zb : b ≠ w.heap.size := by omega
    have hB := fr_out hfr
    by_cases hlt : k < 20
    · obtain ⟨c0, c1, c2⟩ := cells21_at hhr k hlt
      obtain ⟨r, hr⟩ : ∃ r, r = tab21.getD k default := ⟨_, rfl⟩
      have HS := find_step (fun r => r.2.2.toList == s.toList) k hlt
      rw [← hr] at c0 c1 c2 HS
      have HH : Hid (findOf s = if (r.2.2.toList == s.toList) = true then some r else (tab21.drop (k + 1)).find? (fun r => r.2.2.toList == s.toList)) := by rw [← H.out]; exact HS
      clear HS hr H
      go_wp2
      · refine bodyPost_ret (v := .tuple #[.agg #[.bool r.1, .int .i64 r.2.1], .bool true]) (by simp [results, Try.results30, go_sem, z0, z1, zs]) rfl ⟨?_, ?_⟩
        · rw [HH.out, if_pos (by assumption)]; rfl
        · (refine Fr.below ?_; repeat (first | exact hB | refine Fr.alloc ?_ _ | refine Fr.drew ?_ | refine Fr.setCell ?_ (by simp) _))
      · go_roundw
        case rel => exact ⟨k + 1, by omega, by go_num, by rw [HH.out, if_neg (by simp only [Bool.not_eq_true]; assumption)]; rfl, hfr.alloc _, keep_alloc hhr _⟩
        case measure => simp [intOf]; omega
    · obtain rfl : k = 20 := by omega
      go_wp2
      refine bodyPost_ret (v := .tuple #[.agg #[.bool false, .int .i64 0], .bool false]) (by simp [results, Try.results30, go_sem, z0, z1, zs]) rfl ⟨?_, ?_⟩
      · rw [← H.out]; rfl
      · (refine Fr.below ?_; repeat (first | exact hB | refine Fr.alloc ?_ _ | refine Fr.drew ?_ | refine Fr.setCell ?_ (by simp) _))

/-- The name of a cause. -/
def nameRow (i : Bool) (c : Int) : Option (Bool × Int × ByteArray) := tab21.find? fun r => r.1 == i && r.2.1 == c
def nameOf (i : Bool) (c : Int) : ByteArray := match nameRow i c with | some r => r.2.2 | none => ⟨#[]⟩

set_option maxRecDepth 100000 in
set_option maxHeartbeats 1000000 in
theorem cname_any (i : Bool) (c : Int) (w : World) :
    Calls Try.prog 25 #[.agg #[.bool i, .int .i64 c]] w fun e w' => e = .returned (.string (nameOf i c)) ∧ Below w.heap.size w w' := by
  go_enter Try.func25, Try.ntmps25
  go_wp2_with (go_at_call 54; refine (all_any _).mono ?_; rintro e w1 ⟨b, rfl, hb, hh, hbel⟩)
  have hf : Fr (w.heap.size + 1) (w.alloc (.cells #[.bool i, .int .i64 c] 24)) w1 := ⟨by simpa using hbel, by simpa using hbel.size⟩
  have hbw : w.heap.size + 1 ≤ b := by simpa using hb
  clear hbel hb
  go_loopw [7] (fun i' wr => ∃ k : Nat, k ≤ 20 ∧ i' = .int .i64 k ∧ Hid ((tab21.drop k).find? (fun r => r.1 == i && r.2.1 == c) = nameRow i c) ∧ Fr (w.heap.size + 1) (w.alloc (.cells #[.bool i, .int .i64 c] 24)) wr ∧ wr.heap[b]? = some (.cells cells21 86)) (fun i _ => 20 - (intOf i).toNat)
  case atStart => exact ⟨0, by omega, rfl, rfl, hf, hh⟩
  case round =>
    obtain ⟨k, hk, rfl, H, hfr, hhr⟩ := hrel
    have hr0 : wr.heap[w.heap.size]? = some (.cells #[.bool i, .int .i64 c] 24) := heapAt hfr.1 (heap_alloc_new _ _) (by omega)
    obtain ⟨z0, z1⟩ := two_cells hr0
    have zs := lt_of_at hr0
    have zb : b ≠ w.heap.size := by omega
    have hB := fr_out hfr
    by_cases hlt : k < 20
    · obtain ⟨c0, c1, c2⟩ := cells21_at hhr k hlt
      obtain ⟨r, hr⟩ : ∃ r, r = tab21.getD k default := ⟨_, rfl⟩
      have HS := find_step (fun r => r.1 == i && r.2.1 == c) k hlt
      rw [← hr] at c0 c1 c2 HS
      have HH : Hid (nameRow i c = if (r.1 == i && r.2.1 == c) = true then some r else (tab21.drop (k + 1)).find? (fun r => r.1 == i && r.2.1 == c)) := by rw [← H.out]; exact HS
      clear HS hr H
      go_wp2
      · go_ret
        refine ⟨?_, (hB.alloc _).1⟩
        have h1 : r.1 = i := by assumption
        have h2 : r.2.1 = c := by assumption
        unfold nameOf
        rw [HH.out, if_pos (by simp [h1, h2])]
        rfl
      · have h1 : r.1 = i := by assumption
        have h2 : ¬ r.2.1 = c := by assumption
        go_roundw
        case rel => exact ⟨k + 1, by omega, by go_num, by rw [HH.out, if_neg (by simp [h1, h2])]; rfl, hfr.alloc _, keep_alloc hhr _⟩
        case measure => simp [intOf]; omega
      · have h1 : ¬ r.1 = i := by assumption
        go_roundw
        case rel => exact ⟨k + 1, by omega, by go_num, by rw [HH.out, if_neg (by simp [h1])]; rfl, hfr.alloc _, keep_alloc hhr _⟩
        case measure => simp [intOf]; omega
    · obtain rfl : k = 20 := by omega
      go_wp2
      go_ret
      refine ⟨?_, hB.1⟩
      unfold nameOf
      rw [← H.out]
      rfl
end Go.Proofs.Ytaogccjihbbdcaa
