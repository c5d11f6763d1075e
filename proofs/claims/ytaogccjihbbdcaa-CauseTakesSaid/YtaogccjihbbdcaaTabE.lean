/- The contracts of roebuckref21.Name, both Of, Known. -/
import Derived.Test.YtaogccjihbbdcaaTabD
import Derived.Deep.QuietTactic
import Derived.BigQuiet
namespace Go.Proofs.Ytaogccjihbbdcaa
open Go.RowKit
set_option linter.unusedSimpArgs false
set_option linter.unusedVariables false

/-- A cell that is known in w is there behind what is new alone. -/
theorem keepc {w w' : World} (hb : Below w.heap.size w w') {b o : Nat} {v : Value} (h : w.cell? ⟨b, o, none⟩ = some v) : w'.cell? ⟨b, o, none⟩ = some v := by
  have hlt : b < w.heap.size := by
    rcases Nat.lt_or_ge b w.heap.size with h1 | h1
    · exact h1
    · simp [World.cell?, Array.getElem?_eq_none h1] at h
  rw [hb.cell (p := ⟨b, o, none⟩) hlt]; exact h

theorem eql_rc (a c : Bool) (b d : Int) (w : World) : (binOp .eql 27 (.agg #[.bool a, .int .i64 b]) (.agg #[.bool c, .int .i64 d])).run Try.prog w = .ok (.bool (a == c && b == d)) w := by
  by_cases h1 : a = c
  · subst h1
    by_cases h2 : b = d
    · subst h2
      go_simp
    · go_simp
      try simp [h2]
  · go_simp
    try simp [h1]

set_option maxRecDepth 100000 in
set_option maxHeartbeats 1000000 in
theorem rname_any (i : Bool) (c : Int) (w : World) :
    Calls Try.prog 26 #[.agg #[.bool i, .int .i64 c]] w fun e w' => e = .returned (.string (nameOf i c)) ∧ Below w.heap.size w w' := by
  go_enter Try.func26, Try.ntmps26
  go_wp2_with (go_at_call 55; refine (rows21_any _).mono ?_; rintro e w' ⟨rfl, rfl⟩)
  obtain ⟨w1, hw1⟩ : ∃ w1, w1 = (w.alloc (.cells #[.bool i, .int .i64 c] 27)).alloc (.cells cells21 90) := ⟨_, rfl⟩
  have hf : Fr (w.heap.size + 2) w1 w1 := ⟨Below.refl _ _, by rw [hw1]; simp⟩
  have hB0 : Fr w.heap.size w w1 := by rw [hw1]; exact ((Fr.refl w).alloc _).alloc _
  have hh : w1.heap[w.heap.size + 1]? = some (.cells cells21 90) := by rw [hw1]; simpa using @heap_alloc_new (w.alloc (.cells #[.bool i, .int .i64 c] 27)) (.cells cells21 90)
  have h0 : w1.heap[w.heap.size]? = some (.cells #[.bool i, .int .i64 c] 27) := by rw [hw1]; exact keep_alloc (heap_alloc_new _ _) _
  rw [← hw1]
  clear hw1
  go_loopw [4] (fun i' wr => ∃ k : Nat, k ≤ 20 ∧ i' = .int .i64 k ∧ Hid ((tab21.drop k).find? (fun r => r.1 == i && r.2.1 == c) = nameRow i c) ∧ Fr (w.heap.size + 2) w1 wr) (fun i _ => 20 - (intOf i).toNat)
  case atStart => exact ⟨0, by omega, rfl, rfl, hf⟩
  case round =>
    obtain ⟨k, hk, rfl, H, hfr⟩ := hrel
    have hhr := heapAt hfr.1 hh (by omega)
    have hr0 := heapAt hfr.1 h0 (by omega)
    obtain ⟨z0, z1⟩ := two_cells hr0
    have hB : Fr w.heap.size w wr := ⟨hB0.1.trans (hfr.1.mono (by omega)), by have := hfr.2; omega⟩
    by_cases hlt : k < 20
    · obtain ⟨c0, c1, c2⟩ := cells21_at hhr k hlt
      obtain ⟨r, hr⟩ : ∃ r, r = tab21.getD k default := ⟨_, rfl⟩
      have HS := find_step (fun r => r.1 == i && r.2.1 == c) k hlt
      rw [← hr] at c0 c1 c2 HS
      have HH : Hid (nameRow i c = if (r.1 == i && r.2.1 == c) = true then some r else (tab21.drop (k + 1)).find? (fun r => r.1 == i && r.2.1 == c)) := by rw [← H.out]; exact HS
      clear HS hr H
      go_wp2
      have he := eql_rc r.1 i r.2.1 c
      go_quiet (fail)
      go_wp2
      · go_ret
        have h1 : (r.1 == i) = true ∧ (r.2.1 == c) = true := by assumption
        refine ⟨?_, (hB.drewN _).1⟩
        unfold nameOf
        rw [HH.out, if_pos (by rw [h1.1, h1.2]; rfl)]
        rfl
      · have h1 : (r.1 == i) = false ∨ (r.2.1 == c) = false := by assumption
        go_roundw
        case rel => exact ⟨k + 1, by omega, by go_num, by rw [HH.out, if_neg (by rcases h1 with h1 | h1 <;> simp [h1])]; rfl, hfr.drewN _⟩
        case measure => simp [intOf]; omega
    · obtain rfl : k = 20 := by omega
      go_wp2
      go_ret
      refine ⟨?_, hB.1⟩
      unfold nameOf
      rw [← H.out]
      rfl

def ofRow (x : Nat) : Option (Bool × Int × ByteArray) := tab21.find? fun r => wordOf r.1 r.2.1 == x

set_option maxRecDepth 100000 in
set_option maxHeartbeats 1000000 in
theorem cof_any (x : Nat) (w : World) :
    Calls Try.prog 32 #[.int .u64 (x : Int)] w fun e w' => e = .returned (optCause (ofRow x)) ∧ Below w.heap.size w w' := by
  go_enter Try.func32, Try.ntmps32
  go_wp2_with (go_at_call 54; refine (all_any _).mono ?_; rintro e w1 ⟨b, rfl, hb, hh, hbel⟩)
  have hf : Fr (w.heap.size + 1) (w.alloc (.cells #[.bool false, .int .i64 0] 24)) w1 := ⟨by simpa using hbel, by simpa using hbel.size⟩
  have hbw : w.heap.size + 1 ≤ b := by simpa using hb
  clear hbel hb
  go_loopw [8] (fun i wr => ∃ k : Nat, k ≤ 20 ∧ i = .int .i64 k ∧ Hid ((tab21.drop k).find? (fun r => wordOf r.1 r.2.1 == x) = ofRow x) ∧ Fr (w.heap.size + 1) (w.alloc (.cells #[.bool false, .int .i64 0] 24)) wr ∧ wr.heap[b]? = some (.cells cells21 86)) (fun i _ => 20 - (intOf i).toNat)
  case atStart => exact ⟨0, by omega, rfl, rfl, hf, hh⟩
  case round =>
    obtain ⟨k, hk, rfl, H, hfr, hhr⟩ := hrel
    have hr0 : wr.heap[w.heap.size]? = some (.cells #[.bool false, .int .i64 0] 24) := heapAt hfr.1 (heap_alloc_new _ _) (by omega)
    obtain ⟨z0, z1⟩ := two_cells hr0
    have zf := not_frozen hr0
    have zs := lt_of_at hr0
    have zb : b ≠ w.heap.size := by omega
    have hB := fr_out hfr
    by_cases hlt : k < 20
    · obtain ⟨c0, c1, c2⟩ := cells21_at hhr k hlt
      obtain ⟨r, hr⟩ : ∃ r, r = tab21.getD k default := ⟨_, rfl⟩
      have HS := find_step (fun r => wordOf r.1 r.2.1 == x) k hlt
      rw [← hr] at c0 c1 c2 HS
      have HH : Hid (ofRow x = if (wordOf r.1 r.2.1 == x) = true then some r else (tab21.drop (k + 1)).find? (fun r => wordOf r.1 r.2.1 == x)) := by rw [← H.out]; exact HS
      clear HS hr H
      go_wp2_with fail
      refine (cword_any _ _ _).mono ?_
      rintro e w2 ⟨rfl, hb2⟩
      have hnew := keepB hb2 (heap_alloc_new _ _)
      have hold := keepB hb2 (keep_alloc hr0 _)
      have htab := keepB hb2 (keep_alloc hhr _)
      obtain ⟨y0, y1⟩ := two_cells hold
      have yf := not_frozen hold
      have ys := lt_of_at hold
      have yn := lt_of_at hnew
      have n0 := cell_at (o := 0) hnew
      have n1 := cell_at (o := 1) hnew
      simp at n0 n1
      go_wp2
      · have h1 : ((wordOf r.1 r.2.1 : Nat) : Int) == (x : Int) := by assumption
        have hC : Fr w.heap.size w w2 := (hB.alloc _).step hb2
        refine bodyPost_ret (v := .tuple #[.agg #[.bool r.1, .int .i64 r.2.1], .bool true]) (by simp [results, Try.results32, go_sem, y0, y1, ys]) rfl ⟨?_, ?_⟩
        · rw [HH.out, if_pos (by simp at h1 ⊢; omega)]; rfl
        · (refine Fr.below ?_; repeat (first | exact hC | refine Fr.alloc ?_ _ | refine Fr.drew ?_ | refine Fr.setCell ?_ (by simp) _))
      · have h1 : (((wordOf r.1 r.2.1 : Nat) : Int) == (x : Int)) = false := by assumption
        go_roundw
        case rel => exact ⟨k + 1, by omega, by go_num, by rw [HH.out, if_neg (by simp at h1 ⊢; omega)]; rfl, (hfr.alloc _).step hb2, htab⟩
        case measure => simp [intOf]; omega
    · obtain rfl : k = 20 := by omega
      go_wp2
      refine bodyPost_ret (v := .tuple #[.agg #[.bool false, .int .i64 0], .bool false]) (by simp [results, Try.results32, go_sem, z0, z1, zs]) rfl ⟨?_, ?_⟩
      · rw [← H.out]; rfl
      · refine Fr.below ?_; repeat (first | exact hB | refine Fr.alloc ?_ _ | refine Fr.drew ?_ | refine Fr.setCell ?_ (by simp) _)

set_option maxRecDepth 100000 in
set_option maxHeartbeats 1000000 in
theorem rof_any (x : Nat) (w : World) :
    Calls Try.prog 33 #[.int .u64 (x : Int)] w fun e w' => e = .returned (optCause (ofRow x)) ∧ Below w.heap.size w w' := by
  go_enter Try.func33, Try.ntmps33
  go_wp2_with (go_at_call 55; refine (rows21_any _).mono ?_; rintro e w' ⟨rfl, rfl⟩)
  obtain ⟨w1, hw1⟩ : ∃ w1, w1 = (w.alloc (.cells #[.bool false, .int .i64 0] 27)).alloc (.cells cells21 90) := ⟨_, rfl⟩
  have hf : Fr (w.heap.size + 1) (w.alloc (.cells #[.bool false, .int .i64 0] 27)) w1 := by rw [hw1]; simpa using (Fr.refl (w.alloc (.cells #[.bool false, .int .i64 0] 27))).alloc _
  have hh : w1.heap[w.heap.size + 1]? = some (.cells cells21 90) := by rw [hw1]; simpa using @heap_alloc_new (w.alloc (.cells #[.bool false, .int .i64 0] 27)) (.cells cells21 90)
  rw [← hw1]
  clear hw1
  go_loopw [5] (fun i wr => ∃ k : Nat, k ≤ 20 ∧ i = .int .i64 k ∧ Hid ((tab21.drop k).find? (fun r => wordOf r.1 r.2.1 == x) = ofRow x) ∧ Fr (w.heap.size + 1) (w.alloc (.cells #[.bool false, .int .i64 0] 27)) wr ∧ wr.heap[w.heap.size + 1]? = some (.cells cells21 90)) (fun i _ => 20 - (intOf i).toNat)
  case atStart => exact ⟨0, by omega, rfl, rfl, hf, hh⟩
  case round =>
    obtain ⟨k, hk, rfl, H, hfr, hhr⟩ := hrel
    have hr0 : wr.heap[w.heap.size]? = some (.cells #[.bool false, .int .i64 0] 27) := heapAt hfr.1 (heap_alloc_new _ _) (by omega)
    obtain ⟨z0, z1⟩ := two_cells hr0
    have zf := not_frozen hr0
    have zs := lt_of_at hr0
    have hB := fr_out hfr
    by_cases hlt : k < 20
    · obtain ⟨c0, c1, c2⟩ := cells21_at hhr k hlt
      obtain ⟨r, hr⟩ : ∃ r, r = tab21.getD k default := ⟨_, rfl⟩
      have HS := find_step (fun r => wordOf r.1 r.2.1 == x) k hlt
      rw [← hr] at c0 c1 c2 HS
      have HH : Hid (ofRow x = if (wordOf r.1 r.2.1 == x) = true then some r else (tab21.drop (k + 1)).find? (fun r => wordOf r.1 r.2.1 == x)) := by rw [← H.out]; exact HS
      clear HS hr H
      go_wp2_with fail
      refine (rword_any _ _ _).mono ?_
      rintro e w2 ⟨rfl, hb2⟩
      have hold := keepB hb2 hr0
      have htab := keepB hb2 hhr
      obtain ⟨y0, y1⟩ := two_cells hold
      have yf := not_frozen hold
      have ys := lt_of_at hold
      have n0 := (keepc hb2 c0)
      have n1 := (keepc hb2 c1)
      go_wp2
      · have h1 : ((wordOf r.1 r.2.1 : Nat) : Int) == (x : Int) := by assumption
        have hC : Fr w.heap.size w w2 := hB.step hb2
        refine bodyPost_ret (v := .tuple #[.agg #[.bool r.1, .int .i64 r.2.1], .bool true]) (by simp [results, Try.results33, go_sem, y0, y1, ys]) rfl ⟨?_, ?_⟩
        · rw [HH.out, if_pos (by simp at h1 ⊢; omega)]; rfl
        · (refine Fr.below ?_; repeat (first | exact hC | refine Fr.alloc ?_ _ | refine Fr.drew ?_ | refine Fr.setCell ?_ (by simp) _))
      · have h1 : (((wordOf r.1 r.2.1 : Nat) : Int) == (x : Int)) = false := by assumption
        go_roundw
        case rel => exact ⟨k + 1, by omega, by go_num, by rw [HH.out, if_neg (by simp at h1 ⊢; omega)]; rfl, hfr.step hb2, htab⟩
        case measure => simp [intOf]; omega
    · obtain rfl : k = 20 := by omega
      go_wp2
      refine bodyPost_ret (v := .tuple #[.agg #[.bool false, .int .i64 0], .bool false]) (by simp [results, Try.results33, go_sem, z0, z1, zs]) rfl ⟨?_, ?_⟩
      · rw [← H.out]; rfl
      · refine Fr.below ?_; repeat (first | exact hB | refine Fr.alloc ?_ _ | refine Fr.drew ?_ | refine Fr.setCell ?_ (by simp) _)

/-- 'Known' is that the name is not empty. -/
theorem known_any (i : Bool) (c : Int) (w : World) :
    Calls Try.prog 27 #[.agg #[.bool i, .int .i64 c]] w fun e w' => e = .returned (.bool (!(nameOf i c).toList.isEmpty)) ∧ Below w.heap.size w w' := by
  go_enter Try.func27, Try.ntmps27
  go_wp2_with (go_at_call 25; refine (cname_any _ _ _).mono ?_; rintro e w1 ⟨rfl, hb⟩)
  go_ret
  exact ⟨rfl, ((Fr.refl w).alloc _ |>.step hb).1⟩
end Go.Proofs.Ytaogccjihbbdcaa
