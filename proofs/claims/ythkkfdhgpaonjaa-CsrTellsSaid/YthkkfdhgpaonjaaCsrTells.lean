/- CsrTells: the name of any number, the number of any name, who may read and write it, and which of its bits. -/
import Derived.Test.YthkkfdhgpaonjaaCsrF
import Derived.Test.YthkkfdhgpaonjaaHeld
namespace Go.Proofs.Ythkkfdhgpaonjaa
open Go.RowKit
set_option linter.unusedSimpArgs false
set_option linter.unusedVariables false

theorem rrow_full (n : Int) : ∃ a : Int, rrowV n = .agg #[.int .i64 a, .string (nameOf19 n), .int .u64 (mask19 n : Nat)] ∧ (a != 0) = knownB n := by
  unfold rrowV nameOf19 mask19 knownB
  cases hr : row19 n with
  | none => exact ⟨0, rfl, rfl⟩
  | some r =>
    obtain ⟨h1, h2, h3⟩ := row19_some hr
    exact ⟨r.1, rfl, by simp; omega⟩
theorem rof_v {n : Int} {v : Value} (h : rrowV n = v) (w : World) : Calls Try.prog 25 #[.int .i64 n] w fun e w' => e = .returned v ∧ Below w.heap.size w w' := by
  rw [← h]; exact rof_row n w
theorem name_v {n : Int} {s : ByteArray} (h : nameOf19 n = s) (w : World) : Calls Try.prog 29 #[.int .i64 n] w fun e w' => e = .returned (.string s) ∧ Below w.heap.size w w' := by
  rw [← h]; exact name19_any n w
theorem cfind_v {s : ByteArray} {q : Int} (h : numOf s.toList = q) (w : World) : Calls Try.prog 26 #[.string s] w fun e w' => e = .returned (.tuple #[.int .i64 q, .bool (q != 0)]) ∧ Below w.heap.size w w' := by
  rw [← h]; exact cfind19_any s w
theorem number_v {s : ByteArray} {q : Int} (h : numOf s.toList = q) (w : World) : Calls Try.prog 27 #[.string s] w fun e w' => e = .returned (.int .i64 q) ∧ Below w.heap.size w w' := by
  rw [← h]; exact number_any s w

set_option maxRecDepth 100000 in
set_option maxHeartbeats 2000000 in
theorem tells_long (n p : Int) (s : ByteArray) (w : World) (hs : 50 < s.size) :
    Calls Try.prog 5 #[.int .i64 n, .int .i64 p, .string s] w fun e w' => e = .returned (.bool true) ∧ Below w.heap.size w w' := by
  go_enter Try.func5, Try.ntmps5
  go_wp2_with fail
  refine (live19_any _).mono ?_
  rintro e w1 ⟨rfl, hb⟩
  go_wp2
  go_ret
  exact ⟨rfl, hb⟩

set_option maxRecDepth 100000 in
set_option maxHeartbeats 2000000 in
theorem tells_short (n p : Int) (s : ByteArray) (w : World) (hs : s.size ≤ 50) :
    Calls Try.prog 5 #[.int .i64 n, .int .i64 p, .string s] w fun e w' => e = .returned (.bool true) ∧ Below w.heap.size w w' := by
  obtain ⟨a, hrow, hka⟩ := rrow_full n
  obtain ⟨nm, hnm⟩ : ∃ x, nameOf19 n = x := ⟨_, rfl⟩
  obtain ⟨m, hm⟩ : ∃ x, mask19 n = x := ⟨_, rfl⟩
  obtain ⟨kb, hk⟩ : ∃ x, knownB n = x := ⟨_, rfl⟩
  obtain ⟨q, hq⟩ : ∃ x, numOf s.toList = x := ⟨_, rfl⟩
  obtain ⟨l, hl⟩ : ∃ x, leastOf n = x := ⟨_, rfl⟩
  obtain ⟨o, ho⟩ : ∃ x, roOf n = x := ⟨_, rfl⟩
  obtain ⟨y0, hy0⟩ : ∃ x, mayB n p false = x := ⟨_, rfl⟩
  obtain ⟨y1, hy1⟩ : ∃ x, mayB n p true = x := ⟨_, rfl⟩
  rw [hnm, hm] at hrow
  rw [hk] at hka
  have HROW := Lib.hid hrow
  have HNM := Lib.hid hnm
  have HM := Lib.hid hm
  have HK := Lib.hid hk
  have HQ := Lib.hid hq
  have HL := Lib.hid hl
  have HO := Lib.hid ho
  have H0 := Lib.hid hy0
  have H1 := Lib.hid hy1
  clear hrow hnm hm hk hq hl ho hy0 hy1
  go_enter Try.func5, Try.ntmps5
  go_wp2_with fail
  refine (rof_v HROW.out _).mono ?_
  rintro e w1 ⟨rfl, hb1⟩
  have hC := (Fr.refl w).step hb1
  go_wp2_with fail
  refine (cfind_v HQ.out _).mono ?_
  rintro e w2 ⟨rfl, hb2⟩
  have hC := (hC.alloc _).step hb2
  go_wp2_with fail
  refine (number_v HQ.out _).mono ?_
  rintro e w3 ⟨rfl, hb3⟩
  have hC := hC.step hb3
  obtain ⟨z0, z1, z2, zl, zf⟩ := known3 (keepB hb3 (keepB hb2 (heap_alloc_new _ _)))
  go_wp2_with fail
  go_region_held3 (fun w' => Fr w.heap.size w w' ∧ w'.cell? ⟨w1.heap.size, 0, none⟩ = some (.int .i64 a) ∧ w'.cell? ⟨w1.heap.size, 1, none⟩ = some (.string nm) ∧ w'.cell? ⟨w1.heap.size, 2, none⟩ = some (.int .u64 (m : Int)))
    (first | exact held3 ‹_› ‹_› | exact ⟨hC.drew, z0, z1, z2⟩ | go_keep)
    (first
      | (go_at_call 28; refine (known_v HK.out _).mono ?_; rintro e w' ⟨rfl, hb⟩)
      | (go_at_call 29; refine (name_v HNM.out _).mono ?_; rintro e w' ⟨rfl, hb⟩)
      | (go_at_call 23; refine (mask_v HM.out _).mono ?_; rintro e w' ⟨rfl, hb⟩))
  rename_i w4 hS
  obtain ⟨hC, -⟩ := hS
  go_wp2_with fail
  refine (least_v HL.out _).mono ?_
  rintro e w5 ⟨rfl, hb5⟩
  go_wp2_with fail
  refine (rleast_v HL.out _).mono ?_
  rintro e w6 ⟨rfl, hb6⟩
  go_wp2_with fail
  refine (ro_v HO.out _).mono ?_
  rintro e w7 ⟨rfl, hb7⟩
  go_wp2_with fail
  refine (rro_v HO.out _).mono ?_
  rintro e w8 ⟨rfl, hb8⟩
  go_wp2_with fail
  refine (may_v H0.out _).mono ?_
  rintro e w9 ⟨rfl, hb9⟩
  go_wp2_with fail
  refine (rmay_v H0.out _).mono ?_
  rintro e w10 ⟨rfl, hb10⟩
  go_wp2_with fail
  refine (may_v H1.out _).mono ?_
  rintro e w11 ⟨rfl, hb11⟩
  go_wp2_with fail
  refine (rmay_v H1.out _).mono ?_
  rintro e w12 ⟨rfl, hb12⟩
  go_wp2_with fail
  refine (live19_any _).mono ?_
  rintro e w13 ⟨rfl, hb13⟩
  go_wp2
  go_ret
  exact ⟨rfl, (((((((((hC.step hb5).step hb6).step hb7).step hb8).step hb9).step hb10).step hb11).step hb12).step hb13).1⟩

theorem tells_any (n p : Int) (s : ByteArray) (w : World) (hs : s.size ≤ 9223372036854775807) :
    Calls Try.prog 5 #[.int .i64 n, .int .i64 p, .string s] w fun e w' => e = .returned (.bool true) ∧ Below w.heap.size w w' := by
  by_cases h : s.size ≤ 50
  · exact tells_short n p s w h
  · exact tells_long n p s w (by omega)
end Go.Proofs.Ythkkfdhgpaonjaa
