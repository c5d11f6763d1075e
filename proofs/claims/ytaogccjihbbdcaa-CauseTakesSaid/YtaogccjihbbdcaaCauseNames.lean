/- CauseNames: the name and the word of any cause, and the cause of any name and any word, is as the document says. -/
import Derived.Test.YtaogccjihbbdcaaCauseFirst
import Derived.Test.YtaogccjihbbdcaaWd
namespace Go.Proofs.Ytaogccjihbbdcaa
open Go.RowKit
set_option linter.unusedSimpArgs false
set_option linter.unusedVariables false

theorem optCause_form (o : Option (Bool × Int × ByteArray)) : ∃ (a : Bool) (b : Int) (k : Bool), optCause o = .tuple #[.agg #[.bool a, .int .i64 b], .bool k] := by
  cases o with
  | none => exact ⟨_, _, _, rfl⟩
  | some r => exact ⟨_, _, _, rfl⟩
theorem cfind_v {s : ByteArray} {v : Value} (h : optCause (findOf s) = v) (w : World) : Calls Try.prog 30 #[.string s] w fun e w' => e = .returned v ∧ Below w.heap.size w w' :=
  (cfind_any s w).mono fun e w' ⟨he, hb⟩ => ⟨by rw [he, h], hb⟩
theorem rfind_v {s : ByteArray} {v : Value} (h : optCause (findOf s) = v) (w : World) : Calls Try.prog 31 #[.string s] w fun e w' => e = .returned v ∧ Below w.heap.size w w' :=
  (rfind_any s w).mono fun e w' ⟨he, hb⟩ => ⟨by rw [he, h], hb⟩
theorem cof_v {x : Nat} {v : Value} (h : optCause (ofRow x) = v) (w : World) : Calls Try.prog 32 #[.int .u64 (x : Int)] w fun e w' => e = .returned v ∧ Below w.heap.size w w' :=
  (cof_any x w).mono fun e w' ⟨he, hb⟩ => ⟨by rw [he, h], hb⟩
theorem rof_v {x : Nat} {v : Value} (h : optCause (ofRow x) = v) (w : World) : Calls Try.prog 33 #[.int .u64 (x : Int)] w fun e w' => e = .returned v ∧ Below w.heap.size w w' :=
  (rof_any x w).mono fun e w' ⟨he, hb⟩ => ⟨by rw [he, h], hb⟩

set_option maxRecDepth 100000 in
set_option maxHeartbeats 2000000 in
theorem names_long (i : Bool) (c : Int) (x : Nat) (s : ByteArray) (w : World) (hx : x < 18446744073709551616) (hs : 50 < s.size) :
    Calls Try.prog 6 #[.agg #[.bool i, .int .i64 c], .int .u64 (x : Int), .string s] w fun e w' => e = .returned (.bool true) ∧ Below w.heap.size w w' := by
  go_enter Try.func6, Try.ntmps6
  go_wp2_with fail
  refine (live21 _).mono ?_
  rintro e w1 ⟨rfl, hb⟩
  go_wp2
  go_ret
  exact ⟨rfl, (((Fr.refl w).alloc _).step hb).1⟩

set_option maxRecDepth 100000 in
set_option maxHeartbeats 2000000 in
theorem names_short (i : Bool) (c : Int) (x : Nat) (s : ByteArray) (w : World) (hx : x < 18446744073709551616) (hs : s.size ≤ 50) :
    Calls Try.prog 6 #[.agg #[.bool i, .int .i64 c], .int .u64 (x : Int), .string s] w fun e w' => e = .returned (.bool true) ∧ Below w.heap.size w w' := by
  obtain ⟨fa, fb, fk, hff⟩ := optCause_form (findOf s)
  obtain ⟨oa, ob, ok, hoo⟩ := optCause_form (ofRow x)
  have HF := Lib.hid hff
  have HO := Lib.hid hoo
  clear hff hoo
  go_enter Try.func6, Try.ntmps6
  go_wp2_with fail
  go_region_held3 (fun w' => Fr w.heap.size w w' ∧ w'.cell? ⟨w.heap.size, 0, none⟩ = some (.bool i) ∧ w'.cell? ⟨w.heap.size, 1, none⟩ = some (.int .i64 c) ∧ w'.cell? ⟨w.heap.size + 1, 0, none⟩ = some (.bool i) ∧ w'.cell? ⟨w.heap.size + 1, 1, none⟩ = some (.int .i64 c))
    (first | exact held4 ‹_› ‹_› | (refine ⟨(((Fr.refl w).alloc _).alloc _).drew, ?_, ?_, ?_, ?_⟩ <;> go_keep) | go_keep)
    (first
      | (go_at_call 25; refine (cname_any _ _ _).mono ?_; rintro e w' ⟨rfl, hb⟩)
      | (go_at_call 27; refine (known_any _ _ _).mono ?_; rintro e w' ⟨rfl, hb⟩)
      | (go_at_call 28; refine (cword_any _ _ _).mono ?_; rintro e w' ⟨rfl, hb⟩)
      | (go_at_call 29; refine (rword_any _ _ _).mono ?_; rintro e w' ⟨rfl, hb⟩)
      | (go_at_call 26; refine (rname_any _ _ _).mono ?_; rintro e w' ⟨rfl, hb⟩))
  rename_i w1 hS
  obtain ⟨hC, -⟩ := hS
  go_wp2_with fail
  refine (cfind_v HF.out _).mono ?_
  rintro e w2 ⟨rfl, hb2⟩
  have hC := hC.step hb2
  have hwl2 : w.heap.size ≤ w2.heap.size := hC.2
  go_wp2_with fail
  refine (rfind_v HF.out _).mono ?_
  rintro e w3 ⟨rfl, hb3⟩
  have hC := (hC.alloc _).step hb3
  have hwl3 : w.heap.size ≤ w3.heap.size := hC.2
  obtain ⟨y0, y1, yl, yf⟩ := known2 (keepB hb3 (heap_alloc_new _ _))
  go_wp2_with fail
  refine (cof_v HO.out _).mono ?_
  rintro e w4 ⟨rfl, hb4⟩
  have hC := (hC.alloc _).step hb4
  have k8 := keepB hb4 (keep_alloc (keepB hb3 (heap_alloc_new _ _)) _)
  have k10 := keepB hb4 (heap_alloc_new _ _)
  obtain ⟨y0, y1, yl, yf⟩ := known2 k8
  obtain ⟨z0, z1, zl, zf⟩ := known2 k10
  have hne : w2.heap.size ≠ w3.heap.size := by have := lt_of_at (keepB hb3 (heap_alloc_new _ _)); omega
  go_wp2_with fail
  refine (rof_v HO.out _).mono ?_
  rintro e w5 ⟨rfl, hb5⟩
  have hC := (hC.two hwl2 _ _).step hb5
  have k8 := keepB hb5 (set_two k8 _ _)
  have k10 := keepB hb5 (keep_two k10 hne _ _)
  obtain ⟨y0, y1, yl, yf⟩ := known2 k8
  obtain ⟨z0, z1, zl, zf⟩ := known2 k10
  have k8 := keep_two k8 hne.symm (.bool oa) (.int .i64 ob)
  have k10 := set_two k10 (.bool oa) (.int .i64 ob)
  have hC := hC.two hwl3 (.bool oa) (.int .i64 ob)
  go_wp2_with fail
  refine (live21 _).mono ?_
  rintro e w6 ⟨rfl, hb6⟩
  go_wp2
  go_ret
  exact ⟨rfl, (hC.step hb6).1⟩

theorem causeNames_walk (i : Bool) (c : Int) (x : Nat) (s : ByteArray) (w : World) (hx : x < 18446744073709551616) (hs : s.size ≤ 9223372036854775807) :
    Calls Try.prog 6 #[.agg #[.bool i, .int .i64 c], .int .u64 (x : Int), .string s] w fun e w' => e = .returned (.bool true) ∧ Below w.heap.size w w' := by
  by_cases h : s.size ≤ 50
  · exact names_short i c x s w hx h
  · exact names_long i c x s w hx (by omega)
end Go.Proofs.Ytaogccjihbbdcaa
