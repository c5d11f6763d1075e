/- CauseFirst: the interrupt that comes first among any is as the document says. -/
import Derived.Test.YtaogccjihbbdcaaLive21
namespace Go.Proofs.Ytaogccjihbbdcaa
open Go.RowKit
set_option linter.unusedSimpArgs false
set_option linter.unusedVariables false

theorem firstOf_mask (x : Nat) (hx : x < 18446744073709551616) : (bits BinOp.and IntKind.u64 (x : Int) 2730 != 0) = (firstOf x).isSome := by
  have h := u64_and_nat x 2730 hx (by omega)
  have e : (bits BinOp.and IntKind.u64 (x : Int) 2730 != 0) = decide (x &&& 2730 ≠ 0) := by
    show (bits BinOp.and IntKind.u64 (x : Int) ((2730 : Nat) : Int) != 0) = _
    rw [h, Bool.eq_iff_iff]
    simp
  rw [e]
  have key : x &&& 2730 = 0 ↔ x.testBit 1 = false ∧ x.testBit 3 = false ∧ x.testBit 5 = false ∧ x.testBit 7 = false ∧ x.testBit 9 = false ∧ x.testBit 11 = false := by
    constructor
    · intro h0
      have hb : ∀ i, (x.testBit i && Nat.testBit 2730 i) = false := fun i => by rw [← Nat.testBit_and, h0]; simp
      have one : ∀ i, Nat.testBit 2730 i = true → x.testBit i = false := fun i hi => by have := hb i; rw [hi] at this; simpa using this
      exact ⟨one 1 (by decide), one 3 (by decide), one 5 (by decide), one 7 (by decide), one 9 (by decide), one 11 (by decide)⟩
    · rintro ⟨h1, h3, h5, h7, h9, h11⟩
      apply Nat.eq_of_testBit_eq
      intro i
      rw [Nat.testBit_and, Nat.zero_testBit]
      by_cases hi : i < 12
      · have : i = 0 ∨ i = 1 ∨ i = 2 ∨ i = 3 ∨ i = 4 ∨ i = 5 ∨ i = 6 ∨ i = 7 ∨ i = 8 ∨ i = 9 ∨ i = 10 ∨ i = 11 := by omega
        rcases this with rfl | rfl | rfl | rfl | rfl | rfl | rfl | rfl | rfl | rfl | rfl | rfl <;> first | (rw [show Nat.testBit 2730 _ = false from by decide]; simp; done) | simp [*]
      · have : Nat.testBit 2730 i = false := Nat.testBit_lt_two_pow (Nat.lt_of_lt_of_le (by omega : 2730 < 2 ^ 12) (Nat.pow_le_pow_right (by omega) (by omega)))
        rw [this]; simp
  unfold firstOf
  by_cases h0 : x &&& 2730 = 0
  · obtain ⟨h1, h3, h5, h7, h9, h11⟩ := key.1 h0
    simp [h0, h1, h3, h5, h7, h9, h11]
  · have hn : ¬ (x.testBit 1 = false ∧ x.testBit 3 = false ∧ x.testBit 5 = false ∧ x.testBit 7 = false ∧ x.testBit 9 = false ∧ x.testBit 11 = false) := fun h => h0 (key.2 h)
    simp only [h0, ne_eq, not_false_eq_true, decide_true]
    symm
    revert hn
    cases x.testBit 1 <;> cases x.testBit 3 <;> cases x.testBit 5 <;> cases x.testBit 7 <;> cases x.testBit 9 <;> cases x.testBit 11 <;> simp

theorem two_pow_lt (c : Nat) (hc : c < 64) : 2 ^ c < 18446744073709551616 := by
  have : 2 ^ c < 2 ^ 64 := Nat.pow_lt_pow_right (by omega) hc
  simpa using this
theorem wrap_pow (c : Nat) (hc : c < 64) : IntKind.u64.wrap ((2 : Int) ^ c) = ((2 ^ c : Nat) : Int) := by
  have h := two_pow_lt c hc
  have e : ((2 : Int) ^ c) = ((2 ^ c : Nat) : Int) := by simp
  rw [e]
  generalize 2 ^ c = y at h
  simp [IntKind.wrap, IntKind.bits, IntKind.signed]
  omega
/-- x without bit c. -/
def dropBit (x c : Nat) : Nat := x &&& (18446744073709551615 - 2 ^ c)
theorem dropBit_lt (x c : Nat) (hx : x < 18446744073709551616) : dropBit x c < 18446744073709551616 := Nat.lt_of_le_of_lt Nat.and_le_left hx
theorem dropBit_val (x c : Nat) (hx : x < 18446744073709551616) (hc : c < 64) : bits BinOp.andNot IntKind.u64 (x : Int) (IntKind.u64.wrap ((2 : Int) ^ c)) = ((dropBit x c : Nat) : Int) := by
  rw [wrap_pow c hc]
  exact u64_andNot_nat x (2 ^ c) hx (two_pow_lt c hc)
theorem dropBit_bit (x c k : Nat) (hc : c < 64) (hk : k < 64) : (dropBit x c).testBit k = (x.testBit k && !decide (c = k)) := by
  unfold dropBit
  have e : 18446744073709551615 - 2 ^ c = 2 ^ 64 - (2 ^ c + 1) := by omega
  rw [Nat.testBit_and, e, Nat.testBit_two_pow_sub_succ (by simpa using two_pow_lt c hc), Nat.testBit_two_pow]
  simp [hk]
theorem or_val (c d : Nat) (hc : c < 64) (hd : d < 64) : bits BinOp.or IntKind.u64 (IntKind.u64.wrap ((2 : Int) ^ c)) (IntKind.u64.wrap ((2 : Int) ^ d)) = ((2 ^ c ||| 2 ^ d : Nat) : Int) := by
  rw [wrap_pow c hc, wrap_pow d hd]
  exact u64_or_nat (2 ^ c) (2 ^ d) (two_pow_lt c hc) (two_pow_lt d hd)
theorem or_lt (c d : Nat) (hc : c < 64) (hd : d < 64) : 2 ^ c ||| 2 ^ d < 18446744073709551616 :=
  Nat.or_lt_two_pow (n := 64) (two_pow_lt c hc) (two_pow_lt d hd)

theorem firstOf_code (x : Nat) (i : Int) (h : firstOf x = some i) : ∃ c : Nat, i = c ∧ c < 64 ∧ x.testBit c = true := by
  unfold firstOf at h
  split at h
  · cases h; exact ⟨11, rfl, by omega, by assumption⟩
  · split at h
    · cases h; exact ⟨3, rfl, by omega, by assumption⟩
    · split at h
      · cases h; exact ⟨7, rfl, by omega, by assumption⟩
      · split at h
        · cases h; exact ⟨9, rfl, by omega, by assumption⟩
        · split at h
          · cases h; exact ⟨1, rfl, by omega, by assumption⟩
          · split at h
            · cases h; exact ⟨5, rfl, by omega, by assumption⟩
            · cases h

theorem firstOf_mem (x : Nat) (i : Int) (h : firstOf x = some i) : i = 11 ∨ i = 3 ∨ i = 7 ∨ i = 9 ∨ i = 1 ∨ i = 5 := by
  revert h
  unfold firstOf
  cases x.testBit 11 <;> cases x.testBit 3 <;> cases x.testBit 7 <;> cases x.testBit 9 <;> cases x.testBit 1 <;> cases x.testBit 5 <;> simp <;> omega

theorem first_two (x c d : Nat) (hc64 : c < 64) (hc : firstOf x = some (c : Int)) (hd : firstOf (dropBit x c) = some (d : Int)) : firstOf (2 ^ c ||| 2 ^ d) = some (c : Int) := by
  obtain ⟨d', hd', hd64, hbit⟩ := firstOf_code _ _ hd
  obtain rfl : d = d' := by omega
  rw [dropBit_bit x c d hc64 hd64] at hbit
  have hne : c ≠ d := by intro h; rw [h] at hbit; simp at hbit
  have hxd : x.testBit d = true := by revert hbit; cases x.testBit d <;> simp
  have mc := firstOf_mem _ _ hc
  have md := firstOf_mem _ _ hd
  clear hd hbit hd'
  have mc' : c = 11 ∨ c = 3 ∨ c = 7 ∨ c = 9 ∨ c = 1 ∨ c = 5 := by omega
  have md' : d = 11 ∨ d = 3 ∨ d = 7 ∨ d = 9 ∨ d = 1 ∨ d = 5 := by omega
  clear mc md
  rcases mc' with rfl | rfl | rfl | rfl | rfl | rfl <;> rcases md' with rfl | rfl | rfl | rfl | rfl | rfl
  all_goals first
    | decide
    | (exfalso; exact hne rfl)
    | (exfalso; revert hc; unfold firstOf; rw [hxd]; cases x.testBit 11 <;> cases x.testBit 3 <;> cases x.testBit 7 <;> cases x.testBit 9 <;> cases x.testBit 1 <;> simp)

theorem known2 {w : World} {b : Nat} {v0 v1 : Value} {t : TypeId} (h : w.heap[b]? = some (.cells #[v0, v1] t)) :
    w.cell? ⟨b, 0, none⟩ = some v0 ∧ w.cell? ⟨b, 1, none⟩ = some v1 ∧ b < w.heap.size ∧ ∀ o, w.frozen? ⟨b, o, none⟩ = false :=
  ⟨(two_cells h).1, (two_cells h).2, lt_of_at h, not_frozen h⟩
theorem bit_test' (x k : Nat) (hx : x < 18446744073709551616) : (bits BinOp.and IntKind.u64 ((x : Int) / 2 ^ k) 1 == 1) = x.testBit k := by
  have := bit_test x k hx
  simpa using this

theorem cfirst_some (x : Nat) (c : Int) (hx : x < 18446744073709551616) (h : firstOf x = some c) (w : World) :
    Calls Try.prog 9 #[.int .u64 (x : Int)] w fun e w' => e = .returned (.tuple #[.agg #[.bool true, .int .i64 c], .bool true]) ∧ Below w.heap.size w w' :=
  (cfirst_any x w hx).mono fun e w' ⟨he, hb⟩ => ⟨by rw [he, h]; rfl, hb⟩
theorem cfirst_none (x : Nat) (hx : x < 18446744073709551616) (h : firstOf x = none) (w : World) :
    Calls Try.prog 9 #[.int .u64 (x : Int)] w fun e w' => e = .returned (.tuple #[.agg #[.bool false, .int .i64 0], .bool false]) ∧ Below w.heap.size w w' :=
  (cfirst_any x w hx).mono fun e w' ⟨he, hb⟩ => ⟨by rw [he, h]; rfl, hb⟩
theorem rfirst_some (x : Nat) (c : Int) (hx : x < 18446744073709551616) (h : firstOf x = some c) (w : World) :
    Calls Try.prog 10 #[.int .u64 (x : Int)] w fun e w' => e = .returned (.tuple #[.agg #[.bool true, .int .i64 c], .bool true]) ∧ Below w.heap.size w w' :=
  (rfirst_any x w hx).mono fun e w' ⟨he, hb⟩ => ⟨by rw [he, h]; rfl, hb⟩
theorem rfirst_none (x : Nat) (hx : x < 18446744073709551616) (h : firstOf x = none) (w : World) :
    Calls Try.prog 10 #[.int .u64 (x : Int)] w fun e w' => e = .returned (.tuple #[.agg #[.bool false, .int .i64 0], .bool false]) ∧ Below w.heap.size w w' :=
  (rfirst_any x w hx).mono fun e w' ⟨he, hb⟩ => ⟨by rw [he, h]; rfl, hb⟩

set_option maxRecDepth 100000 in
set_option maxHeartbeats 1000000 in
theorem walk_none (x : Nat) (w : World) (hx : x < 18446744073709551616) (hf : firstOf x = none) :
    Calls Try.prog 3 #[.int .u64 (x : Int)] w fun e w' => e = .returned (.bool true) ∧ Below w.heap.size w w' := by
  have hm := firstOf_mask x hx
  rw [hf] at hm
  have HF := Lib.hid hf
  clear hf
  go_enter Try.func3, Try.ntmps3
  go_wp2_with fail
  refine (cfirst_none x hx HF.out _).mono ?_
  rintro e w1 ⟨rfl, hb1⟩
  go_wp2_with fail
  refine (rfirst_none x hx HF.out _).mono ?_
  rintro e w2 ⟨rfl, hb2⟩
  obtain ⟨y0, y1⟩ := two_cells (keepB hb2 (heap_alloc_new _ _))
  have yl := lt_of_at (keepB hb2 (heap_alloc_new _ _))
  have hC := (((Fr.refl w).step hb1).alloc _).step hb2
  go_wp2_with fail
  refine (live21 _).mono ?_
  rintro e w3 ⟨rfl, hb3⟩
  go_wp2
  go_ret
  exact ⟨rfl, ((hC.alloc _).step hb3).1⟩

set_option maxRecDepth 100000 in
set_option maxHeartbeats 1000000 in
theorem walk_some (x c : Nat) (w : World) (hx : x < 18446744073709551616) (hc : c < 64) (hf : firstOf x = some (c : Int)) (hbx : x.testBit c = true) :
    Calls Try.prog 3 #[.int .u64 (x : Int)] w fun e w' => e = .returned (.bool true) ∧ Below w.heap.size w w' := by
  have hm := firstOf_mask x hx
  rw [hf] at hm
  have HF := Lib.hid hf
  clear hf
  go_enter Try.func3, Try.ntmps3
  go_wp2_with fail
  refine (cfirst_some x c hx HF.out _).mono ?_
  rintro e w1 ⟨rfl, hb1⟩
  go_wp2_with fail
  refine (rfirst_some x c hx HF.out _).mono ?_
  rintro e w2 ⟨rfl, hb2⟩
  obtain ⟨y0, y1⟩ := two_cells (keepB hb2 (heap_alloc_new _ _))
  have yl := lt_of_at (keepB hb2 (heap_alloc_new _ _))
  have hC := (((Fr.refl w).step hb1).alloc _).step hb2
  go_wp2_with fail
  rw [dropBit_val x c hx hc]
  have hy := dropBit_lt x c hx
  generalize hyx : dropBit x c = y at hy
  have HY := Lib.hid hyx
  clear hyx
  rcases hf2 : firstOf y with _ | i
  · have HG := Lib.hid hf2
    clear hf2
    refine (cfirst_none y hy HG.out _).mono ?_
    rintro e w3 ⟨rfl, hb3⟩
    obtain ⟨y0, y1, yl, yf⟩ := known2 (keepB hb3 (keep_alloc (keepB hb2 (heap_alloc_new _ _)) _))
    have hC := (hC.alloc _).step hb3
    have tb := bit_test' x c hx
    rw [hbx] at tb
    clear hm HF hbx
    go_wp2_with fail
    refine (live21 _).mono ?_
    rintro e w4 ⟨rfl, hb4⟩
    go_wp2
    go_ret
    exact ⟨rfl, ((hC.alloc _).step hb4).1⟩
  · obtain ⟨d, rfl, hd, hbd⟩ := firstOf_code y i hf2
    have HZ : Hid (firstOf (2 ^ c ||| 2 ^ d) = some (c : Int)) := first_two x c d hc HF.out (by rw [HY.out]; exact hf2)
    have HG := Lib.hid hf2
    clear hf2 hbd
    refine (cfirst_some y d hy HG.out _).mono ?_
    rintro e w3 ⟨rfl, hb3⟩
    obtain ⟨y0, y1, yl, yf⟩ := known2 (keepB hb3 (keep_alloc (keepB hb2 (heap_alloc_new _ _)) _))
    have hC := (hC.alloc _).step hb3
    clear hm
    go_wp2_with fail
    rw [or_val c d hc hd]
    refine (cfirst_some _ c (or_lt c d hc hd) HZ.out _).mono ?_
    rintro e w4 ⟨rfl, hb4⟩
    obtain ⟨y0, y1, yl, yf⟩ := known2 (keepB hb4 (keep_alloc (keepB hb3 (keep_alloc (keepB hb2 (heap_alloc_new _ _)) _)) _))
    have hC := (hC.alloc _).step hb4
    go_wp2_with fail
    refine (live21 _).mono ?_
    rintro e w5 ⟨rfl, hb5⟩
    go_wp2
    go_ret
    exact ⟨rfl, ((hC.alloc _).step hb5).1⟩

theorem causeFirst_walk (x : Nat) (w : World) (hx : x < 18446744073709551616) :
    Calls Try.prog 3 #[.int .u64 (x : Int)] w fun e w' => e = .returned (.bool true) ∧ Below w.heap.size w w' := by
  rcases hf : firstOf x with _ | i
  · exact walk_none x w hx hf
  · obtain ⟨c, rfl, hc, hb⟩ := firstOf_code x i hf
    exact walk_some x c w hx hc hf hb
end Go.Proofs.Ytaogccjihbbdcaa
