/- Layer 24: Waiting, Wakes, Next of the program's. -/
import Derived.Test.YthkkfdhgpaonjaaIrA
namespace Go.Proofs.Ythkkfdhgpaonjaa
open Go.RowKit
set_option linter.unusedSimpArgs false
set_option linter.unusedVariables false

theorem get_772 (s : FS) : getOf s 772 0 = s.g 10 := getOf_plain own772 (by omega) (by omega) (by omega) (by omega) (by omega) (by omega) (by omega) (by omega)
theorem own771 : ownIx 771 = some 9 := by decide +kernel
theorem get_771 (s : FS) : getOf s 771 0 = s.g 9 := getOf_plain own771 (by omega) (by omega) (by omega) (by omega) (by omega) (by omega) (by omega) (by omega)
theorem waitOf_lt {s : FS} (ok : OkF s) {L : Nat} (hL : L < 18446744073709551616) : waitOf s L < 18446744073709551616 := Nat.lt_of_le_of_lt Nat.and_le_right (ok.g 10)
theorem machOf_lt {s : FS} (ok : OkF s) {L : Nat} (hL : L < 18446744073709551616) : machOf s L < 18446744073709551616 := Nat.lt_of_le_of_lt Nat.and_le_left (waitOf_lt ok hL)
theorem supOf_lt {s : FS} (ok : OkF s) {L : Nat} (hL : L < 18446744073709551616) : supOf s L < 18446744073709551616 := Nat.lt_of_le_of_lt Nat.and_le_left (waitOf_lt ok hL)
theorem waiting_any (b : Nat) (s : FS) (L : Nat) (w : World) (ok : OkF s) (hL : L < 18446744073709551616) (h : w.heap[b]? = some (.cells (cellsF s) 31)) :
    Calls Try.prog 50 #[.pointer (some ⟨b, 0, none⟩), .int .u64 (L : Int)] w fun e w' => e = .returned (.int .u64 (waitOf s L : Int)) ∧ Below w.heap.size w w' := by
  obtain ⟨p, hp⟩ : ∃ x, getOf s 836 L = x := ⟨_, rfl⟩
  obtain ⟨q, hq⟩ : ∃ x, getOf s 772 0 = x := ⟨_, rfl⟩
  have p64 : p < 18446744073709551616 := by rw [← hp]; exact getOf_lt ok _ _ hL
  have q64 : q < 18446744073709551616 := by rw [← hq]; exact getOf_lt ok _ _ (by omega)
  have HW : Hid (((waitOf s L : Nat) : Int) = bits .and .u64 (p : Int) (q : Int)) := by
    show _ = _
    unfold waitOf
    rw [hp, ← get_772 s, hq]; exact (u64_and_nat p q p64 q64).symm
  have P := Lib.hid hp
  have Q := Lib.hid hq
  clear hp hq
  have F0 := Fr.refl w
  go_enter Try.func50, Try.ntmps50
  go_wp2_with fail
  refine (get_v P.out _ ok hL h).mono ?_
  rintro e w1 ⟨rfl, hb1⟩
  have h1 := keepB hb1 h
  go_wp2_with fail
  refine (get_v (L := 0) Q.out _ ok (by omega) h1).mono ?_
  rintro e w2 ⟨rfl, hb2⟩
  go_wp2
  go_ret
  exact ⟨by rw [HW.out]; rfl, ((F0.step hb1).step hb2).1⟩
theorem waiting_v {b : Nat} {s : FS} {L y : Nat} (hy : waitOf s L = y) (w : World) (ok : OkF s) (hL : L < 18446744073709551616) (h : w.heap[b]? = some (.cells (cellsF s) 31)) :
    Calls Try.prog 50 #[.pointer (some ⟨b, 0, none⟩), .int .u64 (L : Int)] w fun e w' => e = .returned (.int .u64 (y : Int)) ∧ Below w.heap.size w w' := by
  rw [← hy]; exact waiting_any b s L w ok hL h
theorem waiting_nil (L : Nat) (w : World) :
    Calls Try.prog 50 #[.pointer none, .int .u64 (L : Int)] w fun e w' => e = .returned (.int .u64 0) ∧ Below w.heap.size w w' := by
  go_enter Try.func50, Try.ntmps50
  go_wp2
  go_ret
  exact ⟨rfl, Below.refl _ _⟩
theorem wakes_v {b : Nat} {s : FS} {L y : Nat} (hy : waitOf s L = y) (w : World) (ok : OkF s) (hL : L < 18446744073709551616) (h : w.heap[b]? = some (.cells (cellsF s) 31)) :
    Calls Try.prog 51 #[.pointer (some ⟨b, 0, none⟩), .int .u64 (L : Int)] w fun e w' => e = .returned (.bool ((y : Int) != 0)) ∧ Below w.heap.size w w' := by
  go_enter Try.func51, Try.ntmps51
  go_wp2_with fail
  refine (waiting_v hy _ ok hL h).mono ?_
  rintro e w1 ⟨rfl, hb1⟩
  go_wp2
  go_ret
  exact ⟨rfl, hb1⟩
theorem wakes_nil (L : Nat) (w : World) :
    Calls Try.prog 51 #[.pointer none, .int .u64 (L : Int)] w fun e w' => e = .returned (.bool false) ∧ Below w.heap.size w w' := by
  go_enter Try.func51, Try.ntmps51
  go_wp2_with fail
  refine (waiting_nil L _).mono ?_
  rintro e w1 ⟨rfl, hb1⟩
  go_wp2
  go_ret
  exact ⟨rfl, hb1⟩
theorem ilets_v {x : Nat} {p t : Int} {y : Bool} (h : letsOf x p t = y) (w : World) (hx : x < 18446744073709551616) :
    Calls Try.prog 71 #[.int .u64 (x : Int), .int .i64 p, .int .i64 t] w fun e w' => e = .returned (.bool y) ∧ w = w' := by
  rw [← h]; exact lets_any x p t w hx
theorem irlets_v {x : Nat} {p t : Int} {y : Bool} (h : letsOf x p t = y) (w : World) (hx : x < 18446744073709551616) :
    Calls Try.prog 94 #[.int .u64 (x : Int), .int .i64 p, .int .i64 t] w fun e w' => e = .returned (.bool y) ∧ w = w' := by
  rw [← h]; exact rlets_any x p t w hx
theorem cfirst_v {x : Nat} {y : Option Int} (h : firstOf x = y) (w : World) (hx : x < 18446744073709551616) :
    Calls Try.prog 72 #[.int .u64 (x : Int)] w fun e w' => e = .returned (causeV y) ∧ Below w.heap.size w w' := by
  rw [← h]; exact cfirst_any x w hx
theorem rfirst_v {x : Nat} {y : Option Int} (h : firstOf x = y) (w : World) (hx : x < 18446744073709551616) :
    Calls Try.prog 95 #[.int .u64 (x : Int)] w fun e w' => e = .returned (causeV y) ∧ Below w.heap.size w w' := by
  rw [← h]; exact rfirst_any x w hx
theorem ix_0 (a b c d : Value) (w : World) : (Instr.index 119 (.agg #[a, b, c, d]) (.int .i64 0)).run Try.prog w = .ok (.agg #[a, b]) w := by kernel_rfl
theorem ix_1 (a b c d : Value) (w : World) : (Instr.index 119 (.agg #[a, b, c, d]) (.int .i64 1)).run Try.prog w = .ok (.agg #[c, d]) w := by kernel_rfl
theorem not_val (d : Nat) (hd : d < 18446744073709551616) : bits .xor .u64 IntKind.u64.max (d : Int) = ((18446744073709551615 - d : Nat) : Int) := by
  have h := u64_xor_nat 18446744073709551615 d (by omega) hd
  have e : 18446744073709551615 ^^^ d = 18446744073709551615 - d := by
    refine ext64 (Nat.xor_lt_two_pow (n := 64) (by omega) hd) (by omega) fun i hi => ?_
    rw [Nat.testBit_xor, ones_sub d i hd, show (18446744073709551615 : Nat) = 2 ^ 64 - 1 from by omega, Nat.testBit_two_pow_sub_one]
    cases d.testBit i <;> simp [hi]
  rw [e] at h
  exact h
theorem firstOf_zero : firstOf 0 = none := by decide
theorem next_zero {s : FS} {p : Int} {L : Nat} (h : waitOf s L = 0) : nextOf s p L = none := by
  unfold nextOf supN machOf supOf
  simp [h, firstOf_zero]
theorem next_nil (p : Int) (L : Nat) (w : World) :
    Calls Try.prog 18 #[.pointer none, .int .i64 p, .int .u64 (L : Int)] w fun e w' => e = .returned (causeV none) ∧ Below w.heap.size w w' := by
  have z0 := heap_alloc_new w (.cells #[.bool false, .int .i64 0] 24)
  have F0 := (Fr.refl w).alloc (.cells #[.bool false, .int .i64 0] 24)
  go_enter Try.func18, Try.ntmps18
  go_wp2_with fail
  refine (waiting_nil L _).mono ?_
  rintro e w1 ⟨rfl, hb1⟩
  have z1 := keepB hb1 z0
  obtain ⟨y0, y1⟩ := two_cells z1
  have yf := not_frozen z1
  have ys := lt_of_at z1
  have F1 := F0.step hb1
  go_wp2
  refine bodyPost_ret (v := .tuple #[.agg #[.bool false, .int .i64 0], .bool false]) (by simp [results, Try.results18, go_sem, y0, y1, ys]) rfl ⟨rfl, ?_⟩
  refine Fr.below ?_; repeat (first | exact F1 | refine Fr.alloc ?_ _ | refine Fr.drew ?_ | refine Fr.setCell ?_ (by simp) _)
set_option maxRecDepth 100000 in
set_option maxHeartbeats 4000000 in
theorem next_any (b : Nat) (s : FS) (p : Int) (L : Nat) (w : World) (ok : OkF s) (hL : L < 18446744073709551616) (h : w.heap[b]? = some (.cells (cellsF s) 31)) :
    Calls Try.prog 18 #[.pointer (some ⟨b, 0, none⟩), .int .i64 p, .int .u64 (L : Int)] w fun e w' => e = .returned (causeV (nextOf s p L)) ∧ Below w.heap.size w w' := by
  obtain ⟨x, hx⟩ : ∃ x, waitOf s L = x := ⟨_, rfl⟩
  obtain ⟨d, hd⟩ : ∃ x, getOf s 771 0 = x := ⟨_, rfl⟩
  obtain ⟨st, hst⟩ : ∃ x, getOf s 768 0 = x := ⟨_, rfl⟩
  have hx64 : x < 18446744073709551616 := by rw [← hx]; exact waitOf_lt ok hL
  have hd64 : d < 18446744073709551616 := by rw [← hd]; exact getOf_lt ok _ _ (by omega)
  have hst64 : st < 18446744073709551616 := by rw [← hst]; exact getOf_lt ok _ _ (by omega)
  obtain ⟨b3, hb3⟩ : ∃ y, letsOf st p 3 = y := ⟨_, rfl⟩
  obtain ⟨b1, hb1'⟩ : ∃ y, letsOf st p 1 = y := ⟨_, rfl⟩
  obtain ⟨m, hm⟩ : ∃ y, x &&& (18446744073709551615 - d) = y := ⟨_, rfl⟩
  obtain ⟨u, hu⟩ : ∃ y, x &&& d = y := ⟨_, rfl⟩
  obtain ⟨fm, hfm⟩ : ∃ y, firstOf m = y := ⟨_, rfl⟩
  obtain ⟨fu, hfu⟩ : ∃ y, firstOf u = y := ⟨_, rfl⟩
  have hm64 : m < 18446744073709551616 := by rw [← hm]; exact Nat.lt_of_le_of_lt Nat.and_le_left hx64
  have hu64 : u < 18446744073709551616 := by rw [← hu]; exact Nat.lt_of_le_of_lt Nat.and_le_left hx64
  have HN : Hid (nextOf s p L = if b3 = true ∧ fm.isSome = true then fm else if b1 = true then fu else none) := by
    show _ = _
    unfold nextOf supN machOf supOf
    rw [hx, ← get_771 s, hd, hm, hu, show s.g 7 = st from hst, hb3, hb1', hfm, hfu]
  have HM : Hid (bits .and .u64 (x : Int) (bits .xor .u64 IntKind.u64.max (d : Int)) = ((m : Nat) : Int)) := by
    show _ = _; rw [← hm, not_val d hd64]; exact u64_and_nat x _ hx64 (by omega)
  have HU : Hid (bits .and .u64 (x : Int) (d : Int) = ((u : Nat) : Int)) := by
    show _ = _; rw [← hu]; exact u64_and_nat x _ hx64 hd64
  have HZ : Hid (x = 0 → nextOf s p L = none) := by
    show _ → _; intro e; exact next_zero (by rw [hx, e])
  have X := Lib.hid hx
  have D := Lib.hid hd
  have ST := Lib.hid hst
  have B3 := Lib.hid hb3
  have B1 := Lib.hid hb1'
  have FM := Lib.hid hfm
  have FU := Lib.hid hfu
  clear hx hd hst hb3 hb1' hm hu hfm hfu
  have i0 := ix_0
  have i1 := ix_1
  have z0 := heap_alloc_new w (.cells #[.bool false, .int .i64 0] 24)
  have k0 := keep_alloc h (.cells #[.bool false, .int .i64 0] 24)
  have F0 := (Fr.refl w).alloc (.cells #[.bool false, .int .i64 0] 24)
  go_enter Try.func18, Try.ntmps18
  go_wp2_with fail
  refine (waiting_v X.out _ ok hL k0).mono ?_
  rintro e w1 ⟨rfl, hb1⟩
  have z1 := keepB hb1 z0
  have k1 := keepB hb1 k0
  have F1 := F0.step hb1
  clear z0 k0 F0
  by_cases hx0 : x = 0
  · have HNN := HZ.out hx0
    obtain ⟨y0, y1⟩ := two_cells z1
    have yf := not_frozen z1
    have ys := lt_of_at z1
    have hx1 : ((x : Int) == 0) = true := by simp; omega
    go_wp2
    refine bodyPost_ret (v := .tuple #[.agg #[.bool false, .int .i64 0], .bool false]) (by simp [results, Try.results18, go_sem, y0, y1, ys]) rfl ⟨by rw [HNN]; rfl, ?_⟩
    refine Fr.below ?_; repeat (first | exact F1 | refine Fr.alloc ?_ _ | refine Fr.drew ?_ | refine Fr.setCell ?_ (by simp) _)
  have hx1 : ((x : Int) == 0) = false := by simp; omega
  clear HZ
  go_wp2_with fail
  refine (get_v (L := 0) D.out _ ok (by omega) k1).mono ?_
  rintro e w2 ⟨rfl, hb2⟩
  have z2 := keepB hb2 z1
  have k2 := keepB hb2 k1
  have F2 := F1.step hb2
  clear z1 k1 F1
  go_wp2_with fail
  refine (get_v (L := 0) ST.out _ ok (by omega) k2).mono ?_
  rintro e w3 ⟨rfl, hb3⟩
  have z3 := keepB hb3 z2
  have F3 := F2.step hb3
  clear z2 k2 F2
  go_wp2
  refine wp_loop_rounds 3 ?_
  rw [rounds_succ]
  go_wp2_with fail
  refine (ilets_v B3.out _ hst64).mono ?_
  rintro e w4 ⟨rfl, rfl⟩
  cases b3
  · go_wp2
    rw [rounds_succ]
    go_wp2_with fail
    refine (ilets_v B1.out _ hst64).mono ?_
    rintro e w6 ⟨rfl, rfl⟩
    cases b1
    · have HNN : nextOf s p L = none := by rw [HN.out]; simp
      obtain ⟨y0, y1⟩ := two_cells z3
      have yf := not_frozen z3
      have ys := lt_of_at z3
      go_wp2
      rw [rounds_succ]
      go_wp2
      refine bodyPost_ret (v := causeV (none)) (by simp [results, causeV, Try.results18, go_sem, y0, y1, ys]) rfl ⟨by rw [HNN], ?_⟩
      refine Fr.below ?_; repeat (first | exact F3 | refine Fr.alloc ?_ _ | refine Fr.drew ?_ | refine Fr.setCell ?_ (by simp) _)
    · go_wp2_with (first | (rw [HU.out]))
      refine (cfirst_v FU.out _ hu64).mono ?_
      rintro e w7 ⟨rfl, hb7⟩
      have z7 := keepB hb7 (keep_alloc (keep_alloc z3 _) _)
      have F7 := Fr.step (Fr.alloc (Fr.alloc F3 _) _) hb7
      obtain ⟨y0, y1⟩ := two_cells z7
      have yf := not_frozen z7
      have ys := lt_of_at z7
      cases fu with
      | none =>
        have HNN : nextOf s p L = none := by rw [HN.out]; simp
        simp only [causeV]
        go_wp2
        rw [rounds_succ]
        go_wp2
        refine bodyPost_ret (v := causeV (none)) (by simp [results, causeV, Try.results18, go_sem, y0, y1, ys]) rfl ⟨by rw [HNN], ?_⟩
        refine Fr.below ?_; repeat (first | exact F7 | refine Fr.alloc ?_ _ | refine Fr.drew ?_ | refine Fr.setCell ?_ (by simp) _)
      | some c =>
        have HNN : nextOf s p L = some c := by rw [HN.out]; simp
        simp only [causeV]
        go_wp2
        refine bodyPost_ret (v := causeV (some c)) (by simp [results, causeV, Try.results18, go_sem, y0, y1, ys]) rfl ⟨by rw [HNN], ?_⟩
        refine Fr.below ?_; repeat (first | exact F7 | refine Fr.alloc ?_ _ | refine Fr.drew ?_ | refine Fr.setCell ?_ (by simp) _)
  · go_wp2_with (first | (rw [HM.out]))
    refine (cfirst_v FM.out _ hm64).mono ?_
    rintro e w5 ⟨rfl, hb5⟩
    have z5 := keepB hb5 (keep_alloc z3 _)
    have F5 := Fr.step (Fr.alloc F3 _) hb5
    cases fm with
    | some c =>
      have HNN : nextOf s p L = some c := by rw [HN.out]; simp
      obtain ⟨y0, y1⟩ := two_cells z5
      have yf := not_frozen z5
      have ys := lt_of_at z5
      simp only [causeV]
      go_wp2
      refine bodyPost_ret (v := causeV (some c)) (by simp [results, causeV, Try.results18, go_sem, y0, y1, ys]) rfl ⟨by rw [HNN], ?_⟩
      refine Fr.below ?_; repeat (first | exact F5 | refine Fr.alloc ?_ _ | refine Fr.drew ?_ | refine Fr.setCell ?_ (by simp) _)
    | none =>
      simp only [causeV]
      go_wp2
      rw [rounds_succ]
      go_wp2_with fail
      refine (ilets_v B1.out _ hst64).mono ?_
      rintro e w6 ⟨rfl, rfl⟩
      cases b1
      · have HNN : nextOf s p L = none := by rw [HN.out]; simp
        obtain ⟨y0, y1⟩ := two_cells z5
        have yf := not_frozen z5
        have ys := lt_of_at z5
        go_wp2
        rw [rounds_succ]
        go_wp2
        refine bodyPost_ret (v := causeV (none)) (by simp [results, causeV, Try.results18, go_sem, y0, y1, ys]) rfl ⟨by rw [HNN], ?_⟩
        refine Fr.below ?_; repeat (first | exact F5 | refine Fr.alloc ?_ _ | refine Fr.drew ?_ | refine Fr.setCell ?_ (by simp) _)
      · go_wp2_with (first | (rw [HU.out]))
        refine (cfirst_v FU.out _ hu64).mono ?_
        rintro e w7 ⟨rfl, hb7⟩
        have z7 := keepB hb7 (keep_alloc (keep_alloc z5 _) _)
        have F7 := Fr.step (Fr.alloc (Fr.alloc F5 _) _) hb7
        obtain ⟨y0, y1⟩ := two_cells z7
        have yf := not_frozen z7
        have ys := lt_of_at z7
        cases fu with
        | none =>
          have HNN : nextOf s p L = none := by rw [HN.out]; simp
          simp only [causeV]
          go_wp2
          rw [rounds_succ]
          go_wp2
          refine bodyPost_ret (v := causeV (none)) (by simp [results, causeV, Try.results18, go_sem, y0, y1, ys]) rfl ⟨by rw [HNN], ?_⟩
          refine Fr.below ?_; repeat (first | exact F7 | refine Fr.alloc ?_ _ | refine Fr.drew ?_ | refine Fr.setCell ?_ (by simp) _)
        | some c =>
          have HNN : nextOf s p L = some c := by rw [HN.out]; simp
          simp only [causeV]
          go_wp2
          refine bodyPost_ret (v := causeV (some c)) (by simp [results, causeV, Try.results18, go_sem, y0, y1, ys]) rfl ⟨by rw [HNN], ?_⟩
          refine Fr.below ?_; repeat (first | exact F7 | refine Fr.alloc ?_ _ | refine Fr.drew ?_ | refine Fr.setCell ?_ (by simp) _)
end Go.Proofs.Ythkkfdhgpaonjaa
