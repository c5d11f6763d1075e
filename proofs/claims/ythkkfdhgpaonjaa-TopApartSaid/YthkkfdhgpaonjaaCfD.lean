/- csrfile's Set and Turn. -/
import Derived.Test.YthkkfdhgpaonjaaCfC
import Derived.Test.YthkkfdhgpaonjaaWrote
namespace Go.Proofs.Ythkkfdhgpaonjaa
open Go.RowKit
set_option linter.unusedSimpArgs false
set_option linter.unusedVariables false

theorem set_nil (n : Int) (v : Nat) (w : World) :
    Calls Try.prog 48 #[.pointer none, .int .i64 n, .int .u64 (v : Int)] w fun e w' => (∃ v, e = .returned v) ∧ w' = w := by
  go_enter Try.func48, Try.ntmps48
  go_wp2
  all_goals (first | go_end0 | refine bodyPost_ret (results_none rfl _ _ _) rfl ?_)
  all_goals exact ⟨⟨_, rfl⟩, rfl⟩
theorem turn_nil (r : Bool) (w : World) :
    Calls Try.prog 46 #[.pointer none, .bool r] w fun e w' => (∃ v, e = .returned v) ∧ w' = w := by
  go_enter Try.func46, Try.ntmps46
  go_wp2
  all_goals (first | go_end0 | refine bodyPost_ret (results_none rfl _ _ _) rfl ?_)
  all_goals exact ⟨⟨_, rfl⟩, rfl⟩

theorem fin_set {w w2 : World} {b : Nat} {s : FS} {i : Nat} (hi : i < 22) {y : Nat} {x : Int} (k2 : w2.heap[b]? = some (.cells (cellsF s) 31)) (hW : Wrote b w w2) (hx : x = (y : Int)) (o : Nat) (ho : o = 1 + i) :
    (w2.setCell ⟨b, o, none⟩ (.int .u64 x)).heap[b]? = some (.cells (cellsF (setG s i y)) 31) ∧ Wrote b w (w2.setCell ⟨b, o, none⟩ (.int .u64 x)) := by
  subst ho hx
  have := set_at k2 (1 + i) (.int .u64 (y : Int))
  rw [cellsF_setG _ hi] at this
  exact ⟨this, hW.setCell _ _⟩
theorem lay_v {x v y : Nat} (h : legalOf 256 x v = y) (w : World) (hx : x < 18446744073709551616) (hv : v < 18446744073709551616) :
    Calls Try.prog 91 #[.int .u64 (x : Int), .int .u64 (v : Int)] w fun e w' => e = .returned (.int .u64 (y : Int)) ∧ Below w.heap.size w w' := by
  rw [← h]; exact lay_any x v w hx hv
set_option maxRecDepth 100000 in
set_option maxHeartbeats 2000000 in
theorem set_256 (b : Nat) (s : FS) (v : Nat) (w : World) (ok : OkF s) (hv : v < 18446744073709551616) (h : w.heap[b]? = some (.cells (cellsF s) 31)) :
    Calls Try.prog 48 #[.pointer (some ⟨b, 0, none⟩), .int .i64 256, .int .u64 (v : Int)] w fun e w' => (∃ v, e = .returned v) ∧ w'.heap[b]? = some (.cells (cellsF (setOf s 256 v)) 31) ∧ Wrote b w w' := by
  obtain ⟨y, hy⟩ : ∃ y, legalOf 256 (s.g 7) v = y := ⟨_, rfl⟩
  have HO : Hid (setOf s 256 v = setG s 7 y) := by show _ = _; rw [← hy]; rfl
  have HY := Lib.hid hy
  have hx := ok.g 7
  clear hy
  go_enter Try.func48, Try.ntmps48
  go_wp2_with fail
  refine (word_some (n := 771) (k := 9) (by decide) _ h).mono ?_
  rintro e w1 ⟨rfl, hb1⟩
  have k1 := keepB hb1 h
  have W1 := Lib.hid ((Wrote.refl b w).below hb1)
  have g1 := knownFg k1 (i := 9) (by omega)
  go_wp2_with fail
  refine (word_some (n := 768) (k := 7) (by decide) _ k1).mono ?_
  rintro e w2 ⟨rfl, hb2⟩
  have k2 := keepB hb2 k1
  have W2 := Lib.hid (W1.out.below hb2)
  have g2 := knownFg k2 (i := 7) (by omega)
  obtain ⟨-, -, -, cl, cf⟩ := knownF k2
  go_wp2_with fail
  refine (lay_v HY.out _ hx hv).mono ?_
  rintro e w3 ⟨rfl, hb3⟩
  have k3 := keepB hb3 k2
  have W3 := Lib.hid (W2.out.below hb3)
  have g3 := knownFg k3 (i := 7) (by omega)
  obtain ⟨-, -, -, cl3, cf3⟩ := knownF k3
  go_wp2
  all_goals (first | go_end0 | refine bodyPost_ret (results_none rfl _ _ _) rfl ?_)
  rw [HO.out]
  exact ⟨⟨_, rfl⟩, fin_set (i := 7) (by omega) k3 W3.out rfl _ rfl⟩
set_option maxRecDepth 100000 in
set_option maxHeartbeats 2000000 in
theorem set_260 (b : Nat) (s : FS) (v : Nat) (w : World) (ok : OkF s) (hv : v < 18446744073709551616) (h : w.heap[b]? = some (.cells (cellsF s) 31)) :
    Calls Try.prog 48 #[.pointer (some ⟨b, 0, none⟩), .int .i64 260, .int .u64 (v : Int)] w fun e w' => (∃ v, e = .returned v) ∧ w'.heap[b]? = some (.cells (cellsF (setOf s 260 v)) 31) ∧ Wrote b w w' := by
  obtain ⟨y, hy⟩ : ∃ y, blend (s.g 10) v (s.g 9) = y := ⟨_, rfl⟩
  have HO : Hid (setOf s 260 v = setG s 10 y) := by show _ = _; rw [← hy]; rfl
  have HV : Hid (bits .or .u64 (bits .andNot .u64 (s.g 10 : Int) (s.g 9 : Int)) (bits .and .u64 (v : Int) (s.g 9 : Int)) = (y : Int)) := by show _ = _; rw [← hy]; exact blend_val _ _ _ (ok.g _) hv (ok.g _)
  clear hy
  go_enter Try.func48, Try.ntmps48
  go_wp2_with fail
  refine (word_some (n := 771) (k := 9) (by decide) _ h).mono ?_
  rintro e w1 ⟨rfl, hb1⟩
  have k1 := keepB hb1 h
  have W1 := Lib.hid ((Wrote.refl b w).below hb1)
  have g1 := knownFg k1 (i := 9) (by omega)
  go_wp2_with fail
  refine (word_some (n := 772) (k := 10) (by decide) _ k1).mono ?_
  rintro e w2 ⟨rfl, hb2⟩
  have k2 := keepB hb2 k1
  have W2 := Lib.hid (W1.out.below hb2)
  have g2 := knownFg k2 (i := 10) (by omega)
  obtain ⟨-, -, -, cl, cf⟩ := knownF k2
  go_wp2
  all_goals (first | go_end0 | refine bodyPost_ret (results_none rfl _ _ _) rfl ?_)
  rw [HO.out]
  exact ⟨⟨_, rfl⟩, fin_set (i := 10) (by omega) k2 W2.out HV.out _ rfl⟩
theorem sip_val (x v d : Nat) (hx : x < 18446744073709551616) (hv : v < 18446744073709551616) (hd : d < 18446744073709551616) :
    bits .or .u64 (bits .andNot .u64 (x : Int) (bits .and .u64 (d : Int) 2)) (bits .and .u64 (bits .and .u64 (v : Int) (d : Int)) 2) = ((blend x v (d &&& 2) : Nat) : Int) := by
  have e1 : bits .and .u64 (d : Int) 2 = ((d &&& 2 : Nat) : Int) := u64_and_nat d 2 hd (by omega)
  have e2 : bits .and .u64 (bits .and .u64 (v : Int) (d : Int)) 2 = bits .and .u64 (v : Int) ((d &&& 2 : Nat) : Int) := by
    rw [u64_and_nat v d hv hd, u64_and_nat v (d &&& 2) hv (and_lt hd)]
    have := u64_and_nat (v &&& d) 2 (and_lt hv) (by omega)
    rw [show ((2 : Nat) : Int) = 2 from rfl] at this
    rw [this, Nat.and_assoc]
  rw [e1, e2]
  exact blend_val _ _ _ hx hv (and_lt hd)
set_option maxRecDepth 100000 in
set_option maxHeartbeats 2000000 in
theorem set_324 (b : Nat) (s : FS) (v : Nat) (w : World) (ok : OkF s) (hv : v < 18446744073709551616) (h : w.heap[b]? = some (.cells (cellsF s) 31)) :
    Calls Try.prog 48 #[.pointer (some ⟨b, 0, none⟩), .int .i64 324, .int .u64 (v : Int)] w fun e w' => (∃ v, e = .returned v) ∧ w'.heap[b]? = some (.cells (cellsF (setOf s 324 v)) 31) ∧ Wrote b w w' := by
  obtain ⟨y, hy⟩ : ∃ y, blend (s.g 17) v (s.g 9 &&& 2) = y := ⟨_, rfl⟩
  have HO : Hid (setOf s 324 v = setG s 17 y) := by show _ = _; rw [← hy]; rfl
  have HV : Hid (bits .or .u64 (bits .andNot .u64 (s.g 17 : Int) (bits .and .u64 (s.g 9 : Int) 2)) (bits .and .u64 (bits .and .u64 (v : Int) (s.g 9 : Int)) 2) = (y : Int)) := by show _ = _; rw [← hy]; exact sip_val _ _ _ (ok.g _) hv (ok.g _)
  clear hy
  go_enter Try.func48, Try.ntmps48
  go_wp2_with fail
  refine (word_some (n := 771) (k := 9) (by decide) _ h).mono ?_
  rintro e w1 ⟨rfl, hb1⟩
  have k1 := keepB hb1 h
  have W1 := Lib.hid ((Wrote.refl b w).below hb1)
  have g1 := knownFg k1 (i := 9) (by omega)
  go_wp2_with fail
  refine (word_some (n := 836) (k := 17) (by decide) _ k1).mono ?_
  rintro e w2 ⟨rfl, hb2⟩
  have k2 := keepB hb2 k1
  have W2 := Lib.hid (W1.out.below hb2)
  have g2 := knownFg k2 (i := 17) (by omega)
  obtain ⟨-, -, -, cl, cf⟩ := knownF k2
  go_wp2
  all_goals (first | go_end0 | refine bodyPost_ret (results_none rfl _ _ _) rfl ?_)
  rw [HO.out]
  exact ⟨⟨_, rfl⟩, fin_set (i := 17) (by omega) k2 W2.out HV.out _ rfl⟩
set_option maxRecDepth 100000 in
set_option maxHeartbeats 2000000 in
theorem set_2816 (b : Nat) (s : FS) (v : Nat) (w : World) (ok : OkF s) (hv : v < 18446744073709551616) (h : w.heap[b]? = some (.cells (cellsF s) 31)) :
    Calls Try.prog 48 #[.pointer (some ⟨b, 0, none⟩), .int .i64 2816, .int .u64 (v : Int)] w fun e w' => (∃ v, e = .returned v) ∧ w'.heap[b]? = some (.cells (cellsF (setOf s 2816 v)) 31) ∧ Wrote b w w' := by
  obtain ⟨y, hy⟩ : ∃ y, legalOf 2816 (s.g 20) v = y := ⟨_, rfl⟩
  have HO : Hid (setOf s 2816 v = setG (setCy s true) 20 y) := by show _ = _; rw [← hy]; rfl
  have HY := Lib.hid hy
  have hx := ok.g 20
  clear hy
  go_enter Try.func48, Try.ntmps48
  go_wp2_with fail
  refine (word_some (n := 771) (k := 9) (by decide) _ h).mono ?_
  rintro e w1 ⟨rfl, hb1⟩
  have k1 := keepB hb1 h
  have W1 := Lib.hid ((Wrote.refl b w).below hb1)
  have g1 := knownFg k1 (i := 9) (by omega)
  obtain ⟨-, p1, p2, cl1, cf1⟩ := knownF k1
  have k1' := set_at k1 23 (.bool true)
  rw [cellsF_setCy] at k1'
  have W1' := Lib.hid (W1.out.setCell 23 (.bool true))
  go_wp2_with fail
  refine (word_some (n := 2816) (k := 20) (by decide) _ k1').mono ?_
  rintro e w2 ⟨rfl, hb2⟩
  have k2 := keepB hb2 k1'
  have W2 := Lib.hid (W1'.out.below hb2)
  have g2 : w2.cell? ⟨b, 1 + 20, none⟩ = some (.int .u64 (s.g 20 : Int)) := knownFg k2 (i := 20) (by omega)
  obtain ⟨-, -, -, cl, cf⟩ := knownF k2
  clear k1'
  go_wp2_with fail
  refine (legal_v HY.out _ hx hv).mono ?_
  rintro e w3 ⟨rfl, hb3⟩
  have k3 := keepB hb3 k2
  have W3 := Lib.hid (W2.out.below hb3)
  have g3 : w3.cell? ⟨b, 1 + 20, none⟩ = some (.int .u64 (s.g 20 : Int)) := knownFg k3 (i := 20) (by omega)
  obtain ⟨-, -, -, cl3, cf3⟩ := knownF k3
  go_wp2
  all_goals (first | go_end0 | refine bodyPost_ret (results_none rfl _ _ _) rfl ?_)
  rw [HO.out]
  exact ⟨⟨_, rfl⟩, fin_set (i := 20) (by omega) k3 W3.out rfl _ rfl⟩
set_option maxRecDepth 100000 in
set_option maxHeartbeats 2000000 in
theorem set_2818 (b : Nat) (s : FS) (v : Nat) (w : World) (ok : OkF s) (hv : v < 18446744073709551616) (h : w.heap[b]? = some (.cells (cellsF s) 31)) :
    Calls Try.prog 48 #[.pointer (some ⟨b, 0, none⟩), .int .i64 2818, .int .u64 (v : Int)] w fun e w' => (∃ v, e = .returned v) ∧ w'.heap[b]? = some (.cells (cellsF (setOf s 2818 v)) 31) ∧ Wrote b w w' := by
  obtain ⟨y, hy⟩ : ∃ y, legalOf 2818 (s.g 21) v = y := ⟨_, rfl⟩
  have HO : Hid (setOf s 2818 v = setG (setIl s true) 21 y) := by show _ = _; rw [← hy]; rfl
  have HY := Lib.hid hy
  have hx := ok.g 21
  clear hy
  go_enter Try.func48, Try.ntmps48
  go_wp2_with fail
  refine (word_some (n := 771) (k := 9) (by decide) _ h).mono ?_
  rintro e w1 ⟨rfl, hb1⟩
  have k1 := keepB hb1 h
  have W1 := Lib.hid ((Wrote.refl b w).below hb1)
  have g1 := knownFg k1 (i := 9) (by omega)
  obtain ⟨-, p1, p2, cl1, cf1⟩ := knownF k1
  have k1' := set_at k1 24 (.bool true)
  rw [cellsF_setIl] at k1'
  have W1' := Lib.hid (W1.out.setCell 24 (.bool true))
  go_wp2_with fail
  refine (word_some (n := 2818) (k := 21) (by decide) _ k1').mono ?_
  rintro e w2 ⟨rfl, hb2⟩
  have k2 := keepB hb2 k1'
  have W2 := Lib.hid (W1'.out.below hb2)
  have g2 : w2.cell? ⟨b, 1 + 21, none⟩ = some (.int .u64 (s.g 21 : Int)) := knownFg k2 (i := 21) (by omega)
  obtain ⟨-, -, -, cl, cf⟩ := knownF k2
  clear k1'
  go_wp2_with fail
  refine (legal_v HY.out _ hx hv).mono ?_
  rintro e w3 ⟨rfl, hb3⟩
  have k3 := keepB hb3 k2
  have W3 := Lib.hid (W2.out.below hb3)
  have g3 : w3.cell? ⟨b, 1 + 21, none⟩ = some (.int .u64 (s.g 21 : Int)) := knownFg k3 (i := 21) (by omega)
  obtain ⟨-, -, -, cl3, cf3⟩ := knownF k3
  go_wp2
  all_goals (first | go_end0 | refine bodyPost_ret (results_none rfl _ _ _) rfl ?_)
  rw [HO.out]
  exact ⟨⟨_, rfl⟩, fin_set (i := 21) (by omega) k3 W3.out rfl _ rfl⟩
set_option maxRecDepth 100000 in
set_option maxHeartbeats 2000000 in
theorem set_else (b : Nat) (s : FS) (n : Int) (v : Nat) (w : World) (ok : OkF s) (hv : v < 18446744073709551616) (h : w.heap[b]? = some (.cells (cellsF s) 31))
    (h1 : n ≠ 256) (h2 : n ≠ 260) (h3 : n ≠ 324) (h4 : n ≠ 2816) (h5 : n ≠ 2818) :
    Calls Try.prog 48 #[.pointer (some ⟨b, 0, none⟩), .int .i64 n, .int .u64 (v : Int)] w fun e w' => (∃ v, e = .returned v) ∧ w'.heap[b]? = some (.cells (cellsF (setOf s n v)) 31) ∧ Wrote b w w' := by
  have b1 : (n == 256) = false := by simpa using h1
  have b2 : (n == 260) = false := by simpa using h2
  have b3 : (n == 324) = false := by simpa using h3
  have b4 : (n == 2816) = false := by simpa using h4
  have b5 : (n == 2818) = false := by simpa using h5
  cases hn : ownIx n with
  | none =>
    have HO : Hid (setOf s n v = s) := by show _ = _; unfold setOf; rw [if_neg h1, if_neg h2, if_neg h3, if_neg h4, if_neg h5, hn]
    have HN := Lib.hid hn
    clear h1 h2 h3 h4 h5 hn
    go_enter Try.func48, Try.ntmps48
    go_wp2_with fail
    refine (word_some (n := 771) (k := 9) (by decide) _ h).mono ?_
    rintro e w1 ⟨rfl, hb1⟩
    have k1 := keepB hb1 h
    have W1 := Lib.hid ((Wrote.refl b w).below hb1)
    have g1 := knownFg k1 (i := 9) (by omega)
    go_wp2_with fail
    refine (word_none HN.out _ k1).mono ?_
    rintro e w2 ⟨rfl, hb2⟩
    have k2 := keepB hb2 k1
    have W2 := Lib.hid (W1.out.below hb2)
    go_wp2
    all_goals (first | go_end0 | refine bodyPost_ret (results_none rfl _ _ _) rfl ?_)
    rw [HO.out]
    exact ⟨⟨_, rfl⟩, k2, W2.out⟩
  | some k =>
    obtain ⟨y, hy⟩ : ∃ y, legalOf n (s.g k) v = y := ⟨_, rfl⟩
    have HO : Hid (setOf s n v = setG s k y) := by show _ = _; unfold setOf; rw [if_neg h1, if_neg h2, if_neg h3, if_neg h4, if_neg h5, hn, ← hy]
    have HN := Lib.hid hn
    have HY := Lib.hid hy
    have hx := ok.g k
    have hk := (ownIx_lt hn).1
    clear h1 h2 h3 h4 h5 hn hy
    go_enter Try.func48, Try.ntmps48
    go_wp2_with fail
    refine (word_some (n := 771) (k := 9) (by decide) _ h).mono ?_
    rintro e w1 ⟨rfl, hb1⟩
    have k1 := keepB hb1 h
    have W1 := Lib.hid ((Wrote.refl b w).below hb1)
    have g1 := knownFg k1 (i := 9) (by omega)
    go_wp2_with fail
    refine (word_some HN.out _ k1).mono ?_
    rintro e w2 ⟨rfl, hb2⟩
    have k2 := keepB hb2 k1
    have W2 := Lib.hid (W1.out.below hb2)
    have g2 := knownFg k2 hk
    obtain ⟨-, -, -, cl, cf⟩ := knownF k2
    go_wp2_with fail
    refine (legal_v HY.out _ hx hv).mono ?_
    rintro e w3 ⟨rfl, hb3⟩
    have k3 := keepB hb3 k2
    have W3 := Lib.hid (W2.out.below hb3)
    have g3 := knownFg k3 hk
    obtain ⟨-, -, -, cl3, cf3⟩ := knownF k3
    go_wp2
    all_goals (first | go_end0 | refine bodyPost_ret (results_none rfl _ _ _) rfl ?_)
    rw [HO.out]
    exact ⟨⟨_, rfl⟩, fin_set hk k3 W3.out rfl _ rfl⟩
theorem set_any (b : Nat) (s : FS) (n : Int) (v : Nat) (w : World) (ok : OkF s) (hv : v < 18446744073709551616) (h : w.heap[b]? = some (.cells (cellsF s) 31)) :
    Calls Try.prog 48 #[.pointer (some ⟨b, 0, none⟩), .int .i64 n, .int .u64 (v : Int)] w fun e w' => (∃ v, e = .returned v) ∧ w'.heap[b]? = some (.cells (cellsF (setOf s n v)) 31) ∧ Wrote b w w' := by
  by_cases h1 : n = 256
  · subst h1; exact set_256 b s v w ok hv h
  by_cases h2 : n = 260
  · subst h2; exact set_260 b s v w ok hv h
  by_cases h3 : n = 324
  · subst h3; exact set_324 b s v w ok hv h
  by_cases h4 : n = 2816
  · subst h4; exact set_2816 b s v w ok hv h
  by_cases h5 : n = 2818
  · subst h5; exact set_2818 b s v w ok hv h
  exact set_else b s n v w ok hv h h1 h2 h3 h4 h5
theorem set_v {b : Nat} {s s' : FS} {n : Int} {v : Nat} (hs : setOf s n v = s') (w : World) (ok : OkF s) (hv : v < 18446744073709551616) (h : w.heap[b]? = some (.cells (cellsF s) 31)) :
    Calls Try.prog 48 #[.pointer (some ⟨b, 0, none⟩), .int .i64 n, .int .u64 (v : Int)] w fun e w' => (∃ v, e = .returned v) ∧ w'.heap[b]? = some (.cells (cellsF s') 31) ∧ Wrote b w w' := by
  rw [← hs]; exact set_any b s n v w ok hv h
end Go.Proofs.Ythkkfdhgpaonjaa
