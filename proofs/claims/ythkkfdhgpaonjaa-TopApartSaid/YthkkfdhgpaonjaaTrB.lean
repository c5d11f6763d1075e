/- Layer 23: trap.Vector, groupOf, lay, Enter, Leave. -/
import Derived.Test.YthkkfdhgpaonjaaTrA
import Derived.Test.YthkkfdhgpaonjaaCfT
namespace Go.Proofs.Ythkkfdhgpaonjaa
open Go.RowKit
set_option linter.unusedSimpArgs false
set_option linter.unusedVariables false

attribute [local go_sem ↓] Go.wp_at_zero Go.wp_at_succ
theorem base_val (t : Nat) (ht : t < 18446744073709551616) : bits .andNot .u64 (t : Int) 3 = ((t / 4 * 4 : Nat) : Int) := by
  have h := u64_andNot_nat t 3 ht (by omega)
  have e : t &&& (18446744073709551615 - 3) = t / 4 * 4 := by
    apply Nat.eq_of_testBit_eq
    intro j
    rw [Nat.testBit_and, show t / 4 * 4 = 2 ^ 2 * (t / 2 ^ 2) from by omega, Nat.testBit_two_pow_mul, Nat.testBit_div_two_pow]
    by_cases hj : j < 64
    · rw [inv_bit 3 j (by omega) hj]
      have h3 : Nat.testBit 3 j = decide (j < 2) := by
        have := Nat.testBit_two_pow_sub_one 2 j
        simpa using this
      rw [h3]
      by_cases h2 : 2 ≤ j
      · have h2' : ¬ j < 2 := by omega
        have e3 : 2 + (j - 2) = j := by omega
        have e4 : j - 2 + 2 = j := by omega
        simp [h2, h2', e3, e4]
      · have h2' : j < 2 := by omega
        simp [h2, h2']
    · rw [tb_big t ht j (by omega)]
      have h2 : 2 ≤ j := by omega
      have e3 : 2 + (j - 2) = j := by omega
      have e4 : j - 2 + 2 = j := by omega
      simp [h2, e3, e4, tb_big t ht j (by omega)]
  rw [e] at h
  exact h
theorem odd_val (t : Nat) (ht : t < 18446744073709551616) : (bits .and .u64 (t : Int) 1 == 1) = decide (t % 2 = 1) := by
  have h := u64_and_nat t 1 ht (by omega)
  rw [Nat.and_one_is_mod] at h
  have h' : bits .and .u64 (t : Int) 1 = ((t % 2 : Nat) : Int) := h
  rw [h', Bool.eq_iff_iff]
  simp
  omega
theorem vec_val (b k : Nat) : (((b + 4 * k) % 18446744073709551616 : Nat) : Int) = IntKind.u64.wrap ((b : Int) + 4 * (k : Int)) := by
  rw [IntKind.wrap_u64]; omega
set_option maxRecDepth 100000 in
set_option maxHeartbeats 2000000 in
theorem vec_any (t : Nat) (i : Bool) (c : Int) (w : World) (ht : t < 18446744073709551616) :
    Calls Try.prog 60 #[.int .u64 (t : Int), .agg #[.bool i, .int .i64 c]] w fun e w' => e = .returned (.int .u64 (vecOf t i c : Int)) ∧ Below w.heap.size w w' := by
  obtain ⟨bs, hbs⟩ : ∃ b, t / 4 * 4 = b := ⟨_, rfl⟩
  have hb := base_val t ht
  rw [hbs] at hb
  have ho := odd_val t ht
  have FE := Lib.hid ((Fr.refl w).alloc (.cells #[.bool i, .int .i64 c] 24)).1
  by_cases h : t % 2 = 1 ∧ i = true ∧ 0 ≤ c ∧ c ≤ 63
  · obtain ⟨h1, rfl, h0, h63⟩ := h
    obtain ⟨k, rfl⟩ := Int.eq_ofNat_of_zero_le h0
    have HV : Hid (((vecOf t true (k : Int) : Nat) : Int) = IntKind.u64.wrap ((bs : Int) + 4 * (k : Int))) := by
      show _ = _; rw [vec_yes ⟨h1, rfl, h0, h63⟩, hbs, ← vec_val]; rfl
    have ho' : (bits .and .u64 (t : Int) 1 == 1) = true := by rw [ho]; simp [h1]
    clear ho h1 hbs
    go_enter Try.func60, Try.ntmps60
    go_wp2
    go_ret
    exact ⟨by rw [HV.out]; rfl, FE.out⟩
  · have HV : Hid (vecOf t i c = bs) := by show _ = _; rw [vec_no h, hbs]
    by_cases h1 : t % 2 = 1
    · have ho' : (bits .and .u64 (t : Int) 1 == 1) = true := by rw [ho]; simp [h1]
      cases i
      · clear ho h1 hbs h
        go_enter Try.func60, Try.ntmps60
        go_wp2
        go_ret
        exact ⟨by rw [HV.out]; rfl, FE.out⟩
      · by_cases h0 : 0 ≤ c
        · have h63 : 63 < c := by
            rcases Int.lt_or_le 63 c with h2 | h2
            · exact h2
            · exact (h ⟨h1, rfl, h0, h2⟩).elim
          clear ho h1 hbs h
          go_enter Try.func60, Try.ntmps60
          go_wp2
          go_ret
          exact ⟨by rw [HV.out]; rfl, FE.out⟩
        · have h0' : c < 0 := by omega
          clear ho h1 hbs h h0
          go_enter Try.func60, Try.ntmps60
          go_wp2
          go_ret
          exact ⟨by rw [HV.out]; rfl, FE.out⟩
    · have ho' : (bits .and .u64 (t : Int) 1 == 1) = false := by rw [ho]; simp [h1]
      clear ho h1 hbs h
      go_enter Try.func60, Try.ntmps60
      go_wp2
      go_ret
      exact ⟨by rw [HV.out]; rfl, FE.out⟩
theorem vec_v {t : Nat} {i : Bool} {c : Int} {y : Nat} (h : vecOf t i c = y) (w : World) (ht : t < 18446744073709551616) :
    Calls Try.prog 60 #[.int .u64 (t : Int), .agg #[.bool i, .int .i64 c]] w fun e w' => e = .returned (.int .u64 (y : Int)) ∧ Below w.heap.size w w' := by
  rw [← h]; exact vec_any t i c w ht
theorem group_1 (w : World) : Calls Try.prog 64 #[.int .i64 1] w fun e w' => e = .returned (.agg #[.int .i64 321, .int .i64 322, .int .i64 323, .int .i64 261]) ∧ Below w.heap.size w w' := by
  go_enter Try.func64, Try.ntmps64
  go_wp2
  refine bodyPost_ret (v := .agg #[.int .i64 321, .int .i64 322, .int .i64 323, .int .i64 261]) (by simp [results, Try.results64, go_sem]) rfl ⟨rfl, ((Fr.refl w).alloc _).1⟩
theorem group_3 (w : World) : Calls Try.prog 64 #[.int .i64 3] w fun e w' => e = .returned (.agg #[.int .i64 833, .int .i64 834, .int .i64 835, .int .i64 773]) ∧ Below w.heap.size w w' := by
  go_enter Try.func64, Try.ntmps64
  go_wp2
  refine bodyPost_ret (v := .agg #[.int .i64 833, .int .i64 834, .int .i64 835, .int .i64 773]) (by simp [results, Try.results64, go_sem]) rfl ⟨rfl, ((Fr.refl w).alloc _).1⟩
theorem tlay_v {b : Nat} {s s' : FS} {v : Nat} (hs : setOf s 768 v = s') (w : World) (ok : OkF s) (hv : v < 18446744073709551616) (h : w.heap[b]? = some (.cells (cellsF s) 31)) :
    Calls Try.prog 66 #[.pointer (some ⟨b, 0, none⟩), .int .u64 (v : Int)] w fun e w' => (∃ v, e = .returned v) ∧ w'.heap[b]? = some (.cells (cellsF s') 31) ∧ Wrote b w w' := by
  have HS := Lib.hid hs
  clear hs
  go_enter Try.func66, Try.ntmps66
  go_wp2_with fail
  refine (set_v HS.out _ ok hv h).mono ?_
  rintro e w1 ⟨⟨v1, rfl⟩, k1, W1⟩
  go_wp2
  all_goals (first | go_end0 | refine bodyPost_ret (results_none rfl _ _ _) rfl ?_)
  exact ⟨⟨_, rfl⟩, k1, W1⟩
theorem cto_v {i : Bool} {c p to : Int} {d e : Nat} (h : toOf i c p d e = to) (w : World) (hd : d < 18446744073709551616) (he : e < 18446744073709551616) :
    Calls Try.prog 19 #[.agg #[.bool i, .int .i64 c], .int .i64 p, .int .u64 (d : Int), .int .u64 (e : Int)] w fun e' w' => e' = .returned (.int .i64 to) ∧ Below w.heap.size w w' := by
  rw [← h]; exact cto_any i c p d e w hd he
theorem cword_v {i : Bool} {c : Int} {y : Nat} (h : wordOf i c = y) (w : World) :
    Calls Try.prog 65 #[.agg #[.bool i, .int .i64 c]] w fun e w' => e = .returned (.int .u64 (y : Int)) ∧ Below w.heap.size w w' := by
  rw [← h]; exact cword_any i c w
theorem get_hh {B b : Nat} {s : FS} {n : Int} {L : Nat} {w0 w : World} {R R2 : Prop} (ok : OkF s) (hL : L < 18446744073709551616) (h : ((Fr B w0 w ∧ w.heap[b]? = some (.cells (cellsF s) 31)) ∧ R) ∧ R2) :
    Calls Try.prog 17 #[.pointer (some ⟨b, 0, none⟩), .int .i64 n, .int .u64 (L : Int)] w fun e w' => e = .returned (.int .u64 (getOf s n L : Int)) ∧ Below w.heap.size w w' := get_any b s n L w ok hL h.1.1.2
theorem enter_v {x : Nat} {f t : Int} {y : Nat} (h : enterOf x f t = y) (w : World) (hx : x < 18446744073709551616) :
    Calls Try.prog 67 #[.int .u64 (x : Int), .int .i64 f, .int .i64 t] w fun e w' => e = .returned (.int .u64 (y : Int)) ∧ w = w' := by
  rw [← h]; exact enter_any x f t w hx
theorem heldk3 {w w' : World} {B b : Nat} {o : Obj} {w0 : World} {a0 a1 a2 : Addr} {v0 v1 v2 : Value} (hb : Below w.heap.size w w') (h : ((Fr B w0 w ∧ w.heap[b]? = some o) ∧ w.cell? a0 = some v0) ∧ w.cell? a1 = some v1 ∧ w.cell? a2 = some v2) : ((Fr B w0 w' ∧ w'.heap[b]? = some o) ∧ w'.cell? a0 = some v0) ∧ w'.cell? a1 = some v1 ∧ w'.cell? a2 = some v2 := ⟨heldk hb h.1, hcell hb h.2.1, hcell hb h.2.2⟩
theorem tenter_nil (i : Bool) (c p : Int) (pc tv : Nat) (w : World) :
    Calls Try.prog 16 #[.pointer none, .agg #[.bool i, .int .i64 c], .int .i64 p, .int .u64 (pc : Int), .int .u64 (tv : Int)] w fun e w' => e = .returned (.tuple #[.int .i64 0, .int .u64 0]) ∧ Below w.heap.size w w' := by
  go_enter Try.func16, Try.ntmps16
  go_wp2
  go_ret2
  exact ⟨rfl, ((Fr.refl w).alloc _).1⟩
theorem tleave_nil (t : Int) (w : World) :
    Calls Try.prog 20 #[.pointer none, .int .i64 t] w fun e w' => e = .returned (.tuple #[.int .i64 0, .int .u64 0]) ∧ Below w.heap.size w w' := by
  go_enter Try.func20, Try.ntmps20
  go_wp2
  go_ret2
  exact ⟨rfl, Below.refl _ _⟩
theorem heldE {w w' : World} {B b g : Nat} {o q : Obj} {w0 wb : World} {a0 a1 : Addr} {v0 v1 : Value} (hb : Below w.heap.size w w') (h : (((Fr B w0 w ∧ w.heap[b]? = some o) ∧ w.cell? a0 = some v0) ∧ w.cell? a1 = some v1 ∧ w.heap[g]? = some q) ∧ Wrote b wb w) :
    (((Fr B w0 w' ∧ w'.heap[b]? = some o) ∧ w'.cell? a0 = some v0) ∧ w'.cell? a1 = some v1 ∧ w'.heap[g]? = some q) ∧ Wrote b wb w' := ⟨⟨heldk hb h.1.1, hcell hb h.1.2.1, keepB hb h.1.2.2⟩, h.2.below hb⟩
theorem heldV {w w' : World} {b : Nat} {o : Obj} {wb : World} {a0 a1 a2 : Addr} {v0 v1 v2 : Value} (hb : Below w.heap.size w w') (h : ((w.cell? a0 = some v0 ∧ w.heap[b]? = some o) ∧ w.cell? a1 = some v1 ∧ w.cell? a2 = some v2) ∧ Wrote b wb w) :
    ((w'.cell? a0 = some v0 ∧ w'.heap[b]? = some o) ∧ w'.cell? a1 = some v1 ∧ w'.cell? a2 = some v2) ∧ Wrote b wb w' := ⟨⟨⟨hcell hb h.1.1.1, keepB hb h.1.1.2⟩, hcell hb h.1.2.1, hcell hb h.1.2.2⟩, h.2.below hb⟩
theorem get_hE {B b : Nat} {s : FS} {n : Int} {L : Nat} {w0 w : World} {R R2 R3 : Prop} (ok : OkF s) (hL : L < 18446744073709551616) (h : (((Fr B w0 w ∧ w.heap[b]? = some (.cells (cellsF s) 31)) ∧ R) ∧ R2) ∧ R3) :
    Calls Try.prog 17 #[.pointer (some ⟨b, 0, none⟩), .int .i64 n, .int .u64 (L : Int)] w fun e w' => e = .returned (.int .u64 (getOf s n L : Int)) ∧ Below w.heap.size w w' := get_any b s n L w ok hL h.1.1.1.2
theorem get_hV {b : Nat} {s : FS} {n : Int} {L y : Nat} {w : World} {R R2 R3 : Prop} (hy : getOf s n L = y) (ok : OkF s) (hL : L < 18446744073709551616) (h : ((R ∧ w.heap[b]? = some (.cells (cellsF s) 31)) ∧ R2) ∧ R3) :
    Calls Try.prog 17 #[.pointer (some ⟨b, 0, none⟩), .int .i64 n, .int .u64 (L : Int)] w fun e w' => e = .returned (.int .u64 (y : Int)) ∧ Below w.heap.size w w' := get_v hy w ok hL h.1.1.2
set_option maxRecDepth 100000 in
set_option maxHeartbeats 4000000 in
theorem tenter_1 (b : Nat) (s : FS) (i : Bool) (c p : Int) (pc tv : Nat) (w : World) (ok : OkF s) (hpc : pc < 18446744073709551616) (htv : tv < 18446744073709551616) (h : w.heap[b]? = some (.cells (cellsF s) 31)) (hto : toOf i c p (s.g 8) (s.g 9) = 1) :
    Calls Try.prog 16 #[.pointer (some ⟨b, 0, none⟩), .agg #[.bool i, .int .i64 c], .int .i64 p, .int .u64 (pc : Int), .int .u64 (tv : Int)] w fun e w' => e = .returned (.tuple #[.int .i64 1, .int .u64 (entV s i c p : Int)]) ∧ w'.heap[b]? = some (.cells (cellsF (entS s i c p pc tv)) 31) ∧ Wrote b w w' := by
  obtain ⟨s1, hs1⟩ : ∃ s', setOf s 321 pc = s' := ⟨_, rfl⟩
  obtain ⟨wd, hwd⟩ : ∃ x, wordOf i c = x := ⟨_, rfl⟩
  obtain ⟨s2, hs2⟩ : ∃ s', setOf s1 322 wd = s' := ⟨_, rfl⟩
  obtain ⟨s3, hs3⟩ : ∃ s', setOf s2 323 tv = s' := ⟨_, rfl⟩
  obtain ⟨x0, hx0⟩ : ∃ x, getOf s3 768 0 = x := ⟨_, rfl⟩
  obtain ⟨x, hx⟩ : ∃ x, enterOf x0 p 1 = x := ⟨_, rfl⟩
  obtain ⟨s4, hs4⟩ : ∃ s', setOf s3 768 x = s' := ⟨_, rfl⟩
  obtain ⟨tvec, htvec⟩ : ∃ x, getOf s4 261 0 = x := ⟨_, rfl⟩
  obtain ⟨v, hv⟩ : ∃ x, vecOf tvec i c = x := ⟨_, rfl⟩
  have ok1 : OkF s1 := by rw [← hs1]; exact ok.set _ _
  have ok2 : OkF s2 := by rw [← hs2]; exact ok1.set _ _
  have ok3 : OkF s3 := by rw [← hs3]; exact ok2.set _ _
  have ok4 : OkF s4 := by rw [← hs4]; exact ok3.set _ _
  have hx064 : x0 < 18446744073709551616 := by rw [← hx0]; exact getOf_lt ok3 _ _ (by omega)
  have hx64 : x < 18446744073709551616 := by rw [← hx]; exact enterOf_lt _ _ _ hx064
  have hwd64 : wd < 18446744073709551616 := by rw [← hwd]; exact wordOf_lt _ _
  have htvec64 : tvec < 18446744073709551616 := by rw [← htvec]; exact getOf_lt ok4 _ _ (by omega)
  have HO : Hid (entS s i c p pc tv = s4) := by
    show _ = _
    rw [entS_1 ok hto, hs1, hwd, hs2, hs3, hx0, hx, hs4]
  have HV : Hid (entV s i c p = v) := by
    show _ = _
    rw [entV_1 (a := pc) (b := wd) (d := tv) (x := x) hto, hs1, hs2, hs3, hs4, htvec, hv]
  have HTO : Hid (toOf i c p (getOf s 770 0) (getOf s 771 0) = 1) := by show _ = _; rw [to_getOf]; exact hto
  have d64 : getOf s 770 0 < 18446744073709551616 := getOf_lt ok _ _ (by omega)
  have i64 : getOf s 771 0 < 18446744073709551616 := getOf_lt ok _ _ (by omega)
  have S1 := Lib.hid hs1
  have S2 := Lib.hid hs2
  have S3 := Lib.hid hs3
  have S4 := Lib.hid hs4
  have WD := Lib.hid hwd
  have X0 := Lib.hid hx0
  have X1 := Lib.hid hx
  have TV := Lib.hid htvec
  have VV := Lib.hid hv
  have hblt := lt_of_at h
  have kb0 := keep_alloc h (.cells #[.bool i, .int .i64 c] 24)
  have W0 := Lib.hid ((Wrote.refl b w).alloc (.cells #[.bool i, .int .i64 c] 24))
  have F0 := (Fr.refl w).alloc (.cells #[.bool i, .int .i64 c] 24)
  have c0 : (w.alloc (.cells #[.bool i, .int .i64 c] 24)).cell? ⟨w.heap.size, 0, none⟩ = some (.bool i) := by rw [cell_at (heap_alloc_new _ _)]; rfl
  have c1 : (w.alloc (.cells #[.bool i, .int .i64 c] 24)).cell? ⟨w.heap.size, 1, none⟩ = some (.int .i64 c) := by rw [cell_at (heap_alloc_new _ _)]; rfl
  have kc0 := heap_alloc_new w (.cells #[.bool i, .int .i64 c] 24)
  clear hs1 hs2 hs3 hs4 hwd hx0 hx htvec hv hto
  have hc0b : w.heap.size ≠ b := by omega
  go_enter Try.func16, Try.ntmps16
  go_wp2_with fail
  obtain ⟨WA, hWA⟩ : ∃ WA, w.alloc (.cells #[.bool i, .int .i64 c] 24) = WA := ⟨_, rfl⟩
  rw [hWA] at kb0 W0 F0 c0 c1 kc0 ⊢
  clear hWA
  have hBA : Below WA.heap.size WA WA.drew := (Below.refl _ _).drew
  go_region_held3 (fun w' => (((Fr w.heap.size w w' ∧ w'.heap[b]? = some (.cells (cellsF s) 31)) ∧ w'.cell? ⟨w.heap.size, 0, none⟩ = some (.bool i)) ∧ w'.cell? ⟨w.heap.size, 1, none⟩ = some (.int .i64 c) ∧ w'.heap[w.heap.size]? = some (.cells #[.bool i, .int .i64 c] 24)) ∧ Wrote b w w')
    (first | exact heldE ‹_› ‹_› | exact ⟨⟨⟨⟨F0.drew, kb0⟩, c0⟩, c1, kc0⟩, W0.out.drew⟩ | go_keep)
    (first
      | (go_at_call 17; refine (get_hE ok (L := 0) (by omega) ‹_›).mono ?_; rintro e w' ⟨rfl, hb⟩)
      | (go_at_call 19; refine (cto_v HTO.out _ d64 i64).mono ?_; rintro e w' ⟨rfl, hb⟩))
  rename_i w1 hS1
  obtain ⟨⟨⟨⟨F1, kb1⟩, c0⟩, c1, kc1⟩, WW1⟩ := hS1
  go_wp2_with fail
  refine (group_1 _).mono ?_
  rintro e w2 ⟨rfl, hb2⟩
  have kb2 := keep_alloc (keepB hb2 kb1) (.cells #[.int .i64 321, .int .i64 322, .int .i64 323, .int .i64 261] 110)
  have kc2 := keep_alloc (keepB hb2 kc1) (.cells #[.int .i64 321, .int .i64 322, .int .i64 323, .int .i64 261] 110)
  have kg2 := heap_alloc_new w2 (.cells #[.int .i64 321, .int .i64 322, .int .i64 323, .int .i64 261] 110)
  have W2 := Lib.hid ((WW1.below hb2).alloc (.cells #[.int .i64 321, .int .i64 322, .int .i64 323, .int .i64 261] 110))
  have hgb : w2.heap.size ≠ b := by have := lt_of_at (keepB hb2 kb1); omega
  clear c0 c1 F1 kb1 kc1 WW1
  have KB2 := Lib.hid kb2
  have KC2 := Lib.hid kc2
  have KG2 := Lib.hid kg2
  clear kb2 kc2 kg2
  go_wp2_with fail
  refine (set_v S1.out _ ok hpc KB2.out).mono ?_
  rintro e w3 ⟨⟨v3, rfl⟩, kb3, WE3⟩
  have kc3 := WE3.2 _ _ hc0b KC2.out
  have kg3 := WE3.2 _ _ hgb KG2.out
  have W3 := Lib.hid (W2.out.trans WE3)
  go_wp2_with fail
  have kb3d : w3.drew.heap[b]? = some (.cells (cellsF s1) 31) := kb3
  have kc3d : w3.drew.heap[w.heap.size]? = some (.cells #[.bool i, .int .i64 c] 24) := kc3
  have kg3d : w3.drew.heap[w2.heap.size]? = some (.cells #[.int .i64 321, .int .i64 322, .int .i64 323, .int .i64 261] 110) := kg3
  have W3d := Lib.hid W3.out.drew
  have g1 : w3.drew.cell? ⟨w2.heap.size, 1, none⟩ = some (.int .i64 322) := by rw [cell_at kg3d]; rfl
  have c0 : w3.drew.cell? ⟨w.heap.size, 0, none⟩ = some (.bool i) := by rw [cell_at kc3d]; rfl
  have c1 : w3.drew.cell? ⟨w.heap.size, 1, none⟩ = some (.int .i64 c) := by rw [cell_at kc3d]; rfl
  have KB3 := Lib.hid kb3d
  have KC3 := Lib.hid kc3d
  have KG3 := Lib.hid kg3d
  clear kb3 kc3 kg3 kb3d kc3d kg3d
  go_region_with (first
    | (go_at_call 65; refine (cword_v WD.out w3.drew).mono ?_; rintro e w4 ⟨rfl, hb4⟩; have kb4 := keepB hb4 KB3.out; have kc4 := keepB hb4 KC3.out; have kg4 := keepB hb4 KG3.out; have W4 := W3d.out.below hb4; have g4 := hcell hb4 g1)
    | (go_at_call 48; refine (set_v S2.out _ ok1 hwd64 kb4).mono ?_; rintro e w5 ⟨⟨v5, rfl⟩, kb5, WE5⟩; have kc5 := WE5.2 _ _ hc0b kc4; have kg5 := WE5.2 _ _ hgb kg4; have W5 := W4.trans WE5))
  all_goals
    clear kb4 kc4 kg4 W4 WE5
    have W5' := Lib.hid W5
    clear W5
    have g5 : w5.cell? ⟨w2.heap.size, 2, none⟩ = some (.int .i64 323) := by rw [cell_at kg5]; rfl
    go_wp2_with fail
    refine (set_v S3.out _ ok2 htv kb5).mono ?_
    rintro e w6 ⟨⟨v6, rfl⟩, kb6, WE6⟩
    have kc6 := WE6.2 _ _ hc0b kc5
    have kg6 := WE6.2 _ _ hgb kg5
    have W6 := Lib.hid (W5'.out.trans WE6)
    clear kb5 kc5 kg5 WE6
    go_wp2_with fail
    refine (get_v (L := 0) X0.out _ ok3 (by omega) kb6).mono ?_
    rintro e w7 ⟨rfl, hb7⟩
    have kb7 := keepB hb7 kb6
    have kc7 := keepB hb7 kc6
    have kg7 := keepB hb7 kg6
    have W7 := Lib.hid (W6.out.below hb7)
    clear kb6 kc6 kg6
    go_wp2_with fail
    refine (enter_v X1.out _ hx064).mono ?_
    rintro e w8 ⟨rfl, rfl⟩
    go_wp2_with fail
    refine (tlay_v S4.out _ ok3 hx64 kb7).mono ?_
    rintro e w9 ⟨⟨v9, rfl⟩, kb9, WE9⟩
    have kc9 := WE9.2 _ _ hc0b kc7
    have kg9 := WE9.2 _ _ hgb kg7
    have W9 := Lib.hid (W7.out.trans WE9)
    clear kb7 kc7 kg7 WE9
    have g9 : w9.cell? ⟨w2.heap.size, 3, none⟩ = some (.int .i64 261) := by rw [cell_at kg9]; rfl
    have c90 : w9.cell? ⟨w.heap.size, 0, none⟩ = some (.bool i) := by rw [cell_at kc9]; rfl
    have c91 : w9.cell? ⟨w.heap.size, 1, none⟩ = some (.int .i64 c) := by rw [cell_at kc9]; rfl
    have F9 : Fr w.heap.size w9 w9 ∨ True := Or.inr trivial
    clear F9
    go_wp2_with fail
    go_region_held3 (fun w' => ((w'.cell? ⟨w2.heap.size, 3, none⟩ = some (.int .i64 261) ∧ w'.heap[b]? = some (.cells (cellsF s4) 31)) ∧ w'.cell? ⟨w.heap.size, 0, none⟩ = some (.bool i) ∧ w'.cell? ⟨w.heap.size, 1, none⟩ = some (.int .i64 c)) ∧ Wrote b w w')
      (first | exact heldV ‹_› ‹_› | exact ⟨⟨⟨g9, kb9⟩, c90, c91⟩, W9.out.drew⟩ | go_keep)
      (first
        | (go_at_call 17; refine (get_hV TV.out ok4 (L := 0) (by omega) ‹_›).mono ?_; rintro e w' ⟨rfl, hb⟩)
        | (go_at_call 60; refine (vec_v VV.out _ htvec64).mono ?_; rintro e w' ⟨rfl, hb⟩))
    rename_i wZ hZ
    have KZ := Lib.hid hZ.1.1.2
    have WZ := Lib.hid hZ.2
    clear hZ
    go_wp2
    go_ret2
    rw [HO.out, HV.out]
    exact ⟨rfl, KZ.out, WZ.out⟩
set_option maxRecDepth 100000 in
set_option maxHeartbeats 4000000 in
theorem tenter_3 (b : Nat) (s : FS) (i : Bool) (c p : Int) (pc tv : Nat) (w : World) (ok : OkF s) (hpc : pc < 18446744073709551616) (htv : tv < 18446744073709551616) (h : w.heap[b]? = some (.cells (cellsF s) 31)) (hto : toOf i c p (s.g 8) (s.g 9) = 3) :
    Calls Try.prog 16 #[.pointer (some ⟨b, 0, none⟩), .agg #[.bool i, .int .i64 c], .int .i64 p, .int .u64 (pc : Int), .int .u64 (tv : Int)] w fun e w' => e = .returned (.tuple #[.int .i64 3, .int .u64 (entV s i c p : Int)]) ∧ w'.heap[b]? = some (.cells (cellsF (entS s i c p pc tv)) 31) ∧ Wrote b w w' := by
  obtain ⟨s1, hs1⟩ : ∃ s', setOf s 833 pc = s' := ⟨_, rfl⟩
  obtain ⟨wd, hwd⟩ : ∃ x, wordOf i c = x := ⟨_, rfl⟩
  obtain ⟨s2, hs2⟩ : ∃ s', setOf s1 834 wd = s' := ⟨_, rfl⟩
  obtain ⟨s3, hs3⟩ : ∃ s', setOf s2 835 tv = s' := ⟨_, rfl⟩
  obtain ⟨x0, hx0⟩ : ∃ x, getOf s3 768 0 = x := ⟨_, rfl⟩
  obtain ⟨x, hx⟩ : ∃ x, enterOf x0 p 3 = x := ⟨_, rfl⟩
  obtain ⟨s4, hs4⟩ : ∃ s', setOf s3 768 x = s' := ⟨_, rfl⟩
  obtain ⟨tvec, htvec⟩ : ∃ x, getOf s4 773 0 = x := ⟨_, rfl⟩
  obtain ⟨v, hv⟩ : ∃ x, vecOf tvec i c = x := ⟨_, rfl⟩
  have ok1 : OkF s1 := by rw [← hs1]; exact ok.set _ _
  have ok2 : OkF s2 := by rw [← hs2]; exact ok1.set _ _
  have ok3 : OkF s3 := by rw [← hs3]; exact ok2.set _ _
  have ok4 : OkF s4 := by rw [← hs4]; exact ok3.set _ _
  have hx064 : x0 < 18446744073709551616 := by rw [← hx0]; exact getOf_lt ok3 _ _ (by omega)
  have hx64 : x < 18446744073709551616 := by rw [← hx]; exact enterOf_lt _ _ _ hx064
  have hwd64 : wd < 18446744073709551616 := by rw [← hwd]; exact wordOf_lt _ _
  have htvec64 : tvec < 18446744073709551616 := by rw [← htvec]; exact getOf_lt ok4 _ _ (by omega)
  have HO : Hid (entS s i c p pc tv = s4) := by
    show _ = _
    rw [entS_3 ok hto, hs1, hwd, hs2, hs3, hx0, hx, hs4]
  have HV : Hid (entV s i c p = v) := by
    show _ = _
    rw [entV_3 (a := pc) (b := wd) (d := tv) (x := x) hto, hs1, hs2, hs3, hs4, htvec, hv]
  have HTO : Hid (toOf i c p (getOf s 770 0) (getOf s 771 0) = 3) := by show _ = _; rw [to_getOf]; exact hto
  have d64 : getOf s 770 0 < 18446744073709551616 := getOf_lt ok _ _ (by omega)
  have i64 : getOf s 771 0 < 18446744073709551616 := getOf_lt ok _ _ (by omega)
  have S1 := Lib.hid hs1
  have S2 := Lib.hid hs2
  have S3 := Lib.hid hs3
  have S4 := Lib.hid hs4
  have WD := Lib.hid hwd
  have X0 := Lib.hid hx0
  have X1 := Lib.hid hx
  have TV := Lib.hid htvec
  have VV := Lib.hid hv
  have hblt := lt_of_at h
  have kb0 := keep_alloc h (.cells #[.bool i, .int .i64 c] 24)
  have W0 := Lib.hid ((Wrote.refl b w).alloc (.cells #[.bool i, .int .i64 c] 24))
  have F0 := (Fr.refl w).alloc (.cells #[.bool i, .int .i64 c] 24)
  have c0 : (w.alloc (.cells #[.bool i, .int .i64 c] 24)).cell? ⟨w.heap.size, 0, none⟩ = some (.bool i) := by rw [cell_at (heap_alloc_new _ _)]; rfl
  have c1 : (w.alloc (.cells #[.bool i, .int .i64 c] 24)).cell? ⟨w.heap.size, 1, none⟩ = some (.int .i64 c) := by rw [cell_at (heap_alloc_new _ _)]; rfl
  have kc0 := heap_alloc_new w (.cells #[.bool i, .int .i64 c] 24)
  clear hs1 hs2 hs3 hs4 hwd hx0 hx htvec hv hto
  have hc0b : w.heap.size ≠ b := by omega
  go_enter Try.func16, Try.ntmps16
  go_wp2_with fail
  obtain ⟨WA, hWA⟩ : ∃ WA, w.alloc (.cells #[.bool i, .int .i64 c] 24) = WA := ⟨_, rfl⟩
  rw [hWA] at kb0 W0 F0 c0 c1 kc0 ⊢
  clear hWA
  have hBA : Below WA.heap.size WA WA.drew := (Below.refl _ _).drew
  go_region_held3 (fun w' => (((Fr w.heap.size w w' ∧ w'.heap[b]? = some (.cells (cellsF s) 31)) ∧ w'.cell? ⟨w.heap.size, 0, none⟩ = some (.bool i)) ∧ w'.cell? ⟨w.heap.size, 1, none⟩ = some (.int .i64 c) ∧ w'.heap[w.heap.size]? = some (.cells #[.bool i, .int .i64 c] 24)) ∧ Wrote b w w')
    (first | exact heldE ‹_› ‹_› | exact ⟨⟨⟨⟨F0.drew, kb0⟩, c0⟩, c1, kc0⟩, W0.out.drew⟩ | go_keep)
    (first
      | (go_at_call 17; refine (get_hE ok (L := 0) (by omega) ‹_›).mono ?_; rintro e w' ⟨rfl, hb⟩)
      | (go_at_call 19; refine (cto_v HTO.out _ d64 i64).mono ?_; rintro e w' ⟨rfl, hb⟩))
  rename_i w1 hS1
  obtain ⟨⟨⟨⟨F1, kb1⟩, c0⟩, c1, kc1⟩, WW1⟩ := hS1
  go_wp2_with fail
  refine (group_3 _).mono ?_
  rintro e w2 ⟨rfl, hb2⟩
  have kb2 := keep_alloc (keepB hb2 kb1) (.cells #[.int .i64 833, .int .i64 834, .int .i64 835, .int .i64 773] 110)
  have kc2 := keep_alloc (keepB hb2 kc1) (.cells #[.int .i64 833, .int .i64 834, .int .i64 835, .int .i64 773] 110)
  have kg2 := heap_alloc_new w2 (.cells #[.int .i64 833, .int .i64 834, .int .i64 835, .int .i64 773] 110)
  have W2 := Lib.hid ((WW1.below hb2).alloc (.cells #[.int .i64 833, .int .i64 834, .int .i64 835, .int .i64 773] 110))
  have hgb : w2.heap.size ≠ b := by have := lt_of_at (keepB hb2 kb1); omega
  clear c0 c1 F1 kb1 kc1 WW1
  have KB2 := Lib.hid kb2
  have KC2 := Lib.hid kc2
  have KG2 := Lib.hid kg2
  clear kb2 kc2 kg2
  go_wp2_with fail
  refine (set_v S1.out _ ok hpc KB2.out).mono ?_
  rintro e w3 ⟨⟨v3, rfl⟩, kb3, WE3⟩
  have kc3 := WE3.2 _ _ hc0b KC2.out
  have kg3 := WE3.2 _ _ hgb KG2.out
  have W3 := Lib.hid (W2.out.trans WE3)
  go_wp2_with fail
  have kb3d : w3.drew.heap[b]? = some (.cells (cellsF s1) 31) := kb3
  have kc3d : w3.drew.heap[w.heap.size]? = some (.cells #[.bool i, .int .i64 c] 24) := kc3
  have kg3d : w3.drew.heap[w2.heap.size]? = some (.cells #[.int .i64 833, .int .i64 834, .int .i64 835, .int .i64 773] 110) := kg3
  have W3d := Lib.hid W3.out.drew
  have g1 : w3.drew.cell? ⟨w2.heap.size, 1, none⟩ = some (.int .i64 834) := by rw [cell_at kg3d]; rfl
  have c0 : w3.drew.cell? ⟨w.heap.size, 0, none⟩ = some (.bool i) := by rw [cell_at kc3d]; rfl
  have c1 : w3.drew.cell? ⟨w.heap.size, 1, none⟩ = some (.int .i64 c) := by rw [cell_at kc3d]; rfl
  have KB3 := Lib.hid kb3d
  have KC3 := Lib.hid kc3d
  have KG3 := Lib.hid kg3d
  clear kb3 kc3 kg3 kb3d kc3d kg3d
  go_region_with (first
    | (go_at_call 65; refine (cword_v WD.out w3.drew).mono ?_; rintro e w4 ⟨rfl, hb4⟩; have kb4 := keepB hb4 KB3.out; have kc4 := keepB hb4 KC3.out; have kg4 := keepB hb4 KG3.out; have W4 := W3d.out.below hb4; have g4 := hcell hb4 g1)
    | (go_at_call 48; refine (set_v S2.out _ ok1 hwd64 kb4).mono ?_; rintro e w5 ⟨⟨v5, rfl⟩, kb5, WE5⟩; have kc5 := WE5.2 _ _ hc0b kc4; have kg5 := WE5.2 _ _ hgb kg4; have W5 := W4.trans WE5))
  all_goals
    clear kb4 kc4 kg4 W4 WE5
    have W5' := Lib.hid W5
    clear W5
    have g5 : w5.cell? ⟨w2.heap.size, 2, none⟩ = some (.int .i64 835) := by rw [cell_at kg5]; rfl
    go_wp2_with fail
    refine (set_v S3.out _ ok2 htv kb5).mono ?_
    rintro e w6 ⟨⟨v6, rfl⟩, kb6, WE6⟩
    have kc6 := WE6.2 _ _ hc0b kc5
    have kg6 := WE6.2 _ _ hgb kg5
    have W6 := Lib.hid (W5'.out.trans WE6)
    clear kb5 kc5 kg5 WE6
    go_wp2_with fail
    refine (get_v (L := 0) X0.out _ ok3 (by omega) kb6).mono ?_
    rintro e w7 ⟨rfl, hb7⟩
    have kb7 := keepB hb7 kb6
    have kc7 := keepB hb7 kc6
    have kg7 := keepB hb7 kg6
    have W7 := Lib.hid (W6.out.below hb7)
    clear kb6 kc6 kg6
    go_wp2_with fail
    refine (enter_v X1.out _ hx064).mono ?_
    rintro e w8 ⟨rfl, rfl⟩
    go_wp2_with fail
    refine (tlay_v S4.out _ ok3 hx64 kb7).mono ?_
    rintro e w9 ⟨⟨v9, rfl⟩, kb9, WE9⟩
    have kc9 := WE9.2 _ _ hc0b kc7
    have kg9 := WE9.2 _ _ hgb kg7
    have W9 := Lib.hid (W7.out.trans WE9)
    clear kb7 kc7 kg7 WE9
    have g9 : w9.cell? ⟨w2.heap.size, 3, none⟩ = some (.int .i64 773) := by rw [cell_at kg9]; rfl
    have c90 : w9.cell? ⟨w.heap.size, 0, none⟩ = some (.bool i) := by rw [cell_at kc9]; rfl
    have c91 : w9.cell? ⟨w.heap.size, 1, none⟩ = some (.int .i64 c) := by rw [cell_at kc9]; rfl
    have F9 : Fr w.heap.size w9 w9 ∨ True := Or.inr trivial
    clear F9
    go_wp2_with fail
    go_region_held3 (fun w' => ((w'.cell? ⟨w2.heap.size, 3, none⟩ = some (.int .i64 773) ∧ w'.heap[b]? = some (.cells (cellsF s4) 31)) ∧ w'.cell? ⟨w.heap.size, 0, none⟩ = some (.bool i) ∧ w'.cell? ⟨w.heap.size, 1, none⟩ = some (.int .i64 c)) ∧ Wrote b w w')
      (first | exact heldV ‹_› ‹_› | exact ⟨⟨⟨g9, kb9⟩, c90, c91⟩, W9.out.drew⟩ | go_keep)
      (first
        | (go_at_call 17; refine (get_hV TV.out ok4 (L := 0) (by omega) ‹_›).mono ?_; rintro e w' ⟨rfl, hb⟩)
        | (go_at_call 60; refine (vec_v VV.out _ htvec64).mono ?_; rintro e w' ⟨rfl, hb⟩))
    rename_i wZ hZ
    have KZ := Lib.hid hZ.1.1.2
    have WZ := Lib.hid hZ.2
    clear hZ
    go_wp2
    go_ret2
    rw [HO.out, HV.out]
    exact ⟨rfl, KZ.out, WZ.out⟩
theorem tenter_any (b : Nat) (s : FS) (i : Bool) (c p : Int) (pc tv : Nat) (w : World) (ok : OkF s) (hpc : pc < 18446744073709551616) (htv : tv < 18446744073709551616) (h : w.heap[b]? = some (.cells (cellsF s) 31)) :
    Calls Try.prog 16 #[.pointer (some ⟨b, 0, none⟩), .agg #[.bool i, .int .i64 c], .int .i64 p, .int .u64 (pc : Int), .int .u64 (tv : Int)] w fun e w' => e = .returned (.tuple #[.int .i64 (entTo s i c p), .int .u64 (entV s i c p : Int)]) ∧ w'.heap[b]? = some (.cells (cellsF (entS s i c p pc tv)) 31) ∧ Wrote b w w' := by
  rcases entTo_13 s i c p with hto | hto
  · rw [hto]; exact tenter_1 b s i c p pc tv w ok hpc htv h hto
  · rw [hto]; exact tenter_3 b s i c p pc tv w ok hpc htv h hto
end Go.Proofs.Ythkkfdhgpaonjaa
