/- Snap: scripts in memory; script.Check, Few. -/
import Derived.Test.YtcfbbimahbhgjaaSnV
namespace Go.Proofs.Ytcfbbimahbhgjaa
open Go.RowKit
set_option linter.unusedSimpArgs false
set_option linter.unusedVariables false

/-- Parts in memory. -/
structure PartA (w : World) (base : Nat) (ad : Addr) (i : Nat) (N : Int) (a : Option Addr) (n cap : Nat) (L : List Nat) : Prop where
  c0 : w.cell? (ad.add (i * 2)) = some (.int .u64 N)
  c1 : w.cell? ⟨(ad.add (i * 2)).block, (ad.add (i * 2)).off + 1, none⟩ = some (.slice a n cap)
  hN : U64 N
  hL : BytesL w a n cap L
  hb : ad.block < base
  hab : 0 < L.length → ∀ x, a = some x → x.block < base
def Parts (w : World) (base : Nat) (a : Option Addr) (len : Nat) (pl : Nat → Nat) : Prop := ∀ i, i < len → ∃ ad N a' c' L, a = some ad ∧ PartA w base ad i N a' (pl i) c' L
structure LineA (w : World) (base : Nat) (ad : Addr) (i : Nat) (k n : Int) (q : Bool) : Prop where
  c0 : w.cell? (ad.add (i * 3)) = some (.int .i64 k)
  c1 : w.cell? ⟨(ad.add (i * 3)).block, (ad.add (i * 3)).off + 1, none⟩ = some (.int .i64 n)
  c2 : w.cell? ⟨(ad.add (i * 3)).block, (ad.add (i * 3)).off + 2, none⟩ = some (.bool q)
  hk : I64 k
  hn : I64 n
  hb : ad.block < base
def LinesA (w : World) (base : Nat) (a : Option Addr) (len : Nat) : Prop := ∀ i, i < len → ∃ ad k n q, a = some ad ∧ LineA w base ad i k n q
theorem PartA.keep {w w' : World} {base : Nat} {ad : Addr} {i : Nat} {N : Int} {a : Option Addr} {n cap : Nat} {L : List Nat} (h : PartA w base ad i N a n cap L) (hb : Fr base w w') : PartA w' base ad i N a n cap L := by
  refine ⟨?_, ?_, h.hN, ⟨h.hL.ln, h.hL.lc, h.hL.ll, h.hL.h8, h.hL.hb.same hb.1.size fun x e hl h0 => hb.1.block _ (h.hab h0 x e)⟩, h.hb, h.hab⟩
  · exact (hb.1.cell (p := ad.add (i * 2)) (by rw [add_blk]; exact h.hb)).trans h.c0
  · exact (hb.1.cell (p := ⟨(ad.add (i * 2)).block, (ad.add (i * 2)).off + 1, none⟩) (by rw [add_blk]; exact h.hb)).trans h.c1
theorem LineA.keep {w w' : World} {base : Nat} {ad : Addr} {i : Nat} {k n : Int} {q : Bool} (h : LineA w base ad i k n q) (hb : Fr base w w') : LineA w' base ad i k n q := by
  refine ⟨?_, ?_, ?_, h.hk, h.hn, h.hb⟩
  · exact (hb.1.cell (p := ad.add (i * 3)) (by rw [add_blk]; exact h.hb)).trans h.c0
  · exact (hb.1.cell (p := ⟨(ad.add (i * 3)).block, (ad.add (i * 3)).off + 1, none⟩) (by rw [add_blk]; exact h.hb)).trans h.c1
  · exact (hb.1.cell (p := ⟨(ad.add (i * 3)).block, (ad.add (i * 3)).off + 2, none⟩) (by rw [add_blk]; exact h.hb)).trans h.c2
theorem Parts.keep {w w' : World} {base : Nat} {a : Option Addr} {len : Nat} {pl : Nat → Nat} (h : Parts w base a len pl) (hb : Fr base w w') : Parts w' base a len pl := fun i hi => by
  obtain ⟨ad, N, a', c', L, e, hp⟩ := h i hi
  exact ⟨ad, N, a', c', L, e, hp.keep hb⟩
theorem LinesA.keep {w w' : World} {base : Nat} {a : Option Addr} {len : Nat} (h : LinesA w base a len) (hb : Fr base w w') : LinesA w' base a len := fun i hi => by
  obtain ⟨ad, k, n, q, e, hp⟩ := h i hi
  exact ⟨ad, k, n, q, e, hp.keep hb⟩
theorem PartA.base {w : World} {base base' : Nat} {ad : Addr} {i : Nat} {N : Int} {a : Option Addr} {n cap : Nat} {L : List Nat} (h : PartA w base ad i N a n cap L) (hb : base ≤ base') : PartA w base' ad i N a n cap L :=
  ⟨h.c0, h.c1, h.hN, h.hL, Nat.lt_of_lt_of_le h.hb hb, fun h0 x e => Nat.lt_of_lt_of_le (h.hab h0 x e) hb⟩
theorem Parts.base {w : World} {base base' : Nat} {a : Option Addr} {len : Nat} {pl : Nat → Nat} (h : Parts w base a len pl) (hb : base ≤ base') : Parts w base' a len pl := fun i hi => by
  obtain ⟨ad, N, a', c', L, e, hp⟩ := h i hi
  exact ⟨ad, N, a', c', L, e, hp.base hb⟩
theorem LinesA.base {w : World} {base base' : Nat} {a : Option Addr} {len : Nat} (h : LinesA w base a len) (hb : base ≤ base') : LinesA w base' a len := fun i hi => by
  obtain ⟨ad, k, n, q, e, hp⟩ := h i hi
  exact ⟨ad, k, n, q, e, ⟨hp.c0, hp.c1, hp.c2, hp.hk, hp.hn, Nat.lt_of_lt_of_le hp.hb hb⟩⟩
theorem fourteen {w : World} {b : Nat} {t : TypeId} {f : Nat × Nat} {v0 v1 v2 v3 v4 v5 v6 v7 v8 v9 v10 v11 v12 v13 : Value} (h : w.heap[b]? = some (.cells #[v0, v1, v2, v3, v4, v5, v6, v7, v8, v9, v10, v11, v12, v13] t f)) : w.cell? ⟨b, 0, none⟩ = some v0 ∧ w.cell? ⟨b, 1, none⟩ = some v1 ∧ w.cell? ⟨b, 2, none⟩ = some v2 ∧ w.cell? ⟨b, 3, none⟩ = some v3 ∧ w.cell? ⟨b, 4, none⟩ = some v4 ∧ w.cell? ⟨b, 5, none⟩ = some v5 ∧ w.cell? ⟨b, 6, none⟩ = some v6 ∧ w.cell? ⟨b, 7, none⟩ = some v7 ∧ w.cell? ⟨b, 8, none⟩ = some v8 ∧ w.cell? ⟨b, 9, none⟩ = some v9 ∧ w.cell? ⟨b, 10, none⟩ = some v10 ∧ w.cell? ⟨b, 11, none⟩ = some v11 ∧ w.cell? ⟨b, 12, none⟩ = some v12 ∧ w.cell? ⟨b, 13, none⟩ = some v13 := by
  refine ⟨?_, ?_, ?_, ?_, ?_, ?_, ?_, ?_, ?_, ?_, ?_, ?_, ?_, ?_⟩ <;> (rw [cell_at h]; rfl)
/-- A script's box stands, and what lay below is as it was. -/
def BoxS (w : World) (B : Nat) (o : Obj) (wr : World) : Prop := wr.heap[B]? = some o ∧ Fr w.heap.size w wr
theorem BoxS.step {w wr wr' : World} {B : Nat} {o : Obj} (h : BoxS w B o wr) (hb : Below wr.heap.size wr wr') : BoxS w B o wr' := ⟨keepB hb h.1, h.2.step hb⟩
theorem BoxS.alloc {w wr : World} {B : Nat} {o : Obj} (h : BoxS w B o wr) (o' : Obj) : BoxS w B o (wr.alloc o') := h.step ((Below.refl _ wr).alloc (Nat.le_refl _) o')
def CheckP (h : Int) (w : World) (ed : Ending) (w' : World) : Prop := (∃ x : Int, ed = .returned (.int .i64 x) ∧ (x = 0 → 1 ≤ h ∧ h ≤ 8)) ∧ Below w.heap.size w w'
theorem BoxS.part {w wr : World} {B : Nat} {o : Obj} {ad : Addr} {i : Nat} {N : Int} {a : Option Addr} {n cap : Nat} {L : List Nat} (h : BoxS w B o wr) (hp : PartA w w.heap.size ad i N a n cap L) : PartA wr w.heap.size ad i N a n cap L := hp.keep h.2
theorem BoxS.line {w wr : World} {B : Nat} {o : Obj} {ad : Addr} {i : Nat} {k n : Int} {q : Bool} (h : BoxS w B o wr) (hp : LineA w w.heap.size ad i k n q) : LineA wr w.heap.size ad i k n q := hp.keep h.2
set_option maxRecDepth 100000 in
set_option maxHeartbeats 8000000 in
theorem check_any (h c l t g0 g1 g2 g3 g4 g5 g6 g7 : Int) (pa la : Option Addr) (pn pc ln lc : Nat) (pl : Nat → Nat) (w : World) (hh : I64 h) (hl : I64 l) (hpn : pn ≤ 9223372036854775807) (hln : ln ≤ 9223372036854775807) (hP : Parts w w.heap.size pa pn pl) (hL : LinesA w w.heap.size la ln) :
    Calls Try.prog 43 #[.agg #[.int .i64 h, .int .i64 c, .int .i64 l, .int .i64 t, .int .i64 g0, .int .i64 g1, .int .i64 g2, .int .i64 g3, .int .i64 g4, .int .i64 g5, .int .i64 g6, .int .i64 g7, .slice pa pn pc, .slice la ln lc]] w (CheckP h w) := by
  obtain ⟨B, hB⟩ : ∃ B, w.heap.size = B := ⟨_, rfl⟩
  have S1 : BoxS w B (.cells #[.int .i64 h, .int .i64 c, .int .i64 l, .int .i64 t, .int .i64 g0, .int .i64 g1, .int .i64 g2, .int .i64 g3, .int .i64 g4, .int .i64 g5, .int .i64 g6, .int .i64 g7, .slice pa pn pc, .slice la ln lc] 61) (w.alloc (.cells #[.int .i64 h, .int .i64 c, .int .i64 l, .int .i64 t, .int .i64 g0, .int .i64 g1, .int .i64 g2, .int .i64 g3, .int .i64 g4, .int .i64 g5, .int .i64 g6, .int .i64 g7, .slice pa pn pc, .slice la ln lc] 61)) := ⟨by rw [← hB]; exact heap_alloc_new w _, (Fr.refl w).alloc _⟩
  have HP := Lib.hid hP
  have HL := Lib.hid hL
  have HHl := Lib.hid hl
  have HHh := Lib.hid hh
  clear hP hL hl hh
  go_enter Try.func43, Try.ntmps43
  obtain ⟨w1, hw1⟩ : ∃ w1, w.alloc (.cells #[.int .i64 h, .int .i64 c, .int .i64 l, .int .i64 t, .int .i64 g0, .int .i64 g1, .int .i64 g2, .int .i64 g3, .int .i64 g4, .int .i64 g5, .int .i64 g6, .int .i64 g7, .slice pa pn pc, .slice la ln lc] 61) = w1 := ⟨_, rfl⟩
  rw [hw1] at S1
  obtain ⟨c0, c1, c2, c3, c4, c5, c6, c7, c8, c9, c10, c11, c12, c13⟩ := fourteen S1.1
  go_wp2_with fail
  clear hw1
  refine (right_any h c l t _).mono ?_
  rintro e w2 ⟨⟨q, rfl, hq⟩, hb⟩
  have S2 := S1.step hb
  have HQ := Lib.hid hq
  clear c0 c1 c2 c3 c4 c5 c6 c7 c8 c9 c10 c11 c12 c13
  clear hq hb S1
  obtain ⟨c0, c1, c2, c3, c4, c5, c6, c7, c8, c9, c10, c11, c12, c13⟩ := fourteen S2.1
  cases q
  · go_wp2_with fail
    go_ret
    exact ⟨⟨_, rfl, fun h => by cases h⟩, S2.2.1⟩
  · have HQ2 : Hid (1 ≤ h ∧ h ≤ 8) := HQ.out rfl
    clear HQ
    go_wp2_with fail
    refine (budgets_any h c l t g0 g1 g2 g3 g4 g5 g6 g7 _).mono ?_
    rintro e w3 ⟨⟨x, rfl⟩, hb⟩
    have S3 := S2.step hb
    clear c0 c1 c2 c3 c4 c5 c6 c7 c8 c9 c10 c11 c12 c13
    clear hb S2
    obtain ⟨c0, c1, c2, c3, c4, c5, c6, c7, c8, c9, c10, c11, c12, c13⟩ := fourteen S3.1
    by_cases hx : x = 0
    · subst hx
      by_cases h1 : 256 < pn
      · have d1 : decide ((256 : Int) < pn) = true := by simp; omega
        go_wp2_with fail
        go_ret
        exact ⟨⟨_, rfl, fun _ => HQ2.out⟩, S3.2.1⟩
      · have d1 : decide ((256 : Int) < pn) = false := by simp; omega
        by_cases h2 : 60000 < ln
        · have d2 : decide ((60000 : Int) < ln) = true := by simp; omega
          go_wp2_with fail
          go_ret
          exact ⟨⟨_, rfl, fun _ => HQ2.out⟩, S3.2.1⟩
        · have d2 : decide ((60000 : Int) < ln) = false := by simp; omega
          go_wp2_with fail
          clear c0 c1 c2 c3 c4 c5 c6 c7 c8 c9 c10 c11 c12 c13
          go_loopw [35] (fun u wr => ∃ j : Nat, j ≤ pn ∧ u = .int .i64 (j : Int) ∧ BoxS w B (.cells #[.int .i64 h, .int .i64 c, .int .i64 l, .int .i64 t, .int .i64 g0, .int .i64 g1, .int .i64 g2, .int .i64 g3, .int .i64 g4, .int .i64 g5, .int .i64 g6, .int .i64 g7, .slice pa pn pc, .slice la ln lc] 61) wr) (fun u _ => pn - (intOf u).toNat)
          case atStart => exact ⟨0, by omega, rfl, S3⟩
          case round =>
            clear S3
            obtain ⟨j, hj, rfl, hS⟩ := hrel
            have hj0 : (0 : Int) ≤ j := by omega
            by_cases hlt : j < pn
            · have hji : (j : Int) < pn := by omega
              obtain ⟨ad, N, a', c', L, rfl, hp⟩ := HP.out j hlt
              have hp2 := hS.part hp
              have t0 := hp2.c0
              have t1 := hp2.c1
              have hll := hp2.hL.ll
              have hN := Lib.hid hp.hN
              have S4 := hS.alloc (.cells #[.int .u64 N, .slice a' (pl j) c'] 78)
              have F4 := S4.1
              obtain ⟨c0, c1, c2, c3, c4, c5, c6, c7, c8, c9, c10, c11, c12, c13⟩ := fourteen S4.1
              clear hp hp2 F4
              go_wp2_with fail
              refine (part_any h c l t N a' (pl j) c' _ hll hN.out HHl.out).mono ?_
              rintro e w5 ⟨⟨x, rfl⟩, hb⟩
              have S5 := S4.step hb
              clear c0 c1 c2 c3 c4 c5 c6 c7 c8 c9 c10 c11 c12 c13
              clear S4 hS hb t0 t1
              by_cases hx : x = 0
              · subst hx
                go_wp2
                exact ⟨⟨j + 1, by omega, by go_num, S5⟩, by simp [intOf]; omega⟩
              · have hx2 : (x != 0) = true := by simpa using hx
                go_wp2_with fail
                go_ret
                exact ⟨⟨_, rfl, fun _ => HQ2.out⟩, S5.2.1⟩
            · have e : pn = j := by omega
              subst e
              have hdl : ¬ ((pn : Int) < pn) := by omega
              obtain ⟨c0, c1, c2, c3, c4, c5, c6, c7, c8, c9, c10, c11, c12, c13⟩ := fourteen hS.1
              go_wp2_with fail
              clear c0 c1 c2 c3 c4 c5 c6 c7 c8 c9 c10 c11 c12 c13
              go_loopw [50] (fun u wr => ∃ j : Nat, j ≤ ln ∧ u = .int .i64 (j : Int) ∧ BoxS w B (.cells #[.int .i64 h, .int .i64 c, .int .i64 l, .int .i64 t, .int .i64 g0, .int .i64 g1, .int .i64 g2, .int .i64 g3, .int .i64 g4, .int .i64 g5, .int .i64 g6, .int .i64 g7, .slice pa pn pc, .slice la ln lc] 61) wr) (fun u _ => ln - (intOf u).toNat)
              case atStart => exact ⟨0, by omega, rfl, hS⟩
              case round =>
                clear hS
                obtain ⟨j, hj, rfl, hS⟩ := hrel
                have hj0 : (0 : Int) ≤ j := by omega
                by_cases hlt : j < ln
                · have hji : (j : Int) < ln := by omega
                  obtain ⟨ad, k, n, q, rfl, hp⟩ := HL.out j hlt
                  have hp2 := hS.line hp
                  have t0 := hp2.c0
                  have t1 := hp2.c1
                  have t2 := hp2.c2
                  have S4 := hS.alloc (.cells #[.int .i64 k, .int .i64 n, .bool q] 104)
                  obtain ⟨c0, c1, c2, c3, c4, c5, c6, c7, c8, c9, c10, c11, c12, c13⟩ := fourteen S4.1
                  clear hp hp2
                  go_wp2_with fail
                  refine (line_any h c l t k n q _ HHh.out).mono ?_
                  rintro e w5 ⟨⟨x, rfl⟩, hb⟩
                  have S5 := S4.step hb
                  clear c0 c1 c2 c3 c4 c5 c6 c7 c8 c9 c10 c11 c12 c13
                  clear S4 hS hb t0 t1 t2
                  by_cases hx : x = 0
                  · subst hx
                    go_wp2
                    exact ⟨⟨j + 1, by omega, by go_num, S5⟩, by simp [intOf]; omega⟩
                  · have hx2 : (x != 0) = true := by simpa using hx
                    go_wp2_with fail
                    go_ret
                    exact ⟨⟨_, rfl, fun _ => HQ2.out⟩, S5.2.1⟩
                · have e : ln = j := by omega
                  subst e
                  have hdl2 : ¬ ((ln : Int) < ln) := by omega
                  go_wp2_with fail
                  go_ret
                  exact ⟨⟨_, rfl, fun _ => HQ2.out⟩, hS.2.1⟩
    · have hx2 : (x != 0) = true := by simpa using hx
      go_wp2_with fail
      go_ret
      exact ⟨⟨_, rfl, fun _ => HQ2.out⟩, S3.2.1⟩
def FewP (pn ln : Nat) (pl : Nat → Nat) (w : World) (ed : Ending) (w' : World) : Prop := (∃ q : Bool, ed = .returned (.bool q) ∧ (q = true → pn ≤ 300 ∧ ln ≤ 2000 ∧ ∀ i, i < pn → pl i ≤ 400)) ∧ Below w.heap.size w w'
set_option maxRecDepth 100000 in
set_option maxHeartbeats 8000000 in
theorem few_any (h c l t g0 g1 g2 g3 g4 g5 g6 g7 : Int) (pa la : Option Addr) (pn pc ln lc : Nat) (pl : Nat → Nat) (w : World) (hpn : pn ≤ 9223372036854775807) (hln : ln ≤ 9223372036854775807) (hP : Parts w w.heap.size pa pn pl) :
    Calls Try.prog 30 #[.agg #[.int .i64 h, .int .i64 c, .int .i64 l, .int .i64 t, .int .i64 g0, .int .i64 g1, .int .i64 g2, .int .i64 g3, .int .i64 g4, .int .i64 g5, .int .i64 g6, .int .i64 g7, .slice pa pn pc, .slice la ln lc]] w (FewP pn ln pl w) := by
  obtain ⟨B, hB⟩ : ∃ B, w.heap.size = B := ⟨_, rfl⟩
  have S1 : BoxS w B (.cells #[.int .i64 h, .int .i64 c, .int .i64 l, .int .i64 t, .int .i64 g0, .int .i64 g1, .int .i64 g2, .int .i64 g3, .int .i64 g4, .int .i64 g5, .int .i64 g6, .int .i64 g7, .slice pa pn pc, .slice la ln lc] 61) (w.alloc (.cells #[.int .i64 h, .int .i64 c, .int .i64 l, .int .i64 t, .int .i64 g0, .int .i64 g1, .int .i64 g2, .int .i64 g3, .int .i64 g4, .int .i64 g5, .int .i64 g6, .int .i64 g7, .slice pa pn pc, .slice la ln lc] 61)) := ⟨by rw [← hB]; exact heap_alloc_new w _, (Fr.refl w).alloc _⟩
  have HP := Lib.hid hP
  clear hP
  obtain ⟨w1, hw1⟩ : ∃ w1, w.alloc (.cells #[.int .i64 h, .int .i64 c, .int .i64 l, .int .i64 t, .int .i64 g0, .int .i64 g1, .int .i64 g2, .int .i64 g3, .int .i64 g4, .int .i64 g5, .int .i64 g6, .int .i64 g7, .slice pa pn pc, .slice la ln lc] 61) = w1 := ⟨_, rfl⟩
  rw [hw1] at S1
  obtain ⟨c0, c1, c2, c3, c4, c5, c6, c7, c8, c9, c10, c11, c12, c13⟩ := fourteen S1.1
  by_cases h1 : 300 < pn
  · have d1 : decide ((300 : Int) < pn) = true := by simp; omega
    go_enter Try.func30, Try.ntmps30
    go_wp2_with fail
    go_ret
    exact ⟨⟨_, rfl, fun h => by cases h⟩, S1.2.1⟩
  · have d1 : decide ((300 : Int) < pn) = false := by simp; omega
    by_cases h2 : 2000 < ln
    · have d2 : decide ((2000 : Int) < ln) = true := by simp; omega
      go_enter Try.func30, Try.ntmps30
      go_wp2_with fail
      go_ret
      exact ⟨⟨_, rfl, fun h => by cases h⟩, S1.2.1⟩
    · have d2 : decide ((2000 : Int) < ln) = false := by simp; omega
      go_enter Try.func30, Try.ntmps30
      go_wp2_with fail
      clear hw1
      go_loopw [3] (fun u wr => ∃ j : Nat, j ≤ pn ∧ u = .int .i64 (j : Int) ∧ (∀ i, i < j → pl i ≤ 400) ∧ wr = w1) (fun u _ => pn - (intOf u).toNat)
      case atStart => exact ⟨0, by omega, rfl, fun i hi => by omega, rfl⟩
      case round =>
        obtain ⟨j, hj, rfl, hle, rfl⟩ := hrel
        have HLE := Lib.hid hle
        clear hle
        have hj0 : (0 : Int) ≤ j := by omega
        by_cases hlt : j < pn
        · have hji : (j : Int) < pn := by omega
          obtain ⟨ad, N, a', c', L, rfl, hp⟩ := HP.out j hlt
          have hp2 := S1.part hp
          have t1 := hp2.c1
          have hll := hp2.hL.ll
          clear hp hp2
          by_cases h4 : 400 < pl j
          · have d4 : decide ((400 : Int) < pl j) = true := by simp; omega
            go_wp2_with fail
            go_ret
            exact ⟨⟨_, rfl, fun h => by cases h⟩, S1.2.1⟩
          · have d4 : decide ((400 : Int) < pl j) = false := by simp; omega
            have HL2 : Hid (∀ i, i < j + 1 → pl i ≤ 400) := fun i hi => by
              by_cases e : i = j
              · subst e; omega
              · exact HLE.out i (by omega)
            go_wp2
            exact ⟨⟨j + 1, by omega, by go_num, HL2.out, by first | trivial | rfl⟩, by simp [intOf]; omega⟩
        · have e : pn = j := by omega
          subst e
          have hdl : ¬ ((pn : Int) < pn) := by omega
          go_wp2_with fail
          go_ret
          exact ⟨⟨_, rfl, fun _ => ⟨by omega, by omega, HLE.out⟩⟩, S1.2.1⟩
end Go.Proofs.Ytcfbbimahbhgjaa
