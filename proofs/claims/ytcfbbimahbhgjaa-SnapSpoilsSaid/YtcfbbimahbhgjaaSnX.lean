/- Snap: script.Runs: its iterator has a contract (SeqStopsK). -/
import Derived.Test.YtcfbbimahbhgjaaSnW
import Derived.Test.YtcfbbimahbhgjaaRaJ
import Derived.Maps.OwnIn
namespace Go.Proofs.Ytcfbbimahbhgjaa
open Go.RowKit Go.Shelf
set_option linter.unusedSimpArgs false
set_option linter.unusedVariables false
attribute [local go_sem] Oper.semAt_some

theorem grown_of_below {w w' : World} (h : Below w.heap.size w w') : w.grownBy w' none := ⟨h.os, h.tape, h.output, h.size, fun i hi _ => h.block i hi⟩
/-- What a round keeps: all that lay below n0, and the box of the lines. -/
def KpB (n0 Bs : Nat) (W W' : World) : Prop := Below n0 W W' ∧ W'.heap[Bs]? = W.heap[Bs]?
theorem KpB.refl (n0 Bs : Nat) (W : World) : KpB n0 Bs W W := ⟨Below.refl _ _, rfl⟩
theorem KpB.trans {n0 Bs : Nat} {A B C : World} (h : KpB n0 Bs A B) (k : KpB n0 Bs B C) : KpB n0 Bs A C := ⟨h.1.trans k.1, k.2.trans h.2⟩
theorem KpB.of_below {n0 Bs : Nat} {W W' : World} (h : Below W.heap.size W W') (h0 : n0 ≤ W.heap.size) (hB : Bs < W.heap.size) : KpB n0 Bs W W' := ⟨h.mono h0, h.block _ hB⟩
theorem kpB_b {n0 Bs : Nat} {w : World} (hn : n0 ≤ w.heap.size) (hB : Bs < w.heap.size) (W : World) (l : Nat) (o o' : Obj) (hl : w.heap.size ≤ l) (h : W.heap[l]? = some o) (h1 : o.isCells = false) (h2 : o.isWalk = false) : KpB n0 Bs W (W.putObj l o') :=
  ⟨belowK_b hn W l o o' hl h h1 h2, World.putObj_heap_other (by omega)⟩
/-- The lines, as functions of their place. -/
def Lns (w : World) (base : Nat) (a : Option Addr) (len : Nat) (kf nf : Nat → Int) (qf : Nat → Bool) : Prop := ∀ i, i < len → ∃ ad, a = some ad ∧ LineA w base ad i (kf i) (nf i) (qf i)
theorem lns_of {w : World} {base : Nat} {a : Option Addr} {len : Nat} (h : LinesA w base a len) : ∃ kf nf qf, Lns w base a len kf nf qf := by
  have h2 : ∀ i, ∃ t : Int × Int × Bool, i < len → ∃ ad, a = some ad ∧ LineA w base ad i t.1 t.2.1 t.2.2 := fun i => by
    by_cases hi : i < len
    · obtain ⟨ad, k, n, q, e, hl⟩ := h i hi
      exact ⟨(k, n, q), fun _ => ⟨ad, e, hl⟩⟩
    · exact ⟨(0, 0, false), fun h => absurd h hi⟩
  exact ⟨fun i => (Classical.choose (h2 i)).1, fun i => (Classical.choose (h2 i)).2.1, fun i => (Classical.choose (h2 i)).2.2, fun i hi => Classical.choose_spec (h2 i) hi⟩
theorem Lns.keep {w w' : World} {base : Nat} {a : Option Addr} {len : Nat} {kf nf : Nat → Int} {qf : Nat → Bool} (h : Lns w base a len kf nf qf) (hb : Fr base w w') : Lns w' base a len kf nf qf := fun i hi => by
  obtain ⟨ad, e, hl⟩ := h i hi
  exact ⟨ad, e, hl.keep hb⟩
def encR (kf nf : Nat → Int) (qf : Nat → Bool) (x : Nat × Nat) : Array Value := #[.agg #[.int .i64 (kf x.1), .int .i64 (nf x.1), .bool (qf x.1)], .int .i64 (x.2 : Int)]
set_option maxHeartbeats 1000000 in
theorem runs_any (a : Option Addr) (n cap : Nat) (w : World) :
    Calls Try.prog 45 #[.slice a n cap] w fun e w' => e = .returned (.func (.func 58) #[] #[.pointer (some ⟨w.heap.size, 0, none⟩)]) ∧ w' = w.alloc (.cells #[.slice a n cap] 59) := by
  have hmf : ∀ (fn : Fn) (first cap : Array Value) (w : World), (Instr.makeFunc fn first cap).run Try.prog w = .ok (.func fn first cap) w := fun _ _ _ _ => rfl
  go_enter Try.func45, Try.ntmps45
  go_wp2
  go_ret
  exact ⟨rfl, rfl⟩
set_option maxRecDepth 100000 in
set_option maxHeartbeats 2000000 in
theorem runs1_in (n l Bs base : Nat) (la : Option Addr) (ln lc : Nat) (kf nf : Nat → Int) (qf : Nat → Bool) (J Jx : List (Nat × Nat) → World → Prop) (hn : 1 ≤ n) (hln : ln ≤ 2000)
    (hY : ∀ pre x W, J pre W → pre.length < ln → YieldAt Fence.wide (n - 1) Try.prog l (encR kf nf qf x) W fun e W' =>
      (e = .returned (.bool true) ∧ J (pre ++ [x]) W' ∧ KpB base Bs W W') ∨ (e = .returned (.bool false) ∧ Jx (pre ++ [x]) W'))
    (W : World) (hn0 : base ≤ W.heap.size) (hBs : W.heap[Bs]? = some (.cells #[.slice la ln lc] 59)) (hL : Lns W base la ln kf nf qf) (hJ : AbidesFrom W.heap.size J) (h0 : J [] W) :
    CallsIn Fence.wide n Try.prog 58 #[.func (.yield l) #[] #[], .pointer (some ⟨Bs, 0, none⟩)] W fun e W' => (∃ v, e = .returned v) ∧
      ((∃ ys : List (Nat × Nat), ys.length ≤ ln ∧ J ys W') ∨ (∃ pre : List (Nat × Nat), True ∧ Jx pre W')) := by
  refine callsIn_of_wp Try.func58 rfl trivial ?_ rfl
  simp only [Try.ntmps58, List.size_toArray, List.length_cons, List.length_nil, Nat.reduceAdd, Nat.reduceSub, Array.replicate_succ, Array.replicate_zero, List.push_toArray, List.append_toArray, List.nil_append, List.cons_append]
  have hBl := lt_of_at hBs
  have HY := Lib.hid hY
  have HJ := Lib.hid hJ
  have H0 := Lib.hid h0
  clear hY hJ h0
  gi_wp2
  gi_loopw [3] (fun i wr => ∃ (j : Nat) (pre : List (Nat × Nat)), j ≤ ln ∧ pre.length ≤ j ∧ i = .int .i64 j ∧ J pre wr ∧ KpB base Bs W wr ∧ W.heap.size ≤ wr.heap.size)
    (fun i _ => ln - (intOf i).toNat)
  case atStart => exact ⟨0, [], Nat.zero_le _, Nat.le_refl _, rfl, H0.out, KpB.refl _ _ _, Nat.le_refl _⟩
  case round =>
    obtain ⟨j, pre, hj, hpj, rfl, hJs, hK, hsz⟩ := hrel
    have hBr := hK.2.trans hBs
    have cB : wr.cell? ⟨Bs, 0, none⟩ = some (.slice la ln lc) := by rw [cell_at hBr]; rfl
    have hj0 : (0 : Int) ≤ j := by omega
    have hlnI : (ln : Int) ≤ 2000 := by omega
    by_cases hlt : j < ln
    · have hji : (j : Int) < ln := by omega
      have hji2 : (j : Int) < 2000 := by omega
      have Z9 := Lib.hid hJs
      have HK9 := Lib.hid hK
      clear hJs hK hBr
      gi_wp2
      have hszr := hsz
      clear cB
      gi_loopw [4] (fun mm wr2 => ∃ c : Nat, 1 ≤ c ∧ j + c ≤ ln ∧ mm = .int .i64 (c : Int) ∧ J pre wr2 ∧ KpB base Bs W wr2 ∧ W.heap.size ≤ wr2.heap.size) (fun mm _ => ln - j - (intOf mm).toNat)
      case atStart => exact ⟨1, Nat.le_refl _, by omega, rfl, Z9.out, HK9.out, hsz⟩
      case round =>
        clear Z9 HK9 hsz hszr
        obtain ⟨c, hc1, hjc, rfl, hJs, hK, hsz⟩ := hrel
        have hBr := hK.2.trans hBs
        have cB : wr.cell? ⟨Bs, 0, none⟩ = some (.slice la ln lc) := by rw [cell_at hBr]; rfl
        have hL2 := hL.keep ⟨hK.1, by omega⟩
        obtain ⟨ad, rfl, hl⟩ := hL2 j hlt
        have t0 := hl.c0
        have t1 := hl.c1
        have t2 := hl.c2
        obtain ⟨s, hs⟩ : ∃ s, j + c = s := ⟨_, rfl⟩
        have es : (j : Int) + (c : Int) = (s : Int) := by omega
        have hs0 : (0 : Int) ≤ s := by omega
        have hsi2 : (s : Int) ≤ 2000 := by omega
        have hci : (1 : Int) ≤ c := by omega
        have Z9 := Lib.hid hJs
        have HK9 := Lib.hid hK
        have HS := Lib.hid hs
        have HL := Lib.hid hL
        have HL2 := Lib.hid hL2
        clear hJs hK hBr hs hL hL2 hl
        by_cases hk0 : kf j = 0
        · have e0 : (kf j == 0) = true := by simpa using hk0
          by_cases hs2 : s < ln
          · have hsi : (s : Int) < ln := by omega
            obtain ⟨ad', e, hl'⟩ := HL2.out s hs2
            cases e
            have x0 := hl'.c0
            have x1 := hl'.c1
            have x2 := hl'.c2
            clear hl'
            by_cases h1 : kf s = 0
            · have e1 : (kf s == 0) = true := by simpa using h1
              by_cases h2 : nf s = nf j
              · have e2 : (nf s == nf j) = true := by simpa using h2
                by_cases h3 : qf s = qf j
                · have e3 : (qf s == qf j) = true := by simpa using h3
                  gi_wp2
                  refine wpIn_wide.2 ?_
                  go_quiet (fail)
                  have JZ := HJ.out pre wr (wr.drewN nq) none Z9.out (grown_of_below ((Fr.refl wr).drewN nq).1) (fun r e => by cases e)
                  have KZ : KpB base Bs W (wr.drewN nq) := HK9.out.trans (KpB.of_below ((Fr.refl wr).drewN nq).1 (by omega) (by have := lt_of_cell cB; exact this))
                  have HZ : W.heap.size ≤ (wr.drewN nq).heap.size := hsz
                  have E := Lib.hid (show J pre (wr.drewN nq) ∧ KpB base Bs W (wr.drewN nq) ∧ W.heap.size ≤ (wr.drewN nq).heap.size from ⟨JZ, KZ, HZ⟩)
                  clear JZ KZ HZ
                  gi_wp2
                  exact ⟨⟨c + 1, by omega, by have := HS.out; omega, by go_num, E.out⟩, by simp [intOf]; have := HS.out; omega⟩
                · have e3 : (qf s == qf j) = false := by simpa using h3
                  gi_wp2
                  refine wpIn_wide.2 ?_
                  go_quiet (fail)
                  have JZ := HJ.out pre wr (wr.drewN nq) none Z9.out (grown_of_below ((Fr.refl wr).drewN nq).1) (fun r e => by cases e)
                  have KZ : KpB base Bs W (wr.drewN nq) := HK9.out.trans (KpB.of_below ((Fr.refl wr).drewN nq).1 (by omega) (by have := lt_of_cell cB; exact this))
                  have HZ : W.heap.size ≤ (wr.drewN nq).heap.size := hsz
                  have T0 : (wr.drewN nq).cell? (ad.add (j * 3)) = some (.int .i64 (kf j)) := t0
                  have T1 : (wr.drewN nq).cell? ⟨(ad.add (j * 3)).block, (ad.add (j * 3)).off + 1, none⟩ = some (.int .i64 (nf j)) := t1
                  have T2 : (wr.drewN nq).cell? ⟨(ad.add (j * 3)).block, (ad.add (j * 3)).off + 2, none⟩ = some (.bool (qf j)) := t2
                  have TB : (wr.drewN nq).cell? ⟨Bs, 0, none⟩ = some (.slice (some ad) ln lc) := cB
                  obtain ⟨wz, hwz⟩ : ∃ wz, wr.drewN nq = wz := ⟨_, rfl⟩
                  rw [hwz] at JZ KZ HZ T0 T1 T2 TB ⊢
                  clear hwz t0 t1 t2 cB
                  obtain ⟨fn, tmps, assign, body, hy, hR⟩ := HY.out pre (j, c) wz JZ (by omega)
                  dsimp only [encR] at hy
                  rw [hk0] at hy
                  have KZ9 := Lib.hid KZ
                  have HR := Lib.hid hR
                  clear JZ KZ hR
                  gi_wp2
                  refine HR.out.mono ?_
                  rintro e W3 (⟨rfl, hJ3, hk3⟩ | ⟨rfl, hJx3⟩)
                  · have E : Hid (J (pre ++ [(j, c)]) W3 ∧ KpB base Bs W W3 ∧ W.heap.size ≤ W3.heap.size) := ⟨hJ3, KZ9.out.trans hk3, Nat.le_trans HZ hk3.1.size⟩
                    clear HR hy hJ3 hk3 T0 T1 T2 TB
                    gi_wp2
                    go_roundw
                    case rel => exact ⟨s, pre ++ [(j, c)], by have := HS.out; omega, by rw [List.length_append]; simp only [List.length_cons, List.length_nil]; have := HS.out; omega, rfl, E.out⟩
                    case measure => simp [intOf]; have := HS.out; omega
                  · have E := Lib.hid hJx3
                    clear HR hy hJx3 T0 T1 T2 TB
                    gi_wp2
                    refine bodyPost_ret (results_none rfl _ _ _) rfl ?_
                    exact ⟨⟨_, rfl⟩, .inr ⟨_, trivial, E.out⟩⟩
              · have e2 : (nf s == nf j) = false := by simpa using h2
                gi_wp2
                refine wpIn_wide.2 ?_
                go_quiet (fail)
                have JZ := HJ.out pre wr (wr.drewN nq) none Z9.out (grown_of_below ((Fr.refl wr).drewN nq).1) (fun r e => by cases e)
                have KZ : KpB base Bs W (wr.drewN nq) := HK9.out.trans (KpB.of_below ((Fr.refl wr).drewN nq).1 (by omega) (by have := lt_of_cell cB; exact this))
                have HZ : W.heap.size ≤ (wr.drewN nq).heap.size := hsz
                have T0 : (wr.drewN nq).cell? (ad.add (j * 3)) = some (.int .i64 (kf j)) := t0
                have T1 : (wr.drewN nq).cell? ⟨(ad.add (j * 3)).block, (ad.add (j * 3)).off + 1, none⟩ = some (.int .i64 (nf j)) := t1
                have T2 : (wr.drewN nq).cell? ⟨(ad.add (j * 3)).block, (ad.add (j * 3)).off + 2, none⟩ = some (.bool (qf j)) := t2
                have TB : (wr.drewN nq).cell? ⟨Bs, 0, none⟩ = some (.slice (some ad) ln lc) := cB
                obtain ⟨wz, hwz⟩ : ∃ wz, wr.drewN nq = wz := ⟨_, rfl⟩
                rw [hwz] at JZ KZ HZ T0 T1 T2 TB ⊢
                clear hwz t0 t1 t2 cB
                obtain ⟨fn, tmps, assign, body, hy, hR⟩ := HY.out pre (j, c) wz JZ (by omega)
                dsimp only [encR] at hy
                rw [hk0] at hy
                have KZ9 := Lib.hid KZ
                have HR := Lib.hid hR
                clear JZ KZ hR
                gi_wp2
                refine HR.out.mono ?_
                rintro e W3 (⟨rfl, hJ3, hk3⟩ | ⟨rfl, hJx3⟩)
                · have E : Hid (J (pre ++ [(j, c)]) W3 ∧ KpB base Bs W W3 ∧ W.heap.size ≤ W3.heap.size) := ⟨hJ3, KZ9.out.trans hk3, Nat.le_trans HZ hk3.1.size⟩
                  clear HR hy hJ3 hk3 T0 T1 T2 TB
                  gi_wp2
                  go_roundw
                  case rel => exact ⟨s, pre ++ [(j, c)], by have := HS.out; omega, by rw [List.length_append]; simp only [List.length_cons, List.length_nil]; have := HS.out; omega, rfl, E.out⟩
                  case measure => simp [intOf]; have := HS.out; omega
                · have E := Lib.hid hJx3
                  clear HR hy hJx3 T0 T1 T2 TB
                  gi_wp2
                  refine bodyPost_ret (results_none rfl _ _ _) rfl ?_
                  exact ⟨⟨_, rfl⟩, .inr ⟨_, trivial, E.out⟩⟩
            · have e1 : (kf s == 0) = false := by simpa using h1
              gi_wp2
              refine wpIn_wide.2 ?_
              go_quiet (fail)
              have JZ := HJ.out pre wr (wr.drewN nq) none Z9.out (grown_of_below ((Fr.refl wr).drewN nq).1) (fun r e => by cases e)
              have KZ : KpB base Bs W (wr.drewN nq) := HK9.out.trans (KpB.of_below ((Fr.refl wr).drewN nq).1 (by omega) (by have := lt_of_cell cB; exact this))
              have HZ : W.heap.size ≤ (wr.drewN nq).heap.size := hsz
              have T0 : (wr.drewN nq).cell? (ad.add (j * 3)) = some (.int .i64 (kf j)) := t0
              have T1 : (wr.drewN nq).cell? ⟨(ad.add (j * 3)).block, (ad.add (j * 3)).off + 1, none⟩ = some (.int .i64 (nf j)) := t1
              have T2 : (wr.drewN nq).cell? ⟨(ad.add (j * 3)).block, (ad.add (j * 3)).off + 2, none⟩ = some (.bool (qf j)) := t2
              have TB : (wr.drewN nq).cell? ⟨Bs, 0, none⟩ = some (.slice (some ad) ln lc) := cB
              obtain ⟨wz, hwz⟩ : ∃ wz, wr.drewN nq = wz := ⟨_, rfl⟩
              rw [hwz] at JZ KZ HZ T0 T1 T2 TB ⊢
              clear hwz t0 t1 t2 cB
              obtain ⟨fn, tmps, assign, body, hy, hR⟩ := HY.out pre (j, c) wz JZ (by omega)
              dsimp only [encR] at hy
              rw [hk0] at hy
              have KZ9 := Lib.hid KZ
              have HR := Lib.hid hR
              clear JZ KZ hR
              gi_wp2
              refine HR.out.mono ?_
              rintro e W3 (⟨rfl, hJ3, hk3⟩ | ⟨rfl, hJx3⟩)
              · have E : Hid (J (pre ++ [(j, c)]) W3 ∧ KpB base Bs W W3 ∧ W.heap.size ≤ W3.heap.size) := ⟨hJ3, KZ9.out.trans hk3, Nat.le_trans HZ hk3.1.size⟩
                clear HR hy hJ3 hk3 T0 T1 T2 TB
                gi_wp2
                go_roundw
                case rel => exact ⟨s, pre ++ [(j, c)], by have := HS.out; omega, by rw [List.length_append]; simp only [List.length_cons, List.length_nil]; have := HS.out; omega, rfl, E.out⟩
                case measure => simp [intOf]; have := HS.out; omega
              · have E := Lib.hid hJx3
                clear HR hy hJx3 T0 T1 T2 TB
                gi_wp2
                refine bodyPost_ret (results_none rfl _ _ _) rfl ?_
                exact ⟨⟨_, rfl⟩, .inr ⟨_, trivial, E.out⟩⟩
          · have hsn : ¬ (s : Int) < ln := by omega
            gi_wp2
            refine wpIn_wide.2 ?_
            go_quiet (fail)
            have JZ := HJ.out pre wr (wr.drewN nq) none Z9.out (grown_of_below ((Fr.refl wr).drewN nq).1) (fun r e => by cases e)
            have KZ : KpB base Bs W (wr.drewN nq) := HK9.out.trans (KpB.of_below ((Fr.refl wr).drewN nq).1 (by omega) (by have := lt_of_cell cB; exact this))
            have HZ : W.heap.size ≤ (wr.drewN nq).heap.size := hsz
            have T0 : (wr.drewN nq).cell? (ad.add (j * 3)) = some (.int .i64 (kf j)) := t0
            have T1 : (wr.drewN nq).cell? ⟨(ad.add (j * 3)).block, (ad.add (j * 3)).off + 1, none⟩ = some (.int .i64 (nf j)) := t1
            have T2 : (wr.drewN nq).cell? ⟨(ad.add (j * 3)).block, (ad.add (j * 3)).off + 2, none⟩ = some (.bool (qf j)) := t2
            have TB : (wr.drewN nq).cell? ⟨Bs, 0, none⟩ = some (.slice (some ad) ln lc) := cB
            obtain ⟨wz, hwz⟩ : ∃ wz, wr.drewN nq = wz := ⟨_, rfl⟩
            rw [hwz] at JZ KZ HZ T0 T1 T2 TB ⊢
            clear hwz t0 t1 t2 cB
            obtain ⟨fn, tmps, assign, body, hy, hR⟩ := HY.out pre (j, c) wz JZ (by omega)
            dsimp only [encR] at hy
            rw [hk0] at hy
            have KZ9 := Lib.hid KZ
            have HR := Lib.hid hR
            clear JZ KZ hR
            gi_wp2
            refine HR.out.mono ?_
            rintro e W3 (⟨rfl, hJ3, hk3⟩ | ⟨rfl, hJx3⟩)
            · have E : Hid (J (pre ++ [(j, c)]) W3 ∧ KpB base Bs W W3 ∧ W.heap.size ≤ W3.heap.size) := ⟨hJ3, KZ9.out.trans hk3, Nat.le_trans HZ hk3.1.size⟩
              clear HR hy hJ3 hk3 T0 T1 T2 TB
              gi_wp2
              go_roundw
              case rel => exact ⟨s, pre ++ [(j, c)], by have := HS.out; omega, by rw [List.length_append]; simp only [List.length_cons, List.length_nil]; have := HS.out; omega, rfl, E.out⟩
              case measure => simp [intOf]; have := HS.out; omega
            · have E := Lib.hid hJx3
              clear HR hy hJx3 T0 T1 T2 TB
              gi_wp2
              refine bodyPost_ret (results_none rfl _ _ _) rfl ?_
              exact ⟨⟨_, rfl⟩, .inr ⟨_, trivial, E.out⟩⟩
        · have e0 : (kf j == 0) = false := by simpa using hk0
          gi_wp2
          refine wpIn_wide.2 ?_
          go_quiet (fail)
          have JZ := HJ.out pre wr (wr.drewN nq) none Z9.out (grown_of_below ((Fr.refl wr).drewN nq).1) (fun r e => by cases e)
          have KZ : KpB base Bs W (wr.drewN nq) := HK9.out.trans (KpB.of_below ((Fr.refl wr).drewN nq).1 (by omega) (by have := lt_of_cell cB; exact this))
          have HZ : W.heap.size ≤ (wr.drewN nq).heap.size := hsz
          have T0 : (wr.drewN nq).cell? (ad.add (j * 3)) = some (.int .i64 (kf j)) := t0
          have T1 : (wr.drewN nq).cell? ⟨(ad.add (j * 3)).block, (ad.add (j * 3)).off + 1, none⟩ = some (.int .i64 (nf j)) := t1
          have T2 : (wr.drewN nq).cell? ⟨(ad.add (j * 3)).block, (ad.add (j * 3)).off + 2, none⟩ = some (.bool (qf j)) := t2
          have TB : (wr.drewN nq).cell? ⟨Bs, 0, none⟩ = some (.slice (some ad) ln lc) := cB
          obtain ⟨wz, hwz⟩ : ∃ wz, wr.drewN nq = wz := ⟨_, rfl⟩
          rw [hwz] at JZ KZ HZ T0 T1 T2 TB ⊢
          clear hwz t0 t1 t2 cB
          obtain ⟨fn, tmps, assign, body, hy, hR⟩ := HY.out pre (j, c) wz JZ (by omega)
          dsimp only [encR] at hy
          have KZ9 := Lib.hid KZ
          have HR := Lib.hid hR
          clear JZ KZ hR
          gi_wp2
          refine HR.out.mono ?_
          rintro e W3 (⟨rfl, hJ3, hk3⟩ | ⟨rfl, hJx3⟩)
          · have E : Hid (J (pre ++ [(j, c)]) W3 ∧ KpB base Bs W W3 ∧ W.heap.size ≤ W3.heap.size) := ⟨hJ3, KZ9.out.trans hk3, Nat.le_trans HZ hk3.1.size⟩
            clear HR hy hJ3 hk3 T0 T1 T2 TB
            gi_wp2
            go_roundw
            case rel => exact ⟨s, pre ++ [(j, c)], by have := HS.out; omega, by rw [List.length_append]; simp only [List.length_cons, List.length_nil]; have := HS.out; omega, rfl, E.out⟩
            case measure => simp [intOf]; have := HS.out; omega
          · have E := Lib.hid hJx3
            clear HR hy hJx3 T0 T1 T2 TB
            gi_wp2
            refine bodyPost_ret (results_none rfl _ _ _) rfl ?_
            exact ⟨⟨_, rfl⟩, .inr ⟨_, trivial, E.out⟩⟩
    · obtain rfl : ln = j := by omega
      have hdl : ¬ ((ln : Int) < ln) := by omega
      have E := Lib.hid hJs
      clear hJs hK
      gi_wp2
      go_end0
      exact ⟨⟨_, rfl⟩, .inl ⟨pre, hpj, E.out⟩⟩
theorem encs_size (kf nf : Nat → Int) (qf : Nat → Bool) (x : Nat × Nat) : (encR kf nf qf x).size = 2 := rfl
theorem runs_stops (n Bs base : Nat) (la : Option Addr) (ln lc : Nat) (kf nf : Nat → Int) (qf : Nat → Bool) (w : World) (hn : 1 ≤ n) (hln : ln ≤ 2000) (hn0 : base ≤ w.heap.size) (hBs : w.heap[Bs]? = some (.cells #[.slice la ln lc] 59)) (hL : Lns w base la ln kf nf qf) :
    SeqStopsK Fence.wide n Try.prog 58 #[.pointer (some ⟨Bs, 0, none⟩)] (encR kf nf qf) (KpB base Bs) (fun ys => ys.length ≤ ln) (fun _ => True) ln w :=
  fun l J Jx W hW hJ _ hY h0 => runs1_in n l Bs base la ln lc kf nf qf J Jx hn hln hY W (Nat.le_trans hn0 hW.size) (keepB hW hBs) (hL.keep ⟨hW.mono hn0, Nat.le_trans hn0 hW.size⟩) hJ h0
end Go.Proofs.Ytcfbbimahbhgjaa
