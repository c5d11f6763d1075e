/- The document's Copy and Same; ram's New of a wrong size. -/
import Derived.Test.YtbboaekfhdeolaaRpE2
import Derived.Deep.AppendLies
namespace Go.Proofs.Ytbboaekfhdeolaa
open Go.RowKit
set_option linter.unusedSimpArgs false
set_option linter.unusedVariables false
attribute [local simp high] sizeLL zeroLL sizeLR zeroLR

theorem info_u8 : (Try.prog.info? 5).map (fun i => (i.zero, i.size, i.bytes)) = some (some (.int .u8 0), 1, 1) := by kernel_rfl
theorem own_empty (w : World) {base : Nat} (h : base ≤ w.heap.size) (E : TypeId) {b : Nat} (hb : w.heap.size = b) : (w.alloc (.cells #[] E)).ownsRow base E 1 (.slice (some ⟨b, 0, none⟩) 0 0) 0 [] := by
  subst hb
  exact ⟨rfl, .inr ⟨_, 0, #[], rfl, h, heap_alloc_new w _, Nat.le_refl _, Nat.zero_le _, rfl, rfl⟩⟩
theorem add_zero_none (c j : Nat) : (⟨c, 0, none⟩ : Addr).add j = ⟨c, j, none⟩ := by unfold Addr.add; split <;> simp_all
theorem XB.news {w : World} {c n : Nat} {x : Nat → Nat} (h : XB w c n x) : ∀ j u, (byteCells x n)[j]? = some u → w.cell? ((⟨c, 0, none⟩ : Addr).add j) = some u := by
  intro j u hu
  rw [add_zero_none]
  have hj : j < n := by
    have := (List.getElem?_eq_some_iff.1 hu).1
    rwa [byteCells_len] at this
  rw [(h.2 j hj).1]
  simpa [byteCells, hj] using hu
theorem byteCells_one (x : Nat → Nat) (n : Nat) : ∀ u ∈ byteCells x n, u.oneCell' = true := by
  intro u hu
  simp only [byteCells, List.mem_map] at hu
  obtain ⟨i, _, rfl⟩ := hu
  rfl
theorem XB.own {w : World} {base c n cap : Nat} {x : Nat → Nat} {E : TypeId} (h : w.ownsRow base E 1 (.slice (some ⟨c, 0, none⟩) n cap) n (byteCells x n)) (hn : 0 < n) : XB w c n x ∧ base ≤ c := by
  obtain ⟨_, hv | ⟨g, cap', cur, hv, hb, hh, hle, hm, hs, ht⟩⟩ := h
  · cases hv.1
  · simp only [Value.slice.injEq, Option.some.injEq, Addr.mk.injEq] at hv
    obtain ⟨⟨rfl, _⟩, _, rfl⟩ := hv
    refine ⟨⟨lt_of_at hh, fun i hi => ⟨?_, by simp [World.frozen?, hh]⟩⟩, hb⟩
    rw [cell_at hh]
    have : cur.toList[i]? = (byteCells x n)[i]? := by
      rw [← ht, List.getElem?_take, if_pos (by omega)]
    rw [Array.getElem?_toList] at this
    rw [this]
    simp [byteCells, hi]
theorem copy_kr {w w1 : World} {o : Obj} {cs : Array Value} {E t : TypeId} (hgrow : (((w.alloc o).alloc (.cells cs t)).alloc (.cells #[] E)).grownBy w1 (some (w.heap.size + 1 + 1))) : w1.heap[w.heap.size + 1]? = some (.cells cs t) ∧ Fr w.heap.size w w1 := by
  constructor
  · rw [hgrow.block _ (by simp <;> omega) (by simp)]
    exact keep_alloc (by simpa using heap_alloc_new (w.alloc o) (.cells cs t)) _
  · refine ⟨⟨hgrow.os, hgrow.tape, hgrow.output, Nat.le_trans (by simp <;> omega) hgrow.size, fun k hk => ?_⟩, Nat.le_trans (by simp <;> omega) hgrow.size⟩
    rw [hgrow.block k (by simp <;> omega) (by simp <;> omega)]
    exact ((((Fr.refl w).alloc _).alloc _).alloc _).1.block k hk
theorem fr_at {w : World} {b o : Nat} {cs : Array Value} {t : TypeId} (h : w.heap[b]? = some (.cells cs t)) : w.frozen? ⟨b, o, none⟩ = false := by simp [World.frozen?, h]
set_option maxRecDepth 100000 in
set_option maxHeartbeats 4000000 in
theorem rcopy_any (c cap L : Nat) (x : Nat → Nat) (w : World) (h1 : 1 ≤ L) (hL : L ≤ 4096) (hX : XB w c (64 * L) x) :
    Calls Try.prog 35 #[.agg #[.slice (some ⟨c, 0, none⟩) (64 * L) cap]] w fun e w' => ∃ c' cap', e = .returned (.agg #[.slice (some ⟨c', 0, none⟩) (64 * L) cap']) ∧ XB w' c' (64 * L) x ∧ w.heap.size ≤ c' ∧ Below w.heap.size w w' := by
  obtain ⟨T, hT⟩ : ∃ T, 64 * L = T := ⟨_, rfl⟩
  have hT0 : 0 < T := by omega
  have hT1 : T ≤ 262144 := by omega
  rw [hT] at hX ⊢
  clear hT
  obtain ⟨i0, hi, hz0, hz1, hz2⟩ := info_parts info_u8
  have HX := Lib.hid hX
  clear hX
  go_enter Try.func35, Try.ntmps35
  go_wp2_with (at_builtin; refine wpList_append_lies _ rfl (.tmp 3) (.tmp 5) 22 rfl w.heap.size 5 i0 (.int .u8 0) 1 1 Try.underlying22 hi hz0 hz1 hz2 rfl (by decide) _ 0 [] (by rfl) (own_empty _ (by simp; omega) _ (by simp)) ⟨c, 0, none⟩ T cap (byteCells x T) (by rfl) (by rw [byteCells_len, Nat.mul_one]) (((HX.out.alloc _).alloc _).alloc _).news (byteCells_one _ _) hT0 (by unfold maxLen; omega) (by omega) (by simp; omega) (w.heap.size + 1 + 1 + 1) (by simp) ?_; intro g cap' w1 hown hgrow hat hlt; obtain ⟨kr, FG⟩ := copy_kr hgrow; have cr := cell_at (o := 0) kr; have fr := fr_at (o := 0) kr)
  rw [Nat.zero_add, List.nil_append] at hown
  obtain ⟨hxb, hg⟩ := XB.own hown hT0
  have hne : w.heap.size + 1 ≠ g := by
    rcases hat with h | h
    · simp [Value.ownBlock] at h; omega
    · omega
  have k2 := set_at kr 0 (.slice (some ⟨g, 0, none⟩) T cap')
  have E := Lib.hid (And.intro (FG.setCell (p := ⟨w.heap.size + 1, 0, none⟩) (by simp) (.slice (some ⟨g, 0, none⟩) T cap')) (And.intro hg (hxb.same (w' := w1.setCell ⟨w.heap.size + 1, 0, none⟩ (.slice (some ⟨g, 0, none⟩) T cap')) (by simp [World.setCell]) (by rw [RowKit.Below.heap_setCell _ _ _ _ (fun h => hne h.symm)]))))
  have K2 := Lib.hid k2
  clear hown hgrow hat hlt kr hxb hg FG k2
  go_wp2
  refine bodyPost_ret (results_cell_row Try.results35 _ _ (w.heap.size + 1) 66 _ _ _ rfl K2.out Try.underlying66 rfl (by kernel_rfl)) rfl ⟨g, cap', rfl, E.out.2.2, E.out.2.1, E.out.1.1⟩
/-- Are the first n bytes the same? -/
def eqB (x y : Nat → Nat) : Nat → Bool
  | 0 => true
  | n + 1 => eqB x y n && decide (x n = y n)
theorem eqB_iff (x y : Nat → Nat) : ∀ n, eqB x y n = true ↔ ∀ i, i < n → x i = y i
  | 0 => by simp [eqB]
  | n + 1 => by
    simp only [eqB, Bool.and_eq_true, decide_eq_true_eq, eqB_iff x y n]
    constructor
    · rintro ⟨h1, h2⟩ i hi
      by_cases e : i = n
      · subst e; exact h2
      · exact h1 i (by omega)
    · intro h
      exact ⟨fun i hi => h i (by omega), h n (by omega)⟩
set_option maxRecDepth 100000 in
set_option maxHeartbeats 4000000 in
theorem rsame_any (c cap c' cap' L : Nat) (x y : Nat → Nat) (q : Bool) (w : World) (hL : L ≤ 4096) (hx8 : ∀ i, x i < 256) (hy8 : ∀ i, y i < 256) (hX : XB w c (64 * L) x) (hY : XB w c' (64 * L) y) (hq : eqB x y (64 * L) = q) :
    Calls Try.prog 36 #[.agg #[.slice (some ⟨c, 0, none⟩) (64 * L) cap], .agg #[.slice (some ⟨c', 0, none⟩) (64 * L) cap']] w fun e w' => e = .returned (.bool q) ∧ Below w.heap.size w w' := by
  obtain ⟨T, hT⟩ : ∃ T, 64 * L = T := ⟨_, rfl⟩
  have hT1 : (T : Int) ≤ 262144 := by omega
  rw [hT] at hX hY hq ⊢
  have HQ := Lib.hid hq
  clear hT hq
  go_enter Try.func36, Try.ntmps36
  go_wp2
  obtain ⟨w1, hw1⟩ : ∃ w1, w1 = (w.alloc (.cells #[.slice (some ⟨c, 0, none⟩) T cap] 66)).alloc (.cells #[.slice (some ⟨c', 0, none⟩) T cap'] 66) := ⟨_, rfl⟩
  have F0 : Fr w.heap.size w w1 := by rw [hw1]; exact ((Fr.refl w).alloc _).alloc _
  have b0 : w1.heap[w.heap.size]? = some (.cells #[.slice (some ⟨c, 0, none⟩) T cap] 66) := by rw [hw1]; exact keep_alloc (heap_alloc_new _ _) _
  have b1 : w1.heap[w.heap.size + 1]? = some (.cells #[.slice (some ⟨c', 0, none⟩) T cap'] 66) := by rw [hw1]; simpa using heap_alloc_new (w.alloc (.cells #[.slice (some ⟨c, 0, none⟩) T cap] 66)) (.cells #[.slice (some ⟨c', 0, none⟩) T cap'] 66)
  have hX1 := hX.keep F0.1
  have hY1 := hY.keep F0.1
  rw [← hw1]
  clear hw1 hX hY
  go_loopw [5] (fun u wr => ∃ k : Nat, k ≤ T ∧ u = .int .i64 (k : Int) ∧ eqB x y k = true ∧ Fr w1.heap.size w1 wr)
    (fun u _ => T - (intOf u).toNat)
  case atStart => exact ⟨0, by omega, rfl, rfl, Fr.refl _⟩
  case round =>
    obtain ⟨k, hk, rfl, hE, hF⟩ := hrel
    have cB : wr.cell? ⟨w.heap.size, 0, none⟩ = some (.slice (some ⟨c, 0, none⟩) T cap) := by rw [cell_at (keepB hF.1 b0)]; rfl
    have cB1 : wr.cell? ⟨w.heap.size + 1, 0, none⟩ = some (.slice (some ⟨c', 0, none⟩) T cap') := by rw [cell_at (keepB hF.1 b1)]; rfl
    by_cases hlt : k < T
    · have hj0 : (0 : Int) ≤ k := by omega
      have hlt' : (k : Int) < T := by omega
      have cx := ((hX1.keep hF.1).2 k hlt).1
      have cy := ((hY1.keep hF.1).2 k hlt).1
      have h8 := hx8 k
      have h8' := hy8 k
      by_cases he : x k = y k
      · have e1 : eqB x y (k + 1) = true := by simp [eqB, hE, he]
        rw [he] at cx
        obtain ⟨z, hz⟩ : ∃ z, y k = z := ⟨_, rfl⟩
        rw [hz] at cx cy
        have E := Lib.hid (And.intro e1 (fun n => hF.drewN n))
        clear e1 hF hE hz he b0 b1 hX1 hY1 F0 hx8 hy8 h8 h8'
        go_wp2
        go_quiet (fail)
        go_wp2
        go_roundw
        case rel => exact ⟨k + 1, by omega, by go_num, E.out.1, E.out.2 _⟩
        case measure => simp [intOf]; omega
      · have hqf : q = false := by
          rw [← HQ.out]
          cases h : eqB x y T with
          | false => rfl
          | true => exact absurd ((eqB_iff x y T).1 h k hlt) he
        subst hqf
        obtain ⟨z, hz⟩ : ∃ z, y k = z := ⟨_, rfl⟩
        obtain ⟨z', hz'⟩ : ∃ z, x k = z := ⟨_, rfl⟩
        rw [hz, hz'] at he
        rw [hz] at cy
        rw [hz'] at cx
        have hne : ¬ ((z' : Int) = (z : Int)) := by omega
        have E := Lib.hid (fun n => F0.step' (hF.drewN n).1)
        clear hF hE hz hz' he b0 b1 hX1 hY1 F0 hx8 hy8 h8 h8' HQ
        go_wp2
        go_quiet (fail)
        go_wp2
        go_ret
        exact ⟨rfl, (E.out _).1⟩
    · have e : k = T := by omega
      subst e
      have hqt : q = true := by rw [← HQ.out]; exact hE
      subst hqt
      have FF := Lib.hid (F0.step' hF.1)
      clear hF hX1 hY1 b0 b1 F0 hE HQ
      go_wp2
      go_ret
      exact ⟨rfl, FF.out.1⟩
theorem ramnew_no (n : Int) (w : World) (h : ¬ (1 ≤ n ∧ n ≤ 4096)) :
    Calls Try.prog 24 #[.int .i64 n] w fun e w' => e = .returned (.tuple #[.pointer none, .int .i64 1]) ∧ Below w.heap.size w w' := by
  by_cases h1 : n < 1
  · have d1 : decide (n < 1) = true := by simp; omega
    clear h
    go_enter Try.func24, Try.ntmps24
    go_wp2
    go_ret2
    exact ⟨rfl, (Fr.refl w).1⟩
  · have d1 : decide (n < 1) = false := by simp; omega
    have d2 : decide (4096 < n) = true := by simp; omega
    clear h
    go_enter Try.func24, Try.ntmps24
    go_wp2
    go_ret2
    exact ⟨rfl, (Fr.refl w).1⟩
end Go.Proofs.Ytbboaekfhdeolaa
