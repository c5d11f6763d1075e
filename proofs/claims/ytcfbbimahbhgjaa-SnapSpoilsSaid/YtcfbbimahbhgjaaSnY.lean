/- Snap: what writes a script. -/
import Derived.Test.YtcfbbimahbhgjaaSnX
namespace Go.Proofs.Ytcfbbimahbhgjaa
open Go.RowKit Go.Shelf
set_option linter.unusedSimpArgs false
set_option linter.unusedVariables false
attribute [local go_sem] Oper.semAt_some

/-! ## The writer's state, whatever stays. -/
def WQ (w0 : World) (base b k : Nat) (K : Nat → Obj → Prop) (w : World) : Prop := ∃ a n cap l, WA w base b a n cap l ∧ n ≤ k ∧ (∀ x ∈ l, x < 256) ∧ (∀ i o, K i o → w.heap[i]? = some o ∧ i ≠ b ∧ ob a ≠ some i) ∧ Fr base w0 w
theorem WZ.q {w0 w : World} {base b k : Nat} {K : List (Nat × Obj)} (h : WZ w0 base b k K w) : WQ w0 base b k (fun i o => (i, o) ∈ K) w := by
  obtain ⟨a, n, cap, l, hA, hn, h8, hK, hF⟩ := h
  exact ⟨a, n, cap, l, hA, hn, h8, fun i o hi => hK (i, o) hi, hF⟩
theorem WQ.z {w0 w : World} {base b k : Nat} {K : Nat → Obj → Prop} {L : List (Nat × Obj)} (h : WQ w0 base b k K w) (hL : ∀ i o, (i, o) ∈ L → K i o) : WZ w0 base b k L w := by
  obtain ⟨a, n, cap, l, hA, hn, h8, hK, hF⟩ := h
  exact ⟨a, n, cap, l, hA, hn, h8, fun io hi => hK io.1 io.2 (hL _ _ hi), hF⟩
/-- What the writer writes in: its block, and a row of bytes. -/
theorem WA.other {w : World} {base b n cap : Nat} {a : Option Addr} {l : List Nat} (h : WA w base b a n cap l) {i : Nat} {o : Obj} (hi : w.heap[i]? = some o) (h1 : ∀ cs t f, o = .cells cs t f → t ≠ 5 ∧ t ≠ 33) : i ≠ b ∧ ob a ≠ some i := by
  refine ⟨fun e => ?_, fun e => ?_⟩
  · subst e
    rw [h.hb] at hi
    cases hi
    exact (h1 _ _ _ rfl).2 rfl
  · obtain ⟨_, ⟨rfl, _⟩ | ⟨g, cur, fz, rfl, _, hg, _⟩⟩ := h.own
    · cases e
    · cases e
      rw [hg] at hi
      cases hi
      exact (h1 _ _ _ rfl).1 rfl
theorem WZ.add {w0 w : World} {base b k : Nat} {K : List (Nat × Obj)} (h : WZ w0 base b k K w) {i : Nat} {o : Obj} (hi : w.heap[i]? = some o) (h1 : ∀ cs t f, o = .cells cs t f → t ≠ 5 ∧ t ≠ 33) : WZ w0 base b k ((i, o) :: K) w := by
  obtain ⟨a, n, cap, l, hA, hn, h8, hK, hF⟩ := h
  refine ⟨a, n, cap, l, hA, hn, h8, fun io hio => ?_, hF⟩
  rcases List.mem_cons.1 hio with rfl | hio
  · exact ⟨hi, hA.other hi h1⟩
  · exact hK io hio
/-- The state, and all that is no cells, from the world itself on. -/
theorem WZ.self {w0 w : World} {base b k : Nat} {K : List (Nat × Obj)} (h : WZ w0 base b k K w) : WQ w base b k (fun i o => (i, o) ∈ K ∨ (w.heap[i]? = some o ∧ o.isCells = false)) w := by
  obtain ⟨a, n, cap, l, hA, hn, h8, hK, hF⟩ := h
  refine ⟨a, n, cap, l, hA, hn, h8, fun i o hi => ?_, ⟨Below.refl _ _, hF.2⟩⟩
  rcases hi with hi | ⟨hi, ho⟩
  · exact hK (i, o) hi
  · exact ⟨hi, hA.other hi fun cs t f e => by subst e; cases ho⟩
theorem WQ.at {w0 w : World} {base b k i : Nat} {o : Obj} {K : Nat → Obj → Prop} (h : WQ w0 base b k K w) (hk : K i o) : w.heap[i]? = some o := by
  obtain ⟨_, _, _, _, _, _, _, hK, _⟩ := h
  exact (hK i o hk).1
theorem WQ.fr {w0 w : World} {base b k : Nat} {K : Nat → Obj → Prop} (h : WQ w0 base b k K w) : Fr base w0 w := by
  obtain ⟨_, _, _, _, _, _, _, _, hF⟩ := h; exact hF
theorem WZ.rebase {w0 W w : World} {base b k : Nat} {L : List (Nat × Obj)} (h : WZ W base b k L w) (hF : Fr base w0 W) : WZ w0 base b k L w := by
  obtain ⟨a, n, cap, l, hA, hn, h8, hK, hF2⟩ := h
  exact ⟨a, n, cap, l, hA, hn, h8, hK, ⟨hF.1.trans hF2.1, hF2.2⟩⟩
theorem WQ.step {w0 w w' : World} {base b k m : Nat} {K : Nat → Obj → Prop} {a : Option Addr} {n cap : Nat} {l m' : List Nat} (hA : WA w base b a n cap l) (hn : n ≤ k) (h8 : ∀ x ∈ l, x < 256) (hK : ∀ i o, K i o → w.heap[i]? = some o ∧ i ≠ b ∧ ob a ≠ some i) (hF : Fr base w0 w)
    (hP : WP base b a w (l ++ m') w') (hm : m'.length ≤ m) (hm8 : ∀ x ∈ m', x < 256) : WQ w0 base b (k + m) K w' := by
  obtain ⟨a', n', cap', hA', hS⟩ := hP
  refine ⟨a', n', cap', _, hA', ?_, ?_, fun i o hi => ?_, hS.fr hA hF⟩
  · have := hA'.len; have := hA.len; rw [List.length_append] at *; omega
  · intro x hx
    rcases List.mem_append.1 hx with h | h
    · exact h8 x h
    · exact hm8 x h
  · obtain ⟨h1, h2, h3⟩ := hK i o hi
    have hlt := lt_of_at h1
    refine ⟨(hS.block _ hlt h2 h3).trans h1, h2, ?_⟩
    rcases hS.new with e | ⟨g, e, hg⟩
    · rw [e]; exact h3
    · rw [e]; intro e2; cases e2; omega
theorem num_q {w0 w : World} {base b k : Nat} {K : Nat → Obj → Prop} (x : Int) (h0 : 0 ≤ x) (h1 : x < 18446744073709551616) (h : WQ w0 base b k K w) (hk : k ≤ 400000000) :
    Calls Try.prog 6 #[.pointer (some ⟨b, 0, none⟩), .int .u64 x] w fun e w' => (∃ v, e = .returned v) ∧ WQ w0 base b (k + 10) K w' := by
  obtain ⟨a, n, cap, l, hA, hn, h8, hK, hF⟩ := h
  obtain ⟨N, rfl⟩ : ∃ N : Nat, x = N := ⟨x.toNat, by omega⟩
  have hN : N < 18446744073709551616 := by omega
  exact (num_any base b N n cap a l w hN hA (by omega) hF.2).mono fun e w' ⟨hv, hP⟩ => ⟨hv, WQ.step hA hn h8 hK hF hP (numL_ten hN) (numL_8 N)⟩
theorem truth_q {w0 w : World} {base b k : Nat} {K : Nat → Obj → Prop} (q : Bool) (h : WQ w0 base b k K w) (hk : k ≤ 400000000) :
    Calls Try.prog 8 #[.pointer (some ⟨b, 0, none⟩), .bool q] w fun e w' => (∃ v, e = .returned v) ∧ WQ w0 base b (k + 10) K w' := by
  obtain ⟨a, n, cap, l, hA, hn, h8, hK, hF⟩ := h
  exact (wtruth_any base b n cap q a l w hA (by omega) hF.2).mono fun e w' ⟨hv, hP⟩ => ⟨hv, WQ.step hA hn h8 hK hF hP (by simp) (by intro x hx; simp at hx; subst hx; cases q <;> decide)⟩
/-- The state outlasts whatever is done to an object that is no cells. -/
theorem WZ.own {w0 W W' : World} {base b k B : Nat} {K : List (Nat × Obj)} {row : Option Nat} (h : WZ w0 base b k K W) (hB : base ≤ B) (hK : ∀ io ∈ K, io.1 < B ∨ io.2.isCells = true) (hg : W.grownBy W' row) (hr : ∀ r, row = some r → B ≤ r ∧ ∃ o : Obj, W.heap[r]? = some o ∧ o.isCells = false) : WZ w0 base b k K W' := by
  obtain ⟨a, n, cap, l, hA, hn, h8, hKK, hF⟩ := h
  have hc : ∀ i cs t f, W.heap[i]? = some (Obj.cells cs t f) → W'.heap[i]? = some (Obj.cells cs t f) := fun i cs t f hi => by
    rw [hg.block i (lt_of_at hi) (fun e => ?_)]
    · exact hi
    · obtain ⟨_, o, ho, hc⟩ := hr _ e.symm
      rw [hi] at ho
      cases ho
      cases hc
  refine ⟨a, n, cap, l, ⟨hc _ _ _ _ hA.hb, hA.own.same fun g hgg => ?_, hA.ne, hA.lb⟩, hn, h8, fun io hio => ?_, ⟨⟨hg.os.trans hF.1.os, hg.tape.trans hF.1.tape, hg.output.trans hF.1.output, Nat.le_trans hF.1.size hg.size, fun i hi => ?_⟩, Nat.le_trans hF.2 hg.size⟩⟩
  · obtain ⟨_, ⟨rfl, _⟩ | ⟨g', cur, fz, rfl, _, hgg', _⟩⟩ := hA.own
    · cases hgg
    · cases hgg
      rw [hc _ _ _ _ hgg', hgg']
  · obtain ⟨h1, h2, h3⟩ := hKK io hio
    refine ⟨?_, h2, h3⟩
    rcases hK io hio with hlt | hcs
    · rw [hg.block _ (lt_of_at h1) (fun e => by have := (hr _ e.symm).1; omega)]
      exact h1
    · obtain ⟨i, o⟩ := io
      cases o <;> first | exact hc _ _ _ _ h1 | cases hcs
  · rw [hg.block i (Nat.lt_of_lt_of_le hi hF.2) (fun e => by have := (hr _ e.symm).1; omega)]
    exact hF.1.block i hi
theorem WZ.setHd {w0 w : World} {base b k i : Nat} {K : List (Nat × Obj)} {v u : Value} {t : TypeId} (h : WZ w0 base b k ((i, .cells #[v] t) :: K) w) (hb : base ≤ i) (hK : ∀ io ∈ K, io.1 ≠ i) : WZ w0 base b k ((i, .cells #[u] t) :: K) (w.setCell ⟨i, 0, none⟩ u) := by
  obtain ⟨a, n, cap, l, hA, hn, h8, hKK, hF⟩ := h
  obtain ⟨h1, h2, h3⟩ := hKK (i, .cells #[v] t) (List.mem_cons_self ..)
  refine ⟨a, n, cap, l, ⟨keep_setCell hA.hb h2 u, hA.own.same fun g hg => RowKit.Below.heap_setCell _ _ _ _ (fun e => h3 (by rw [hg, e])), hA.ne, hA.lb⟩, hn, h8, fun io hio => ?_, hF.setCell hb u⟩
  rcases List.mem_cons.1 hio with rfl | hio
  · refine ⟨?_, h2, h3⟩
    simp only at h1 ⊢
    simp [World.setCell, Array.getElem?_modify, h1]
  · exact ⟨keep_setCell (hKK io (List.mem_cons_of_mem _ hio)).1 (fun e => hK io hio e.symm) u, (hKK io (List.mem_cons_of_mem _ hio)).2⟩
/-- A range over a function, the round's variables as a function of what has come (and of the block of a variable of the round). -/
theorem rangeFunc_F {α : Type} {n : Nat} {P : Program} {g : Operand} {ps : Array Tmp} {assign body : Code} {Q : Exit → Act → World → Prop} {a : Act} {w : World} (o : α → Obj) (ho : ∀ x, (o x).isCells = true)
    (h1 : 1 ≤ n) {gf : Nat} {lb : Array Value} (hg : a.eval g = .func (.func gf) #[] lb) (eg : ∀ args w, (callFunc gf args).run P w = .ok (.enter gf args) w)
    {encs : α → Array Value} {Kp : World → World → Prop} {S Sp : List α → Prop} {N : Nat} {w0 : World} (hseq : SeqStopsK Fence.wide (n - 1) P gf lb encs Kp S Sp N w0)
    (hKt : ∀ {A B C : World}, Kp A B → Kp B C → Kp A C) (hKb : ∀ (W : World) (l : Nat) (o o' : Obj), w.heap.size ≤ l → W.heap[l]? = some o → o.isCells = false → o.isWalk = false → Kp W (W.putObj l o')) (hb0 : Below w0.heap.size w0 w) (hps : ∀ x, (encs x).size = ps.size)
    (I : List α → World → Prop) (hI : OwnFrom w.heap.size I) (h0 : I [] w)
    (hF : ∃ F : α → Nat → Act, (∀ (l : Nat) (pre : List α) (x : α) (W : World) (K : Act → World → Prop), I pre W → (∀ a' W', KeepsFrom w.heap.size W W' → Kp W W' → I pre W' → (∃ Bx, W'.heap[Bx]? = some (o x) ∧ a' = F x Bx) → K a' W') →
      assign.wpIn (Fence.wide.inRound l) (n - 1 - 1) P (Exit.then K (fun _ _ _ => False)) { tmps := (ps.zip (encs x)).foldl (fun t (p, v) => t.setIfInBounds p v) a.tmps, defers := [] } W) ∧ (∀ (l : Nat) (pre : List α) (x : α) (Bx : Nat) (W : World), w.heap.size ≤ l → I pre W → W.heap[Bx]? = some (o x) → pre.length < N → body.wpIn (Fence.wide.inRound l) (n - 1 - 1) P (ownPostG w.heap.size Kp I (fun _ _ _ => False) (pre ++ [x]) W) (F x Bx) W))
    (hdone : ∀ (D : Nat) (xs : List α) (W : World), w.heap.size ≤ D → S xs → I xs W → W.heap[D]? = some (.deferred (some [])) → Q .normal { a with defers := { target := .collected D, args := #[] } :: a.defers } W) :
    (Code.rangeFunc g ps assign body).wp P Q a w := by
  obtain ⟨F, hassign, hbody⟩ := hF
  exact (wpIn_wide (n := n)).1 (wpIn_rangeFunc_ownH rfl h1 hg trivial eg hseq hKt hKb hb0 hps I (fun _ _ _ => False) hI (fun _ _ _ _ _ hs _ _ => hs) h0
    (fun x a' W => ∃ Bx, W.heap[Bx]? = some (o x) ∧ a' = F x Bx)
    (fun x a' s W W' row hs hg hr => by
      obtain ⟨Bx, h2, h3⟩ := hs
      refine ⟨Bx, (hg.block Bx (lt_of_at h2) (fun e => ?_)).trans h2, h3⟩
      obtain ⟨_, ob', ho', hc⟩ := hr _ e.symm
      rw [h2] at ho'
      cases ho'
      rw [ho x] at hc
      cases hc)
    hassign (fun l pre x a' W hl _ hi ⟨Bx, h2, h3⟩ hlt => by subst h3; exact hbody l pre x Bx W hl hi h2 hlt) hdone (fun _ _ _ _ _ _ h _ => h.elim))
theorem u64_wrap (x : Int) : 0 ≤ IntKind.u64.wrap x ∧ IntKind.u64.wrap x < 18446744073709551616 := by rw [IntKind.wrap_u64]; omega
theorem budAt {w : World} {x : Nat} {h c l t g0 g1 g2 g3 g4 g5 g6 g7 : Int} {pa la : Option Addr} {pn pc ln lc : Nat} {f : Nat × Nat} (h9 : w.heap[x]? = some (.cells #[.int .i64 h, .int .i64 c, .int .i64 l, .int .i64 t, .int .i64 g0, .int .i64 g1, .int .i64 g2, .int .i64 g3, .int .i64 g4, .int .i64 g5, .int .i64 g6, .int .i64 g7, .slice pa pn pc, .slice la ln lc] 61 f)) {j : Nat} (hj : j < 8) : ∃ y : Int, w.cell? ⟨x, 4 + j, none⟩ = some (.int .i64 y) := by
  have hh : j = 0 ∨ j = 1 ∨ j = 2 ∨ j = 3 ∨ j = 4 ∨ j = 5 ∨ j = 6 ∨ j = 7 := by omega
  rcases hh with rfl | rfl | rfl | rfl | rfl | rfl | rfl | rfl <;> (rw [cell_at h9]; exact ⟨_, rfl⟩)
set_option maxRecDepth 100000 in
set_option maxHeartbeats 2000000 in
theorem scriptc_z {w0 w : World} {base b x H : Nat} {c l t g0 g1 g2 g3 g4 g5 g6 g7 : Int} {pa la : Option Addr} {pn pc ln lc : Nat} {pl : Nat → Nat} {kf nf : Nat → Int} {qf : Nat → Bool} (hH : H ≤ 8) (hpn : pn ≤ 300) (hln : ln ≤ 2000) (hpl : ∀ i, i < pn → pl i ≤ 400)
    (hP : Parts w0 base pa pn pl) (hL : Lns w0 base la ln kf nf qf) (h : WZ w0 base b 3 [(x, .cells #[.int .i64 (H : Int), .int .i64 c, .int .i64 l, .int .i64 t, .int .i64 g0, .int .i64 g1, .int .i64 g2, .int .i64 g3, .int .i64 g4, .int .i64 g5, .int .i64 g6, .int .i64 g7, .slice pa pn pc, .slice la ln lc] 61)] w) :
    Calls Try.prog 44 #[.pointer (some ⟨b, 0, none⟩), .pointer (some ⟨x, 0, none⟩)] w fun e w' => (∃ v, e = .returned v) ∧ WZ w0 base b 400000 [] w' := by
  have hH0 : (0 : Int) ≤ (H : Int) := by omega
  have hH8 : (H : Int) ≤ 8 := by omega
  have HP := Lib.hid hP
  have HL := Lib.hid hL
  have HPL := Lib.hid hpl
  clear hP hL hpl
  obtain ⟨B, hB⟩ : ∃ B, w.heap.size = B := ⟨_, rfl⟩
  have Z1 := h.new (.cells #[.pointer (some ⟨b, 0, none⟩)] 23)
  rw [hB] at Z1
  obtain ⟨w1, hw1⟩ : ∃ w1, w.alloc (.cells #[.pointer (some ⟨b, 0, none⟩)] 23) = w1 := ⟨_, rfl⟩
  rw [hw1] at Z1
  obtain ⟨s0, s1, s2, s3, s4, s5, s6, s7, s8, s9, s10, s11, s12, s13⟩ := fourteen Z1.tail.hd
  clear h
  refine (callsIn_wide (n := 5)).1 (callsIn_of_wp_marks Try.func44 rfl trivial ?_ rfl)
  simp only [Try.ntmps44, List.size_toArray, List.length_cons, List.length_nil, Nat.reduceAdd, Nat.reduceSub, Array.replicate_succ, Array.replicate_zero, List.push_toArray, List.append_toArray, List.nil_append, List.cons_append]
  refine wpIn_wide.2 ?_
  go_wp2_with fail
  have Z9 := Lib.hid Z1
  clear s0 s1 s2 s3 s4 s5 s6 s7 s8 s9 s10 s11 s12 s13
  clear hw1 Z1 hB
  go_loopw [25] (fun u wr => ∃ j : Nat, j ≤ 4 ∧ u = .int .i64 (j : Int) ∧ WZ w0 base b (3 + 10 * j) [(B, .cells #[.pointer (some ⟨b, 0, none⟩)] 23), (x, .cells #[.int .i64 (H : Int), .int .i64 c, .int .i64 l, .int .i64 t, .int .i64 g0, .int .i64 g1, .int .i64 g2, .int .i64 g3, .int .i64 g4, .int .i64 g5, .int .i64 g6, .int .i64 g7, .slice pa pn pc, .slice la ln lc] 61)] wr) (fun u _ => 4 - (intOf u).toNat)
  case atStart => exact ⟨0, by omega, rfl, Z9.out⟩
  case round =>
    clear Z9
    obtain ⟨j, hj, rfl, hZ⟩ := hrel
    have hj0 : (0 : Int) ≤ j := by omega
    have cW : wr.cell? ⟨B, 0, none⟩ = some (.pointer (some ⟨b, 0, none⟩)) := by rw [cell_at hZ.hd]; rfl
    by_cases hlt : j < 4
    · have hji : (j : Int) < 4 := by omega
      obtain ⟨y, -, hix⟩ := ix4 (H : Int) c l t hlt
      go_wp2_with fail
      refine (num_z (IntKind.u64.wrap y) (u64_wrap y).1 (u64_wrap y).2 hZ (by omega)).mono ?_
      rintro e w2 ⟨⟨v2, rfl⟩, Z2⟩
      have Z3 := Lib.hid (Z2.more (show 3 + 10 * j + 10 ≤ 3 + 10 * (j + 1) by omega))
      clear hZ Z2 cW hix
      go_wp2
      exact ⟨⟨j + 1, by omega, by go_num, Z3.out⟩, by simp [intOf]; omega⟩
    · have e : j = 4 := by omega
      subst e
      have hdl : ¬ (((4 : Nat) : Int) < 4) := by omega
      obtain ⟨s0, s1, s2, s3, s4, s5, s6, s7, s8, s9, s10, s11, s12, s13⟩ := fourteen hZ.tail.hd
      have Z9 := Lib.hid hZ
      clear hZ
      go_wp2_with fail
      clear s0 s1 s2 s3 s4 s5 s6 s7 s8 s9 s10 s11 s12 s13
      clear cW
      go_loopw [39] (fun u wr => ∃ j : Nat, j ≤ H ∧ u = .int .i64 (j : Int) ∧ WZ w0 base b (43 + 10 * j) [(B, .cells #[.pointer (some ⟨b, 0, none⟩)] 23), (x, .cells #[.int .i64 (H : Int), .int .i64 c, .int .i64 l, .int .i64 t, .int .i64 g0, .int .i64 g1, .int .i64 g2, .int .i64 g3, .int .i64 g4, .int .i64 g5, .int .i64 g6, .int .i64 g7, .slice pa pn pc, .slice la ln lc] 61)] wr) (fun u _ => H - (intOf u).toNat)
      case atStart => exact ⟨0, by omega, rfl, Z9.out⟩
      case round =>
        clear Z9
        obtain ⟨j, hj, rfl, hZ⟩ := hrel
        have hj0 : (0 : Int) ≤ j := by omega
        have cW : wr.cell? ⟨B, 0, none⟩ = some (.pointer (some ⟨b, 0, none⟩)) := by rw [cell_at hZ.hd]; rfl
        by_cases hlt : j < H
        · have hji : (j : Int) < H := by omega
          obtain ⟨y, hy⟩ := budAt hZ.tail.hd (show j < 8 by omega)
          go_wp2_with fail
          refine (num_z (IntKind.u64.wrap y) (u64_wrap y).1 (u64_wrap y).2 hZ (by omega)).mono ?_
          rintro e w2 ⟨⟨v2, rfl⟩, Z2⟩
          have Z3 := Lib.hid (Z2.more (show 43 + 10 * j + 10 ≤ 43 + 10 * (j + 1) by omega))
          clear hZ Z2 cW hy
          go_wp2
          exact ⟨⟨j + 1, by omega, by go_num, Z3.out⟩, by simp [intOf]; omega⟩
        · have e : H = j := by omega
          subst e
          have hdl : ¬ ((H : Int) < H) := by omega
          obtain ⟨s0, s1, s2, s3, s4, s5, s6, s7, s8, s9, s10, s11, s12, s13⟩ := fourteen hZ.tail.hd
          go_wp2_with fail
          refine (num_z (pn : Int) (by omega) (by omega) hZ (by omega)).mono ?_
          rintro e w2 ⟨⟨v2, rfl⟩, Z2⟩
          clear s0 s1 s2 s3 s4 s5 s6 s7 s8 s9 s10 s11 s12 s13
          clear hZ cW
          obtain ⟨s0, s1, s2, s3, s4, s5, s6, s7, s8, s9, s10, s11, s12, s13⟩ := fourteen Z2.tail.hd
          have Z3 := Lib.hid (Z2.more (show 43 + 10 * H + 10 ≤ 133 by omega))
          clear Z2
          go_wp2_with fail
          clear s0 s1 s2 s3 s4 s5 s6 s7 s8 s9 s10 s11 s12 s13
          go_loopw [57] (fun u wr => ∃ j : Nat, j ≤ pn ∧ u = .int .i64 (j : Int) ∧ WZ w0 base b (133 + 420 * j) [(B, .cells #[.pointer (some ⟨b, 0, none⟩)] 23), (x, .cells #[.int .i64 (H : Int), .int .i64 c, .int .i64 l, .int .i64 t, .int .i64 g0, .int .i64 g1, .int .i64 g2, .int .i64 g3, .int .i64 g4, .int .i64 g5, .int .i64 g6, .int .i64 g7, .slice pa pn pc, .slice la ln lc] 61)] wr) (fun u _ => pn - (intOf u).toNat)
          case atStart => exact ⟨0, by omega, rfl, Z3.out⟩
          case round =>
            clear Z3
            obtain ⟨j, hj, rfl, hZ⟩ := hrel
            have hj0 : (0 : Int) ≤ j := by omega
            by_cases hlt : j < pn
            · have hji : (j : Int) < pn := by omega
              obtain ⟨ad, N, a', c', L, rfl, hp⟩ := HP.out j hlt
              have hp2 := hp.keep hZ.fr
              have t0 := hp2.c0
              have t1 := hp2.c1
              have hN := hp2.hN
              have hlb := HPL.out j hlt
              have ZN := hZ.new (.cells #[.int .u64 N, .slice a' (pl j) c'] 78)
              have hsz := hZ.base
              obtain ⟨C, hC⟩ : ∃ C, wr.heap.size = C := ⟨_, rfl⟩
              rw [hC] at ZN
              have cW : (wr.alloc (.cells #[.int .u64 N, .slice a' (pl j) c'] 78)).cell? ⟨B, 0, none⟩ = some (.pointer (some ⟨b, 0, none⟩)) := by rw [cell_at ZN.tail.hd]; rfl
              have cN : (wr.alloc (.cells #[.int .u64 N, .slice a' (pl j) c'] 78)).cell? ⟨C, 0, none⟩ = some (.int .u64 N) := by rw [cell_at ZN.hd]; rfl
              have HLb := Lib.hid hp
              clear hp hp2 hZ
              go_wp2_with fail
              refine (num_z N hN.1 hN.2 ZN (by omega)).mono ?_
              rintro e w2 ⟨⟨v2, rfl⟩, Z2⟩
              clear cW cN ZN t0 t1
              have cW : w2.cell? ⟨B, 0, none⟩ = some (.pointer (some ⟨b, 0, none⟩)) := by rw [cell_at Z2.tail.hd]; rfl
              have cN : w2.cell? ⟨C, 1, none⟩ = some (.slice a' (pl j) c') := by rw [cell_at Z2.hd]; rfl
              have hLL := (HLb.out.keep Z2.fr).hL
              go_wp2_with fail
              refine (raw_z hLL (by omega) HLb.out.hab Z2 (by omega)).mono ?_
              rintro e w3 ⟨⟨v3, rfl⟩, Z3⟩
              have Z4 := Lib.hid (Z3.tail.more (show 133 + 420 * j + 10 + (10 + pl j) ≤ 133 + 420 * (j + 1) by omega))
              clear Z2 Z3 cW cN hLL
              go_wp2
              exact ⟨⟨j + 1, by omega, by go_num, Z4.out⟩, by simp [intOf]; omega⟩
            · have e : pn = j := by omega
              subst e
              have hdl : ¬ ((pn : Int) < pn) := by omega
              obtain ⟨R, hR⟩ : ∃ R, wr.heap.size = R := ⟨_, rfl⟩
              have hBR : B < R := by have := lt_of_at hZ.hd; omega
              have hxR : x < R := by have := lt_of_at hZ.tail.hd; omega
              have ZR := hZ.new (.cells #[.int .i64 0] 3)
              rw [hR] at ZR
              have hszR := hZ.base
              obtain ⟨s0, s1, s2, s3, s4, s5, s6, s7, s8, s9, s10, s11, s12, s13⟩ := fourteen ZR.tail.tail.hd
              clear hZ
              go_wp2_with fail
              refine (runs_any la ln lc _).mono ?_
              obtain ⟨w2, hw2⟩ : ∃ w2, wr.alloc (.cells #[.int .i64 0] 3) = w2 := ⟨_, rfl⟩
              rw [hw2] at ZR ⊢
              rintro e w3 ⟨rfl, hw⟩
              rw [hw]
              clear s0 s1 s2 s3 s4 s5 s6 s7 s8 s9 s10 s11 s12 s13
              clear hw w3 hw2
              have ZS := ZR.new (.cells #[.slice la ln lc] 59)
              go_wp2_with fail
              obtain ⟨S, hS⟩ : ∃ S, w2.heap.size = S := ⟨_, rfl⟩
              rw [hS] at ZS ⊢
              have kS := ZS.hd
              have hbS : base ≤ S := by have := ZR.base; omega
              have hbR : base ≤ R := by omega
              have hRS : R < S := by have := lt_of_at ZR.hd; omega
              have ZT : WZ w0 base b (133 + 420 * pn) [(R, .cells #[.int .i64 (([] : List (Nat × Nat)).length : Int)] 3), (S, .cells #[.slice la ln lc] 59), (B, .cells #[.pointer (some ⟨b, 0, none⟩)] 23), (x, .cells #[.int .i64 (H : Int), .int .i64 c, .int .i64 l, .int .i64 t, .int .i64 g0, .int .i64 g1, .int .i64 g2, .int .i64 g3, .int .i64 g4, .int .i64 g5, .int .i64 g6, .int .i64 g7, .slice pa pn pc, .slice la ln lc] 61)] (w2.alloc (.cells #[.slice la ln lc] 59)) := ZS.sub (by intro y hy; simp only [List.mem_cons, List.not_mem_nil, or_false] at hy ⊢; rcases hy with h | h | h | h <;> simp [h])
              obtain ⟨w4, hw4⟩ : ∃ w4, w2.alloc (.cells #[.slice la ln lc] 59) = w4 := ⟨_, rfl⟩
              rw [hw4] at ZT kS ⊢
              have hB4 : base ≤ w4.heap.size := ZT.base
              have hS4 := lt_of_at kS
              clear hw4 ZS ZR hS hR
              refine rangeFunc_F (n := 5) (fun _ => .cells #[.pointer (some ⟨b, 0, none⟩)] 23) (fun _ => rfl) (by decide) (gf := 58) (lb := #[.pointer (some ⟨S, 0, none⟩)]) rfl (enters_of Try.func58 (by kernel_rfl) rfl)
                (runs_stops 4 S base la ln lc kf nf qf w4 (by decide) hln hB4 kS (HL.out.keep ZT.fr)) KpB.trans (kpB_b hB4 hS4) (Below.refl _ _) (fun _ => rfl)
                (fun pre W => WZ w0 base b (133 + 420 * pn) [(R, .cells #[.int .i64 (pre.length : Int)] 3), (S, .cells #[.slice la ln lc] 59), (B, .cells #[.pointer (some ⟨b, 0, none⟩)] 23), (x, .cells #[.int .i64 (H : Int), .int .i64 c, .int .i64 l, .int .i64 t, .int .i64 g0, .int .i64 g1, .int .i64 g2, .int .i64 g3, .int .i64 g4, .int .i64 g5, .int .i64 g6, .int .i64 g7, .slice pa pn pc, .slice la ln lc] 61)] W)
                (fun s W W' row hs hg hr => hs.own hB4 (by intro io hio; right; simp only [List.mem_cons, List.not_mem_nil, or_false] at hio; rcases hio with h | h | h | h <;> (subst h; rfl)) hg hr) ZT ?round ?done
              case round =>
               apply Exists.intro
               refine ⟨?_, ?_⟩
               ·
                rintro l pre x W K hi hK
                have HI := Lib.hid hi
                have HKK := Lib.hid hK
                clear hi hK
                dsimp only [encR]
                gi_wp2
                obtain ⟨C, hC⟩ : ∃ C, W.heap[C]? = some (.cells #[.pointer (some ⟨b, 0, none⟩)] 23) := ⟨B, HI.out.tail.tail.hd⟩
                exact HKK.out _ _ (KeepsFrom.refl _ _) (KpB.refl _ _ _) HI.out ⟨C, hC, rfl⟩
               ·
                rintro l pre x Bx W hl hI - hlt
                have cR : W.cell? ⟨R, 0, none⟩ = some (.int .i64 (pre.length : Int)) := by rw [cell_at hI.hd]; rfl
                have fR : W.frozen? ⟨R, 0, none⟩ = false := by simp [World.frozen?, hI.hd]
                have hpl : (pre.length : Int) ≤ 2000 := by omega
                have HI := Lib.hid hI
                clear hI
                gi_wp2
                have hel : (((pre ++ [x]).length : Nat) : Int) = (pre.length : Int) + 1 := by simp
                refine ⟨KeepsFrom.of_grownBy (grownBy_setCell' W R _) (fun j e => by cases e; omega), ⟨(Below.refl _ W).setCell hbR _, RowKit.Below.heap_setCell _ _ _ _ (show S ≠ R by omega)⟩, ?_⟩
                have hZ3 := HI.out.setHd (u := .int .i64 ((pre.length : Int) + 1)) hbR (by intro io hio; simp only [List.mem_cons, List.not_mem_nil, or_false] at hio; rcases hio with h | h | h <;> (subst h; simp only; omega))
                have hcs : Obj.cells #[.int .i64 ((pre.length : Int) + 1)] 3 = .cells #[.int .i64 (((pre ++ [x]).length : Nat) : Int)] 3 := by rw [hel]
                rw [hcs] at hZ3
                exact hZ3
              case done =>
                rintro D ys W hD hlen hI hK
                have hyl : (ys.length : Int) ≤ 2000 := by omega
                have hy0 : (0 : Int) ≤ (ys.length : Int) := by omega
                have cW : W.cell? ⟨B, 0, none⟩ = some (.pointer (some ⟨b, 0, none⟩)) := by rw [cell_at hI.tail.tail.hd]; rfl
                have cR : W.cell? ⟨R, 0, none⟩ = some (.int .i64 (ys.length : Int)) := by rw [cell_at hI.hd]; rfl
                have hID := hI.tail.tail.add hK (by intro cs t f e; cases e)
                have HD := Lib.hid hD
                clear hI hK hD
                go_wp2_with fail
                refine (num_z (ys.length : Int) (by omega) (by omega) hID (by omega)).mono ?_
                rintro e w5 ⟨⟨v5, rfl⟩, Z5⟩
                clear cW cR hID
                obtain ⟨s0, s1, s2, s3, s4, s5, s6, s7, s8, s9, s10, s11, s12, s13⟩ := fourteen Z5.tail.tail.hd
                have Z6 := Lib.hid Z5
                clear Z5
                go_wp2_with fail
                refine (runs_any la ln lc _).mono ?_
                rintro e w6 ⟨rfl, hw⟩
                rw [hw]
                clear hw w6
                clear s0 s1 s2 s3 s4 s5 s6 s7 s8 s9 s10 s11 s12 s13
                have ZS := Z6.out.new (.cells #[.slice la ln lc] 59)
                clear Z6
                obtain ⟨S2, hS2⟩ : ∃ S2, w5.heap.size = S2 := ⟨_, rfl⟩
                rw [hS2] at ZS
                obtain ⟨w7, hw7⟩ : ∃ w7, w5.alloc (.cells #[.slice la ln lc] 59) = w7 := ⟨_, rfl⟩
                rw [hw7] at ZS ⊢
                go_wp2_with fail
                clear hw7
                have hB7 : base ≤ w7.heap.size := ZS.base
                have hS7 := lt_of_at ZS.hd
                have hD7 := lt_of_at ZS.tail.hd
                have kS7 := ZS.hd
                refine rangeFunc_F (n := 5) (fun xx => .cells #[.int .i64 (kf xx.1), .int .i64 (nf xx.1), .bool (qf xx.1)] 104) (fun _ => rfl) (by decide) (gf := 58) (lb := #[.pointer (some ⟨S2, 0, none⟩)]) rfl (enters_of Try.func58 (by kernel_rfl) rfl)
                  (runs_stops 4 S2 base la ln lc kf nf qf w7 (by decide) hln hB7 kS7 (HL.out.keep ZS.fr)) KpB.trans (kpB_b hB7 hS7) (Below.refl _ _) (fun _ => rfl)
                  (fun pre W => WZ w0 base b (133 + 420 * pn + 10 + 50 * pre.length) [(S2, .cells #[.slice la ln lc] 59), (D, .deferred (some [])), (B, .cells #[.pointer (some ⟨b, 0, none⟩)] 23), (x, .cells #[.int .i64 (H : Int), .int .i64 c, .int .i64 l, .int .i64 t, .int .i64 g0, .int .i64 g1, .int .i64 g2, .int .i64 g3, .int .i64 g4, .int .i64 g5, .int .i64 g6, .int .i64 g7, .slice pa pn pc, .slice la ln lc] 61)] W)
                  (fun s W W' row hs hg hr => hs.own hB7 (by intro io hio; simp only [List.mem_cons, List.not_mem_nil, or_false] at hio; rcases hio with h | h | h | h <;> subst h <;> first | exact .inl hD7 | exact .inr rfl) hg hr) ZS ?round ?done
                case round =>
                 apply Exists.intro
                 refine ⟨?_, ?_⟩
                 · rintro l pre xx W K hi hK
                   obtain ⟨C, hC⟩ : ∃ C, W.heap.size = C := ⟨_, rfl⟩
                   have hb : Below W.heap.size W (W.alloc (.cells #[.int .i64 (kf xx.1), .int .i64 (nf xx.1), .bool (qf xx.1)] 104)) := (Below.refl _ W).alloc (Nat.le_refl _) _
                   have hn := heap_alloc_new W (.cells #[.int .i64 (kf xx.1), .int .i64 (nf xx.1), .bool (qf xx.1)] 104)
                   have hkp := KpB.of_below hb hi.base (lt_of_at hi.hd)
                   have hi2 := hi.keep hb
                   have hkf : KeepsFrom w7.heap.size W (W.alloc (.cells #[.int .i64 (kf xx.1), .int .i64 (nf xx.1), .bool (qf xx.1)] 104)) := KeepsFrom.of_grownBy (grown_of_below hb) (fun j e => by cases e)
                   have HE := Lib.hid (hK · _ hkf hkp hi2)
                   rw [hC] at hn
                   have HN := Lib.hid hn
                   clear hi hK hb hkp hi2 hkf hn
                   dsimp only [encR]
                   gi_wp2
                   exact HE.out _ ⟨C, HN.out, rfl⟩
                 · rintro l pre xx Bx W hl hI kx hlt
                   have hIA := hI.add kx (by intro cs t f e; cases e; exact ⟨by decide, by decide⟩)
                   have cW : W.cell? ⟨B, 0, none⟩ = some (.pointer (some ⟨b, 0, none⟩)) := by rw [cell_at hIA.tail.tail.tail.hd]; rfl
                   have c0 : W.cell? ⟨Bx, 0, none⟩ = some (.int .i64 (kf xx.1)) := by rw [cell_at kx]; rfl
                   have Q1 := hIA.self
                   have HI := Lib.hid hI
                   clear hI hIA
                   gi_wp2
                   refine ⟨trivial, ?_⟩
                   refine ((callsIn_wide.2 (num_q (IntKind.u64.wrap (kf xx.1)) (u64_wrap _).1 (u64_wrap _).2 Q1 (by omega))).inRound l).mono ?_
                   rintro e w12 ⟨⟨v12, rfl⟩, Q2⟩
                   clear cW c0 Q1
                   have cW : w12.cell? ⟨B, 0, none⟩ = some (.pointer (some ⟨b, 0, none⟩)) := by rw [cell_at (Q2.at (Or.inl (List.mem_cons_of_mem _ (List.mem_cons_of_mem _ (List.mem_cons_of_mem _ (List.mem_cons_self ..))))))]; rfl
                   have c1 : w12.cell? ⟨Bx, 1, none⟩ = some (.int .i64 (nf xx.1)) := by rw [cell_at (Q2.at (Or.inl (List.mem_cons_self ..)))]; rfl
                   gi_wp2
                   refine ⟨trivial, ?_⟩
                   refine ((callsIn_wide.2 (num_q (IntKind.u64.wrap (nf xx.1)) (u64_wrap _).1 (u64_wrap _).2 Q2 (by omega))).inRound l).mono ?_
                   rintro e w13 ⟨⟨v13, rfl⟩, Q3⟩
                   clear cW c1 Q2
                   have cW : w13.cell? ⟨B, 0, none⟩ = some (.pointer (some ⟨b, 0, none⟩)) := by rw [cell_at (Q3.at (Or.inl (List.mem_cons_of_mem _ (List.mem_cons_of_mem _ (List.mem_cons_of_mem _ (List.mem_cons_self ..))))))]; rfl
                   have c2 : w13.cell? ⟨Bx, 2, none⟩ = some (.bool (qf xx.1)) := by rw [cell_at (Q3.at (Or.inl (List.mem_cons_self ..)))]; rfl
                   gi_wp2
                   refine ⟨trivial, ?_⟩
                   refine ((callsIn_wide.2 (truth_q (qf xx.1) Q3 (by omega))).inRound l).mono ?_
                   rintro e w14 ⟨⟨v14, rfl⟩, Q4⟩
                   clear cW c2 Q3
                   have cW : w14.cell? ⟨B, 0, none⟩ = some (.pointer (some ⟨b, 0, none⟩)) := by rw [cell_at (Q4.at (Or.inl (List.mem_cons_of_mem _ (List.mem_cons_of_mem _ (List.mem_cons_of_mem _ (List.mem_cons_self ..))))))]; rfl
                   gi_wp2
                   refine ⟨trivial, ?_⟩
                   refine ((callsIn_wide.2 (num_q (IntKind.u64.wrap (xx.2 : Int)) (u64_wrap _).1 (u64_wrap _).2 Q4 (by omega))).inRound l).mono ?_
                   rintro e w15 ⟨⟨v15, rfl⟩, Q5⟩
                   clear cW Q4
                   gi_wp2
                   refine ⟨⟨Q5.fr.1.size, fun i o hB ho hc => Q5.at (Or.inr ⟨ho, hc⟩)⟩, ⟨Q5.fr.1, (Q5.at (Or.inl (List.mem_cons_of_mem _ (List.mem_cons_self ..)))).trans HI.out.hd.symm⟩, ?_⟩
                   refine ((Q5.z (fun i o hi => Or.inl (List.mem_cons_of_mem _ hi))).rebase HI.out.fr).more ?_
                   rw [List.length_append]
                   simp only [List.length_cons, List.length_nil]
                   omega
                case done =>
                  rintro D2 ys W hD2 hlen2 hI hK
                  have HI := Lib.hid hI
                  clear hI
                  go_wp2
                  have hDD : D ≠ D2 := by omega
                  have hb2 : base ≤ D2 := by omega
                  have hbD : base ≤ D := by have := HD.out; omega
                  have Zf := HI.out.sub (K' := []) (by intro y hy; cases hy)
                  have kD := HI.out.tail.hd
                  have Zg := Zf.own (B := base) (Nat.le_refl _) (by intro io hio; cases hio) (grownBy_putObj' W D2 (.deferred none)) (fun r e => by cases e; exact ⟨hb2, _, hK, rfl⟩)
                  have kD2 : (W.putObj D2 (.deferred none)).heap[D]? = some (.deferred (some [])) := (World.putObj_heap_other hDD).trans kD
                  have Zh := Zg.own (B := base) (Nat.le_refl _) (by intro io hio; cases hio) (grownBy_putObj' (W.putObj D2 (.deferred none)) D (.deferred none)) (fun r e => by cases e; exact ⟨hbD, _, kD2, rfl⟩)
                  refine ⟨by simp, .inl ⟨_, _, rfl, run_takeDeferred hK, ?_⟩⟩
                  refine ⟨by simp, .inl ⟨_, _, rfl, run_takeDeferred kD2, ?_⟩⟩
                  exact ⟨_, results_none rfl _ _ _, ⟨_, rfl⟩, Zh.more (by omega)⟩
end Go.Proofs.Ytcfbbimahbhgjaa
