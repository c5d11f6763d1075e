/- ram's Some: its iterator has a contract (SeqStopsK). -/
import Derived.Test.YtbboaekfhdeolaaRaH
import Derived.Test.YtbboaekfhdeolaaRaJ
import Derived.Maps.OwnIn
namespace Go.Proofs.Ytbboaekfhdeolaa
open Go.RowKit Go.Shelf
open Go.Maps (Keyed)
set_option linter.unusedSimpArgs false
set_option linter.unusedVariables false
attribute [local simp high] sizeLL zeroLL
attribute [local go_sem] Oper.semAt_some

/-- A line that is not noughts. -/
abbrev LineOf (L : Nat) (g : Nat → Nat → Nat) := { i : Nat // i < L ∧ Value.agg (cellsL (g i)) ≠ zline }
open Classical in
/-- The lines that have come when the first k were looked at. -/
noncomputable def someTo (L : Nat) (g : Nat → Nat → Nat) : Nat → List (LineOf L g)
  | 0 => []
  | k + 1 => someTo L g k ++ (if h : k < L ∧ Value.agg (cellsL (g k)) ≠ zline then [⟨k, h⟩] else [])
theorem someTo_yes {L : Nat} {g : Nat → Nat → Nat} {k : Nat} (h : k < L ∧ Value.agg (cellsL (g k)) ≠ zline) : someTo L g (k + 1) = someTo L g k ++ [⟨k, h⟩] := by
  show someTo L g k ++ _ = _
  rw [dif_pos h]
theorem someTo_no {L : Nat} {g : Nat → Nat → Nat} {k : Nat} (h : ¬ (k < L ∧ Value.agg (cellsL (g k)) ≠ zline)) : someTo L g (k + 1) = someTo L g k := by
  show someTo L g k ++ _ = _
  rw [dif_neg h, List.append_nil]
theorem someTo_len (L : Nat) (g : Nat → Nat → Nat) : ∀ k, (someTo L g k).length ≤ k
  | 0 => Nat.le_refl _
  | k + 1 => by
    have := someTo_len L g k
    by_cases h : k < L ∧ Value.agg (cellsL (g k)) ≠ zline
    · rw [someTo_yes h, List.length_append]; simp; omega
    · rw [someTo_no h]; omega
theorem mem_someTo {L : Nat} {g : Nat → Nat → Nat} {x : LineOf L g} : ∀ {k}, x ∈ someTo L g k ↔ x.1 < k
  | 0 => by simp [someTo]
  | k + 1 => by
    have ih := @mem_someTo L g x k
    by_cases h : k < L ∧ Value.agg (cellsL (g k)) ≠ zline
    · rw [someTo_yes h, List.mem_append, ih, List.mem_singleton]
      constructor
      · rintro (h1 | rfl)
        · omega
        · exact Nat.lt_succ_self k
      · intro h1
        by_cases e : x.1 = k
        · exact .inr (Subtype.ext e)
        · exact .inl (by omega)
    · rw [someTo_no h, ih]
      constructor
      · intro; omega
      · intro h1
        by_cases e : x.1 = k
        · exact absurd (e ▸ x.2) h
        · omega
theorem grown_of_below {w w' : World} (h : Below w.heap.size w w') : w.grownBy w' none := ⟨h.os, h.tape, h.output, h.size, fun i hi _ => h.block i hi⟩
/-- What a round keeps: all that lay below n0, and the box of the memory's pointer. -/
def KpB (n0 Bs : Nat) (W W' : World) : Prop := Below n0 W W' ∧ W'.heap[Bs]? = W.heap[Bs]?
theorem KpB.refl (n0 Bs : Nat) (W : World) : KpB n0 Bs W W := ⟨Below.refl _ _, rfl⟩
theorem KpB.trans {n0 Bs : Nat} {A B C : World} (h : KpB n0 Bs A B) (k : KpB n0 Bs B C) : KpB n0 Bs A C := ⟨h.1.trans k.1, k.2.trans h.2⟩
theorem KpB.of_below {n0 Bs : Nat} {W W' : World} (h : Below W.heap.size W W') (h0 : n0 ≤ W.heap.size) (hB : Bs < W.heap.size) : KpB n0 Bs W W' := ⟨h.mono h0, h.block _ hB⟩
theorem kpB_b {n0 Bs : Nat} {w : World} (hn : n0 ≤ w.heap.size) (hB : Bs < w.heap.size) (W : World) (l : Nat) (o o' : Obj) (hl : w.heap.size ≤ l) (h : W.heap[l]? = some o) (h1 : o.isCells = false) (h2 : o.isWalk = false) : KpB n0 Bs W (W.putObj l o') :=
  ⟨belowK_b hn W l o o' hl h h1 h2, World.putObj_heap_other (by omega)⟩
theorem mem_look_ok {w : World} {m n : Nat} {g : Nat → Nat → Nat} (h : MemAt w m n g) {i : Nat} (hi : i < 65536) {q : Bool} (hq : q = true ↔ Value.agg (cellsL (g i)) ≠ zline) : (Instr.lookup 88 (.map (some m)) (keyV i) true).run Try.prog w = .ok (.tuple #[.agg (cellsL (g i)), .bool q]) w := by
  obtain ⟨D, ho, hD⟩ := h
  obtain ⟨v, ps, hr, hv⟩ := ho.look_ok placeK underM (zeroLn w) (zd := .held zline) (zp := []) rfl (kl_some hi)
  rw [(hD.1 i hi).1] at hv
  simp only [Rv, Option.some.injEq, Prod.mk.injEq, DataW.held.injEq] at hv
  have e : Maps.has D (kl i) = q := by
    have := (hD.1 i hi).2
    rw [← hq] at this
    cases h1 : Maps.has D (kl i) <;> cases q <;> simp_all
  rw [hv.1, e] at hr
  exact hr
set_option maxRecDepth 100000 in
set_option maxHeartbeats 4000000 in
theorem some1_in (n l Bs n0 b m k L : Nat) (g : Nat → Nat → Nat) (J Jx : List (LineOf L g) → World → Prop) (W0 : Nat) (hn : 1 ≤ n) (hL : L ≤ 4096) (hb : b < n0) (hm : m < n0)
    (hY : ∀ pre x W, J pre W → pre.length < L → YieldAt Fence.wide (n - 1) Try.prog l #[.int .i64 (x.1 : Int), .agg (cellsL (g x.1))] W fun e W' =>
      (e = .returned (.bool true) ∧ J (pre ++ [x]) W' ∧ KpB n0 Bs W W') ∨ (e = .returned (.bool false) ∧ Jx (pre ++ [x]) W'))
    (W : World) (hn0 : n0 ≤ W.heap.size) (hBs : W.heap[Bs]? = some (.cells #[.pointer (some ⟨b, 0, none⟩)] 50)) (hR : RamAt W b m k L g) (hJ : AbidesFrom W.heap.size J) (h0 : J [] W) :
    CallsIn Fence.wide n Try.prog 57 #[.func (.yield l) #[] #[], .pointer (some ⟨Bs, 0, none⟩)] W fun e W' => (∃ v, e = .returned v) ∧
      ((∃ ys, ys = someTo L g L ∧ J ys W') ∨ (∃ pre, (∃ k, k ≤ L ∧ pre = someTo L g k) ∧ Jx pre W')) := by
  refine callsIn_of_wp Try.func57 rfl trivial ?_ rfl
  simp only [Try.ntmps57, List.size_toArray, List.length_cons, List.length_nil, Nat.reduceAdd, Nat.reduceSub, Array.replicate_succ, Array.replicate_zero, List.push_toArray, List.append_toArray, List.nil_append, List.cons_append]
  have hc : W.cell? ⟨Bs, 0, none⟩ = some (.pointer (some ⟨b, 0, none⟩)) := by rw [cell_at hBs]; rfl
  have hBl := lt_of_at hBs
  gi_wp2_with (refine ⟨trivial, ?_⟩; gi_at_call 37; refine (callsIn_wide.2 (ramlines_any b m k L g _ hR)).mono ?_; rintro e w1 ⟨rfl, rfl⟩)
  gi_loopw [8] (fun i wr => ∃ j : Nat, j ≤ L ∧ i = .int .i64 j ∧ J (someTo L g j) wr ∧ KpB n0 Bs w1 wr ∧ w1.heap.size ≤ wr.heap.size)
    (fun i _ => L - (intOf i).toNat)
  case atStart => exact ⟨0, Nat.zero_le _, rfl, h0, KpB.refl _ _ _, Nat.le_refl _⟩
  case round =>
    obtain ⟨j, hj, rfl, hJs, hK, hsz⟩ := hrel
    have hRr : RamAt wr b m k L g := ⟨heapAt hK.1 hR.1 hb, hR.2.same (hK.1.block m hm)⟩
    have hBr := hK.2.trans hBs
    by_cases hlt : j < L
    · have hj6 := line_lt hlt hL
      obtain ⟨q, hq⟩ : ∃ q : Bool, q = true ↔ Value.agg (cellsL (g j)) ≠ zline := by
        by_cases e : Value.agg (cellsL (g j)) = zline
        · exact ⟨false, by simp [e]⟩
        · exact ⟨true, by simp [e]⟩
      clear hc hBl hR hBs
      have hc : wr.cell? ⟨Bs, 0, none⟩ = some (.pointer (some ⟨b, 0, none⟩)) := by rw [cell_at hBr]; rfl
      obtain ⟨c0, c1, cl⟩ := hRr.cells
      gi_wp2
      have HK := Lib.hid hK
      clear hK
      refine wpIn_wide.2 ?_
      refine wp_region_held_drew (S := (fun w' => Fr wr.heap.size wr w')) (by kernel_rfl) ?_ (fun hHeld => ?_)
      · exact (Fr.refl wr).drew
      refine wpAnyH_take (i := 0) (oi := { dst := some 12, op := Op.load 50 (Operand.tmp 1), type := 50, pos := "ram.go:135", after := _, guard := none }) (v := ?_) rfl (by kernel_rfl) (by kernel_rfl) (by kernel_rfl) (fun _ _ _ h => h) (Or.inl ⟨by rfl, ?_⟩) (by assumption) ?_
      rotate_left
      · intro w' hSw
        try dsimp only at hSw
        have hc' := hcell hSw.1 hc
        have c1' := hcell hSw.1 c1
        go_simp
        try with_reducible rfl
      try simp only [Act.put, List.setIfInBounds_toArray, List.set_cons_zero, List.set_cons_succ]
      refine wpAnyH_take (i := 1) (oi := { dst := some 13, op := Op.nilCheck (Operand.tmp 12), type := 0, pos := "ram.go:135", after := _, guard := none }) (v := ?_) rfl (by kernel_rfl) (by kernel_rfl) (by kernel_rfl) (fun _ _ _ h => h) (Or.inl ⟨by rfl, ?_⟩) (by assumption) ?_
      rotate_left
      · intro w' hSw
        try dsimp only at hSw
        go_simp
        try with_reducible rfl
      try simp only [Act.put, List.setIfInBounds_toArray, List.set_cons_zero, List.set_cons_succ]
      refine wpAnyH_take (i := 2) (oi := { dst := some 14, op := Op.fieldAddr 90 (Operand.tmp 13) 1, type := 0, pos := "ram.go:135", after := _, guard := none }) (v := ?_) rfl (by kernel_rfl) (by kernel_rfl) (by kernel_rfl) (fun _ _ _ h => h) (Or.inl ⟨by rfl, ?_⟩) (by assumption) ?_
      rotate_left
      · intro w' hSw
        try dsimp only at hSw
        go_simp
        try with_reducible rfl
      try simp only [Act.put, List.setIfInBounds_toArray, List.set_cons_zero, List.set_cons_succ]
      refine wpAnyH_take (i := 3) (oi := { dst := some 15, op := Op.load 88 (Operand.tmp 14), type := 88, pos := "ram.go:135", after := _, guard := none }) (v := ?_) rfl (by kernel_rfl) (by kernel_rfl) (by kernel_rfl) (fun _ _ _ h => h) (Or.inl ⟨by rfl, ?_⟩) (by assumption) ?_
      rotate_left
      · intro w' hSw
        try dsimp only at hSw
        have hc' := hcell hSw.1 hc
        have c1' := hcell hSw.1 c1
        go_simp
        try with_reducible rfl
      try simp only [Act.put, List.setIfInBounds_toArray, List.set_cons_zero, List.set_cons_succ]
      refine wpAnyH_take (i := 4) (oi := { dst := some 16, op := Op.move (Operand.tmp 3), type := 3, pos := "ram.go:135", after := _, guard := none }) (v := ?_) rfl (by kernel_rfl) (by kernel_rfl) (by kernel_rfl) (fun _ _ _ h => h) (Or.inl ⟨by rfl, ?_⟩) (by assumption) ?_
      rotate_left
      · intro w' hSw
        try dsimp only at hSw
        go_simp
        try with_reducible rfl
      try simp only [Act.put, List.setIfInBounds_toArray, List.set_cons_zero, List.set_cons_succ]
      refine wpAnyH_ready (rs := [5, 10]) (by kernel_rfl) (by simp) ?_
      refine AllReadyH.cons (o := { dst := some 17, op := Op.call { callee := Callee.value (Operand.func 51), args := #[Operand.tmp 16], argTypes := #[3] }, type := 94, pos := "ram.go:135", after := _, guard := none }) rfl (fun K hK => ?_) (AllReadyH.cons (o := { dst := some 4, op := Op.alloc 26, type := 0, pos := "ram.go:135", after := _, guard := none }) rfl (fun K hK => ?_) (AllReadyH.nil))
      · go_simp
        go_at_call 51
        refine (ramof_any j _ hj6).mono ?_
        rintro e w5 ⟨rfl, hb5⟩
        try go_wp2_with fail
        refine hK.out _ _ ?_ (fun hHeld2 => ?_)
        · (try dsimp only)
          exact hHeld.step hb5
        clear hK K hHeld
        have hHeld := hHeld2
        clear hHeld2
        try simp only [Act.put, List.setIfInBounds_toArray, List.set_cons_zero, List.set_cons_succ]
        clear hb5
        have hleB : wr.heap.size ≤ w5.heap.size := hHeld.2
        refine wpAnyH_take (i := 6) (oi := { dst := some 18, op := Op.lookup 88 (Operand.tmp 15) (Operand.tmp 17) true, type := 34, pos := "ram.go:135", after := _, guard := none }) (v := ?_) rfl (by kernel_rfl) (by kernel_rfl) (by kernel_rfl) (fun _ _ _ h => h) (Or.inl ⟨by rfl, ?_⟩) (by assumption) ?_
        rotate_left
        · intro w' hSw
          try dsimp only at hSw
          have lk := mem_look_ok (hRr.2.same (hSw.1.block m hRr.2.lt)) hj6 hq
          go_simp
          try with_reducible rfl
        try simp only [Act.put, List.setIfInBounds_toArray, List.set_cons_zero, List.set_cons_succ]
        refine wpAnyH_take (i := 7) (oi := { dst := some 11, op := Op.move (Operand.tmp 18), type := 34, pos := "ram.go:135", after := _, guard := none }) (v := ?_) rfl (by kernel_rfl) (by kernel_rfl) (by kernel_rfl) (fun _ _ _ h => h) (Or.inl ⟨by rfl, ?_⟩) (by assumption) ?_
        rotate_left
        · intro w' hSw
          try dsimp only at hSw
          go_simp
          try with_reducible rfl
        try simp only [Act.put, List.setIfInBounds_toArray, List.set_cons_zero, List.set_cons_succ]
        refine wpAnyH_take (i := 8) (oi := { dst := some 19, op := Op.extract (Operand.tmp 11) 0, type := 26, pos := "ram.go:135", after := _, guard := none }) (v := ?_) rfl (by kernel_rfl) (by kernel_rfl) (by kernel_rfl) (fun _ _ _ h => h) (Or.inl ⟨by rfl, ?_⟩) (by assumption) ?_
        rotate_left
        · intro w' hSw
          try dsimp only at hSw
          go_simp
          try with_reducible rfl
        try simp only [Act.put, List.setIfInBounds_toArray, List.set_cons_zero, List.set_cons_succ]
        refine wpAnyH_take (i := 9) (oi := { dst := some 20, op := Op.extract (Operand.tmp 11) 1, type := 4, pos := "ram.go:135", after := _, guard := none }) (v := ?_) rfl (by kernel_rfl) (by kernel_rfl) (by kernel_rfl) (fun _ _ _ h => h) (Or.inl ⟨by rfl, ?_⟩) (by assumption) ?_
        rotate_left
        · intro w' hSw
          try dsimp only at hSw
          go_simp
          try with_reducible rfl
        try simp only [Act.put, List.setIfInBounds_toArray, List.set_cons_zero, List.set_cons_succ]
        refine wpAnyH_ready (rs := [10]) (by kernel_rfl) (by simp) ?_
        refine AllReadyH.cons (o := { dst := some 4, op := Op.alloc 26, type := 0, pos := "ram.go:135", after := _, guard := none }) rfl (fun K hK => ?_) AllReadyH.nil
        go_simp
        refine hK.out _ _ ?_ (fun hHeld2 => ?_)
        · (try dsimp only)
          exact hHeld.alloc _
        clear hK K hHeld
        have hHeld := hHeld2
        clear hHeld2
        try simp only [Act.put, List.setIfInBounds_toArray, List.set_cons_zero, List.set_cons_succ]
        have kz := heap_alloc_new w5 (.cells (cellsL fun _ => 0) 26)
        refine wpAnyH_ready (rs := [11]) (by kernel_rfl) (by simp) ?_
        refine AllReadyH.cons (o := { dst := none, op := Op.store 26 (Operand.tmp 4) (Operand.tmp 19), type := 0, pos := "ram.go:135", after := _, guard := none }) rfl (fun K hK => ?_) AllReadyH.nil
        have sA := st_rowL Try.prog kz (g j)
        go_simp
        refine hK.out _ _ ?_ (fun hHeld2 => ?_)
        · (try dsimp only)
          exact hHeld.row (hleB) _
        clear hK K hHeld
        have hHeld := hHeld2
        clear hHeld2
        try simp only [Act.put, List.setIfInBounds_toArray, List.set_cons_zero, List.set_cons_succ]
        refine wpAnyH_take (i := 12) (oi := { dst := some 5, op := Op.assign (Operand.tmp 20), type := 4, pos := "ram.go:135", after := _, guard := none }) (v := ?_) rfl (by kernel_rfl) (by kernel_rfl) (by kernel_rfl) (fun _ _ _ h => h) (Or.inl ⟨by rfl, ?_⟩) (by assumption) ?_
        rotate_left
        · intro w' hSw
          try dsimp only at hSw
          go_simp
          try with_reducible rfl
        try simp only [Act.put, List.setIfInBounds_toArray, List.set_cons_zero, List.set_cons_succ]
        refine wpAnyH_done (by kernel_rfl) ?_ _
        have kz7 := Lib.hid (row_at kz (cellsL (g j)))
        have hF := Lib.hid hHeld
        obtain ⟨wz, hwz⟩ : ∃ wz, wz = (w5.alloc (.cells (cellsL fun _ => 0) 26)).setRow w5.heap.size (cellsL (g j)) := ⟨_, rfl⟩
        rw [← hwz]
        have kz8 : wz.heap[w5.heap.size]? = some (.cells (cellsL (g j)) 26) := by rw [hwz]; exact kz7.out
        have hF8 : Fr wr.heap.size wr wz := by rw [hwz]; exact hF.out
        clear kz sA hHeld kz7 hF hwz
        obtain ⟨cz, hcz⟩ : ∃ cz, cz = w5.heap.size := ⟨_, rfl⟩
        rw [← hcz] at kz8 ⊢
        clear hcz
        have hJz := hJ (someTo L g j) wr wz none hJs (grown_of_below hF8.1) (fun r e => by cases e)
        have hKz : KpB n0 Bs w1 wz := HK.out.trans (KpB.of_below hF8.1 (by omega) (lt_of_at hBr))
        have hszz : w1.heap.size ≤ wz.heap.size := Nat.le_trans hsz hF8.2
        clear hF8 hJs hBr hc c0 c1 cl hRr hsz
        clear hJ
        cases q with
        | false =>
          have hno : ¬ (j < L ∧ Value.agg (cellsL (g j)) ≠ zline) := fun h => (by cases hq.2 h.2)
          clear hq
          gi_wp2
          refine ⟨fun _ _ => trivial, ?_⟩
          gi_wp2
          go_roundw
          case rel => exact ⟨j + 1, by omega, by simp, by rw [someTo_no hno]; exact hJz, hKz, hszz⟩
          case measure => simp [intOf]; omega
        | true =>
          have hyes : j < L ∧ Value.agg (cellsL (g j)) ≠ zline := ⟨hlt, hq.1 rfl⟩
          clear hq
          obtain ⟨fn, tmps, assign, body, hy, hR⟩ := hY (someTo L g j) ⟨j, hyes⟩ wz hJz (Nat.lt_of_le_of_lt (someTo_len L g j) hlt)
          dsimp only at hy
          have hl8 := ld_rowL (P := Try.prog) kz8
          clear hY
          gi_wp2
          refine hR.mono ?_
          rintro e W3 (⟨rfl, hJ3, hk3⟩ | ⟨rfl, hJx3⟩)
          · clear hl8 kz8 hy hR
            gi_wp2
            go_roundw
            case rel => exact ⟨j + 1, by omega, by simp, by rw [someTo_yes hyes]; exact hJ3, hKz.trans hk3, Nat.le_trans hszz hk3.1.size⟩
            case measure => simp [intOf]; omega
          · clear hl8 kz8 hy hR
            gi_wp2
            refine bodyPost_ret (results_none rfl _ _ _) rfl ?_
            exact ⟨⟨_, rfl⟩, .inr ⟨_, ⟨j + 1, by omega, (someTo_yes hyes).symm⟩, hJx3⟩⟩
      · go_simp
        refine hK.out _ _ ?_ (fun hHeld2 => ?_)
        · (try dsimp only)
          exact hHeld.alloc _
        clear hK K hHeld
        have hHeld := hHeld2
        clear hHeld2
        try simp only [Act.put, List.setIfInBounds_toArray, List.set_cons_zero, List.set_cons_succ]
        have kz0 : (wr.drew.alloc (.cells (cellsL fun _ => 0) 26)).heap[wr.heap.size]? = some (.cells (cellsL fun _ => 0) 26) := heap_alloc_new wr.drew _
        refine wpAnyH_ready (rs := [5]) (by kernel_rfl) (by simp) ?_
        refine AllReadyH.cons (o := { dst := some 17, op := Op.call { callee := Callee.value (Operand.func 51), args := #[Operand.tmp 16], argTypes := #[3] }, type := 94, pos := "ram.go:135", after := _, guard := none }) rfl (fun K hK => ?_) AllReadyH.nil
        go_simp
        go_at_call 51
        refine (ramof_any j _ hj6).mono ?_
        rintro e w5 ⟨rfl, hb5⟩
        have kz := keepB hb5 kz0
        try go_wp2_with fail
        refine hK.out _ _ ?_ (fun hHeld2 => ?_)
        · (try dsimp only)
          exact hHeld.step hb5
        clear hK K hHeld
        have hHeld := hHeld2
        clear hHeld2
        try simp only [Act.put, List.setIfInBounds_toArray, List.set_cons_zero, List.set_cons_succ]
        clear hb5 kz0
        refine wpAnyH_take (i := 6) (oi := { dst := some 18, op := Op.lookup 88 (Operand.tmp 15) (Operand.tmp 17) true, type := 34, pos := "ram.go:135", after := _, guard := none }) (v := ?_) rfl (by kernel_rfl) (by kernel_rfl) (by kernel_rfl) (fun _ _ _ h => h) (Or.inl ⟨by rfl, ?_⟩) (by assumption) ?_
        rotate_left
        · intro w' hSw
          try dsimp only at hSw
          have lk := mem_look_ok (hRr.2.same (hSw.1.block m hRr.2.lt)) hj6 hq
          go_simp
          try with_reducible rfl
        try simp only [Act.put, List.setIfInBounds_toArray, List.set_cons_zero, List.set_cons_succ]
        refine wpAnyH_take (i := 7) (oi := { dst := some 11, op := Op.move (Operand.tmp 18), type := 34, pos := "ram.go:135", after := _, guard := none }) (v := ?_) rfl (by kernel_rfl) (by kernel_rfl) (by kernel_rfl) (fun _ _ _ h => h) (Or.inl ⟨by rfl, ?_⟩) (by assumption) ?_
        rotate_left
        · intro w' hSw
          try dsimp only at hSw
          go_simp
          try with_reducible rfl
        try simp only [Act.put, List.setIfInBounds_toArray, List.set_cons_zero, List.set_cons_succ]
        refine wpAnyH_take (i := 8) (oi := { dst := some 19, op := Op.extract (Operand.tmp 11) 0, type := 26, pos := "ram.go:135", after := _, guard := none }) (v := ?_) rfl (by kernel_rfl) (by kernel_rfl) (by kernel_rfl) (fun _ _ _ h => h) (Or.inl ⟨by rfl, ?_⟩) (by assumption) ?_
        rotate_left
        · intro w' hSw
          try dsimp only at hSw
          go_simp
          try with_reducible rfl
        try simp only [Act.put, List.setIfInBounds_toArray, List.set_cons_zero, List.set_cons_succ]
        refine wpAnyH_take (i := 9) (oi := { dst := some 20, op := Op.extract (Operand.tmp 11) 1, type := 4, pos := "ram.go:135", after := _, guard := none }) (v := ?_) rfl (by kernel_rfl) (by kernel_rfl) (by kernel_rfl) (fun _ _ _ h => h) (Or.inl ⟨by rfl, ?_⟩) (by assumption) ?_
        rotate_left
        · intro w' hSw
          try dsimp only at hSw
          go_simp
          try with_reducible rfl
        try simp only [Act.put, List.setIfInBounds_toArray, List.set_cons_zero, List.set_cons_succ]
        refine wpAnyH_ready (rs := [11]) (by kernel_rfl) (by simp) ?_
        refine AllReadyH.cons (o := { dst := none, op := Op.store 26 (Operand.tmp 4) (Operand.tmp 19), type := 0, pos := "ram.go:135", after := _, guard := none }) rfl (fun K hK => ?_) AllReadyH.nil
        have sA := st_rowL Try.prog kz (g j)
        go_simp
        refine hK.out _ _ ?_ (fun hHeld2 => ?_)
        · (try dsimp only)
          exact hHeld.row (Nat.le_refl _) _
        clear hK K hHeld
        have hHeld := hHeld2
        clear hHeld2
        try simp only [Act.put, List.setIfInBounds_toArray, List.set_cons_zero, List.set_cons_succ]
        refine wpAnyH_take (i := 12) (oi := { dst := some 5, op := Op.assign (Operand.tmp 20), type := 4, pos := "ram.go:135", after := _, guard := none }) (v := ?_) rfl (by kernel_rfl) (by kernel_rfl) (by kernel_rfl) (fun _ _ _ h => h) (Or.inl ⟨by rfl, ?_⟩) (by assumption) ?_
        rotate_left
        · intro w' hSw
          try dsimp only at hSw
          go_simp
          try with_reducible rfl
        try simp only [Act.put, List.setIfInBounds_toArray, List.set_cons_zero, List.set_cons_succ]
        refine wpAnyH_done (by kernel_rfl) ?_ _
        have kz7 := Lib.hid (row_at kz (cellsL (g j)))
        have hF := Lib.hid hHeld
        obtain ⟨wz, hwz⟩ : ∃ wz, wz = w5.setRow wr.heap.size (cellsL (g j)) := ⟨_, rfl⟩
        rw [← hwz]
        have kz8 : wz.heap[wr.heap.size]? = some (.cells (cellsL (g j)) 26) := by rw [hwz]; exact kz7.out
        have hF8 : Fr wr.heap.size wr wz := by rw [hwz]; exact hF.out
        clear kz sA hHeld kz7 hF hwz
        obtain ⟨cz, hcz⟩ : ∃ cz, cz = wr.heap.size := ⟨_, rfl⟩
        rw [← hcz] at kz8 ⊢
        clear hcz
        have hJz := hJ (someTo L g j) wr wz none hJs (grown_of_below hF8.1) (fun r e => by cases e)
        have hKz : KpB n0 Bs w1 wz := HK.out.trans (KpB.of_below hF8.1 (by omega) (lt_of_at hBr))
        have hszz : w1.heap.size ≤ wz.heap.size := Nat.le_trans hsz hF8.2
        clear hF8 hJs hBr hc c0 c1 cl hRr hsz
        clear hJ
        cases q with
        | false =>
          have hno : ¬ (j < L ∧ Value.agg (cellsL (g j)) ≠ zline) := fun h => (by cases hq.2 h.2)
          clear hq
          gi_wp2
          refine ⟨fun _ _ => trivial, ?_⟩
          gi_wp2
          go_roundw
          case rel => exact ⟨j + 1, by omega, by simp, by rw [someTo_no hno]; exact hJz, hKz, hszz⟩
          case measure => simp [intOf]; omega
        | true =>
          have hyes : j < L ∧ Value.agg (cellsL (g j)) ≠ zline := ⟨hlt, hq.1 rfl⟩
          clear hq
          obtain ⟨fn, tmps, assign, body, hy, hR⟩ := hY (someTo L g j) ⟨j, hyes⟩ wz hJz (Nat.lt_of_le_of_lt (someTo_len L g j) hlt)
          dsimp only at hy
          have hl8 := ld_rowL (P := Try.prog) kz8
          clear hY
          gi_wp2
          refine hR.mono ?_
          rintro e W3 (⟨rfl, hJ3, hk3⟩ | ⟨rfl, hJx3⟩)
          · clear hl8 kz8 hy hR
            gi_wp2
            go_roundw
            case rel => exact ⟨j + 1, by omega, by simp, by rw [someTo_yes hyes]; exact hJ3, hKz.trans hk3, Nat.le_trans hszz hk3.1.size⟩
            case measure => simp [intOf]; omega
          · clear hl8 kz8 hy hR
            gi_wp2
            refine bodyPost_ret (results_none rfl _ _ _) rfl ?_
            exact ⟨⟨_, rfl⟩, .inr ⟨_, ⟨j + 1, by omega, (someTo_yes hyes).symm⟩, hJx3⟩⟩
    · obtain rfl : j = L := by omega
      gi_wp2
      go_end0
      exact ⟨⟨_, rfl⟩, .inl ⟨_, rfl, hJs⟩⟩
set_option maxHeartbeats 1000000 in
theorem some_any (p0 : Option Addr) (w : World) :
    Calls Try.prog 41 #[.pointer p0] w fun e w' => e = .returned (.func (.func 57) #[] #[.pointer (some ⟨w.heap.size, 0, none⟩)]) ∧ w' = w.alloc (.cells #[.pointer p0] 50) := by
  go_enter Try.func41, Try.ntmps41
  go_wp2
  go_ret
  exact ⟨rfl, rfl⟩
def encsL {L : Nat} {g : Nat → Nat → Nat} (x : LineOf L g) : Array Value := #[.int .i64 (x.1 : Int), .agg (cellsL (g x.1))]
theorem some_stops (n Bs n0 b m k L : Nat) (g : Nat → Nat → Nat) (w : World) (hn : 1 ≤ n) (hL : L ≤ 4096) (hb : b < n0) (hm : m < n0) (hn0 : n0 ≤ w.heap.size) (hBs : w.heap[Bs]? = some (.cells #[.pointer (some ⟨b, 0, none⟩)] 50)) (hR : RamAt w b m k L g) :
    SeqStopsK Fence.wide n Try.prog 57 #[.pointer (some ⟨Bs, 0, none⟩)] (encsL (L := L) (g := g)) (KpB n0 Bs) (fun ys => ys = someTo L g L) (fun pre => ∃ k, k ≤ L ∧ pre = someTo L g k) L w :=
  fun l J Jx W hW hJ _ hY h0 => some1_in n l Bs n0 b m k L g J Jx 0 hn hL hb hm hY W (Nat.le_trans hn0 hW.size) (keepB hW hBs) (hR.keep hW) hJ h0
end Go.Proofs.Ytbboaekfhdeolaa
