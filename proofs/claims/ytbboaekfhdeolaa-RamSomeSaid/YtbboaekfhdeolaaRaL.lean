/- ram's Clone: a range over Some. -/
import Derived.Test.YtbboaekfhdeolaaRaK
namespace Go.Proofs.Ytbboaekfhdeolaa
open Go.RowKit Go.Shelf
open Go.Maps (Keyed)
set_option linter.unusedSimpArgs false
set_option linter.unusedVariables false
attribute [local simp high] sizeLL zeroLL
attribute [local go_sem] Oper.semAt_some

theorem wp_cut {P : Program} {c : Code} {Q : Exit → Act → World → Prop} {a : Act} {w : World} (R : Act → World → Prop) (h : c.wp P (fun e a w => e = .normal ∧ R a w) a w) (hR : ∀ a w, R a w → Q .normal a w) : c.wp P Q a w :=
  wp_mono h (by rintro e a w ⟨rfl, h⟩; exact hR _ _ h)
theorem heap_setCell_ne {w : World} {b : Nat} {p : Addr} (h : p.block ≠ b) (u : Value) : (w.setCell p u).heap[b]? = w.heap[b]? := RowKit.Below.heap_setCell _ _ _ _ (Ne.symm h)
theorem set_one {w : World} {c : Nat} {v : Value} {t : TypeId} (h : w.heap[c]? = some (.cells #[v] t)) (u : Value) : (w.setCell ⟨c, 0, none⟩ u).heap[c]? = some (.cells #[u] t) := by
  simp [World.setCell, Array.getElem?_modify, h]
theorem mk_hint (n : Nat) (w : World) : (Instr.makeMap 88 (some (.int .i64 (n : Int)))).run Try.prog w = .ok (.map (some w.heap.size)) (w.alloc (.map #[] 0)) := by
  simp [Instr.makeMap, run_underlying underM, asInt, asIntOf, Result.andThen]
/-- Lines beyond the memory's end are noughts. -/
def Supp (L : Nat) (g : Nat → Nat → Nat) : Prop := ∀ i, L ≤ i → i < 65536 → cellsL (g i) = cellsL fun _ => 0
/-- The lines of a list, laid one after another. -/
def putAll {L : Nat} {g : Nat → Nat → Nat} (pre : List (LineOf L g)) : Nat → Nat → Nat := pre.foldl (fun G x => updG G x.1 (g x.1)) z10
theorem putAll_snoc {L : Nat} {g : Nat → Nat → Nat} (pre : List (LineOf L g)) (x : LineOf L g) : putAll (pre ++ [x]) = updG (putAll pre) x.1 (g x.1) := by simp [putAll]
theorem putAll_to {L : Nat} {g : Nat → Nat → Nat} : ∀ k, k ≤ L → ∀ i, cellsL (putAll (someTo L g k) i) = if i < k then cellsL (g i) else cellsL fun _ => 0
  | 0, _, i => rfl
  | k + 1, hk, i => by
    have ih := putAll_to (L := L) (g := g) k (by omega) i
    by_cases h : k < L ∧ Value.agg (cellsL (g k)) ≠ zline
    · rw [someTo_yes h, putAll_snoc]
      unfold updG
      by_cases e : i = k
      · subst e; rw [if_pos rfl, if_pos (Nat.lt_succ_self _)]
      · rw [if_neg e, ih]
        by_cases h1 : i < k
        · rw [if_pos h1, if_pos (by omega)]
        · rw [if_neg h1, if_neg (by omega)]
    · rw [someTo_no h, ih]
      by_cases e : i = k
      · subst e
        have hz : Value.agg (cellsL (g i)) = zline := by
          by_cases hz : Value.agg (cellsL (g i)) = zline
          · exact hz
          · exact absurd ⟨by omega, hz⟩ h
        have hz' : cellsL (g i) = cellsL fun _ => 0 := by
          unfold zline at hz
          exact Value.agg.inj hz
        rw [if_neg (Nat.lt_irrefl _), if_pos (Nat.lt_succ_self _), hz']
      · by_cases h1 : i < k
        · rw [if_pos h1, if_pos (by omega)]
        · rw [if_neg h1, if_neg (by omega)]
theorem putAll_end {L : Nat} {g : Nat → Nat → Nat} (hS : Supp L g) (i : Nat) (hi : i < 65536) : cellsL (putAll (someTo L g L) i) = cellsL (g i) := by
  rw [putAll_to L (Nat.le_refl _)]
  by_cases h : i < L
  · rw [if_pos h]
  · rw [if_neg h, hS i (by omega) hi]
/-- Clone's loop: what lies between two rounds. -/
def CI (w : World) (Bs b c' b' m' L : Nat) (g : Nat → Nat → Nat) (pre : List (LineOf L g)) (W : World) : Prop :=
  (W.heap[Bs]? = some (.cells #[.pointer (some ⟨b, 0, none⟩)] 50) ∧ W.heap[c']? = some (.cells #[.pointer (some ⟨b', 0, none⟩)] 50) ∧ W.heap[b']? = some (.cells #[.int .i64 (L : Int), .map (some m')] 90) ∧ MemAt W m' pre.length (putAll pre)) ∧ Below w.heap.size w W
theorem CI.keep {w W W' : World} {Bs b c' b' m' L : Nat} {g : Nat → Nat → Nat} {pre : List (LineOf L g)} (h : CI w Bs b c' b' m' L g pre W) (hb : Below W.heap.size W W') : CI w Bs b c' b' m' L g pre W' :=
  ⟨⟨keepB hb h.1.1, keepB hb h.1.2.1, keepB hb h.1.2.2.1, h.1.2.2.2.keep hb⟩, h.2.trans (hb.mono h.2.size)⟩
theorem CI_own {w : World} {Bs b c' b' m' L B : Nat} {g : Nat → Nat → Nat} (h1 : Bs < B) (h2 : c' < B) (h3 : b' < B) (h4 : m' < B) (hw : w.heap.size ≤ B) : OwnFrom B (CI w Bs b c' b' m' L g) := by
  intro s W W' row hs hg hr
  have kp : ∀ k o, k < B → W.heap[k]? = some o → W'.heap[k]? = some o := fun k o hk ho =>
    (hg.block k (lt_of_at ho) (fun e => by have := (hr _ e.symm).1; omega)).trans ho
  refine ⟨⟨kp _ _ h1 hs.1.1, kp _ _ h2 hs.1.2.1, kp _ _ h3 hs.1.2.2.1, hs.1.2.2.2.same (hg.block m' hs.1.2.2.2.lt (fun e => by have := (hr _ e.symm).1; omega))⟩, (ownFrom_below (β := Unit) (Nat.le_refl _) hw) () W W' row hs.2 hg hr⟩
theorem keepsFrom_below {B : Nat} {W W' : World} (h : Below W.heap.size W W') : KeepsFrom B W W' := KeepsFrom.of_grownBy (grown_of_below h) (fun j e => by cases e)
theorem keepsFrom_wrote {B m : Nat} {W W' : World} (h : Wrote m W W') (hm : m < B) (hs : m < W.heap.size) : KeepsFrom B W W' :=
  ⟨(h.1 m W (Nat.le_refl _) ⟨Below.refl _ _, Nat.le_of_lt hs⟩).1.size, fun k o hB hk _ => h.2 k o (by omega) hk⟩
theorem kpB_wrote {n0 Bs m : Nat} {W W' : World} {o : Obj} (h : Wrote m W W') (hn : n0 ≤ m) (hs : m < W.heap.size) (hB : Bs ≠ m) (ho : W.heap[Bs]? = some o) : KpB n0 Bs W W' :=
  ⟨(h.1 n0 W hn ⟨Below.refl _ _, by omega⟩).1, (h.2 _ _ hB ho).trans ho.symm⟩
theorem CI.snoc {w W W' : World} {Bs b c' b' m' L : Nat} {g : Nat → Nat → Nat} {pre : List (LineOf L g)} {x : LineOf L g} (h : CI w Bs b c' b' m' L g pre W) (hm : MemAt W' m' (pre.length + 1) (updG (putAll pre) x.1 (g x.1))) (hW : Wrote m' W W') (h1 : Bs ≠ m') (h2 : c' ≠ m') (h3 : b' ≠ m') (hw : w.heap.size ≤ m') : CI w Bs b c' b' m' L g (pre ++ [x]) W' :=
  ⟨⟨hW.2 _ _ h1 h.1.1, hW.2 _ _ h2 h.1.2.1, hW.2 _ _ h3 h.1.2.2.1, by rw [putAll_snoc, List.length_append]; exact hm⟩, (hW.1 w.heap.size w hw ⟨h.2, h.2.size⟩).1⟩
theorem mem_new10 (w : World) : MemAt (w.alloc (.map #[] 0)) w.heap.size 0 z10 := mem_new w
set_option maxRecDepth 100000 in
set_option maxHeartbeats 4000000 in
theorem clone_any (b m k L : Nat) (g : Nat → Nat → Nat) (w : World) (hS : Supp L g) (hL : L ≤ 4096) (hk : k < 1000000) (hR : RamAt w b m k L g) :
    CallsIn Fence.wide 5 Try.prog 27 #[.pointer (some ⟨b, 0, none⟩)] w fun e w' => ∃ b' m' k', e = .returned (.pointer (some ⟨b', 0, none⟩)) ∧ RamAt w' b' m' k' L g ∧ Below w.heap.size w w' ∧ w.heap.size ≤ b' ∧ w.heap.size ≤ m' ∧ k' < 1000000 := by
  obtain ⟨sz, hlen, hszk⟩ : ∃ sz : Nat, (∀ w', Fr w.heap.size w w' → (Builtin.len_ #[88] 3 #[.map (some m)]).run Try.prog w' = .ok (.int .i64 (sz : Int)) w') ∧ sz ≤ k := by
    obtain ⟨D, ho, hD⟩ := hR.2
    refine ⟨Maps.size D, fun w' hF => ?_, ho.size_le⟩
    obtain ⟨es, clock, h1, h2⟩ := ho
    have ho' : w'.ownsMap Try.prog 94 Rv m k D := ⟨es, clock, (hF.1.block m hR.2.lt).trans h1, h2⟩
    exact ho'.len underM _
  obtain ⟨c0, c1, cl⟩ := hR.cells
  have hmm := fun w => mk_hint sz w
  refine callsIn_of_wp_marks Try.func27 rfl trivial ?_ rfl
  simp only [Try.ntmps27, List.size_toArray, List.length_cons, List.length_nil, Nat.reduceAdd, Nat.reduceSub, Array.replicate_succ, Array.replicate_zero, List.push_toArray, List.append_toArray, List.nil_append, List.cons_append]
  gi_wp2_with (refine ⟨trivial, ?_⟩; gi_at_call 41; refine (callsIn_wide.2 (some_any _ _)).mono ?_; rintro e w1 ⟨rfl, rfl⟩)
  refine wpIn_wide.2 ?_
  refine wp_cut (R := fun a' wz => ∃ c' m' b' : Nat, a' = { tmps := #[.pointer (some ⟨b, 0, none⟩), undef, .pointer none, .pointer (some ⟨c', 0, none⟩), undef, undef, .pointer (some ⟨b, 0, none⟩), .bool false, .pointer (some ⟨b, 0, none⟩), .pointer (some ⟨b, 0, none⟩), .pointer (some ⟨b, 0, none⟩), .int .i64 (L : Int), .pointer (some ⟨b, 0, none⟩), .pointer (some ⟨b, 0, none⟩), .pointer (some ⟨b, 1, none⟩), .map (some m), .int .i64 (sz : Int), .map (some m'), .agg #[.int .i64 (L : Int), .map (some m')], .pointer (some ⟨b', 0, none⟩), undef, undef, undef, undef, undef, undef, undef, undef, undef, undef, undef, undef], defers := [] } ∧ wz.heap[c']? = some (.cells #[.pointer (some ⟨b', 0, none⟩)] 50) ∧ wz.heap[b']? = some (.cells #[.int .i64 (L : Int), .map (some m')] 90) ∧ MemAt wz m' 0 z10 ∧ Fr w.heap.size w wz ∧ w.heap.size ≤ c' ∧ w.heap.size ≤ m' ∧ w.heap.size ≤ b' ∧ c' ≠ m' ∧ c' ≠ b') ?_ ?_
  · refine wp_region_held_drew (S := (fun w' => Fr w.heap.size w w')) (by kernel_rfl) ?_ (fun hHeld => ?_)
    · exact (Fr.refl w).drew
    refine wpAnyH_take (i := 0) (oi := { dst := some 8, op := Op.move (Operand.tmp 0), type := 50, pos := "ram.go:147", after := _, guard := none }) (v := ?_) rfl (by kernel_rfl) (by kernel_rfl) (by kernel_rfl) (fun _ _ _ h => (by cases h.1)) (Or.inl ⟨by rfl, ?_⟩) (by assumption) ?_
    rotate_left
    · intro w' hSw
      try dsimp only at hSw
      go_simp
      try with_reducible rfl
    try simp only [Act.put, List.setIfInBounds_toArray, List.set_cons_zero, List.set_cons_succ]
    refine wpAnyH_take (i := 1) (oi := { dst := some 9, op := Op.nilCheck (Operand.tmp 8), type := 0, pos := "ram.go:147", after := _, guard := none }) (v := ?_) rfl (by kernel_rfl) (by kernel_rfl) (by kernel_rfl) (fun _ _ _ h => (by cases h.1)) (Or.inl ⟨by rfl, ?_⟩) (by assumption) ?_
    rotate_left
    · intro w' hSw
      try dsimp only at hSw
      go_simp
      try with_reducible rfl
    try simp only [Act.put, List.setIfInBounds_toArray, List.set_cons_zero, List.set_cons_succ]
    refine wpAnyH_take (i := 2) (oi := { dst := some 10, op := Op.fieldAddr 90 (Operand.tmp 9) 0, type := 0, pos := "ram.go:147", after := _, guard := none }) (v := ?_) rfl (by kernel_rfl) (by kernel_rfl) (by kernel_rfl) (fun _ _ _ h => (by cases h.1)) (Or.inl ⟨by rfl, ?_⟩) (by assumption) ?_
    rotate_left
    · intro w' hSw
      try dsimp only at hSw
      go_simp
      try with_reducible rfl
    try simp only [Act.put, List.setIfInBounds_toArray, List.set_cons_zero, List.set_cons_succ]
    refine wpAnyH_take (i := 3) (oi := { dst := some 11, op := Op.load 3 (Operand.tmp 10), type := 3, pos := "ram.go:147", after := _, guard := none }) (v := ?_) rfl (by kernel_rfl) (by kernel_rfl) (by kernel_rfl) (fun _ _ _ h => (by cases h.1)) (Or.inl ⟨by rfl, ?_⟩) (by assumption) ?_
    rotate_left
    · intro w' hSw
      try dsimp only at hSw
      have c0' := hcell hSw.1 c0
      go_simp
      try with_reducible rfl
    try simp only [Act.put, List.setIfInBounds_toArray, List.set_cons_zero, List.set_cons_succ]
    refine wpAnyH_take (i := 4) (oi := { dst := some 12, op := Op.move (Operand.tmp 0), type := 50, pos := "ram.go:147", after := _, guard := none }) (v := ?_) rfl (by kernel_rfl) (by kernel_rfl) (by kernel_rfl) (fun _ _ _ h => (by cases h.1)) (Or.inl ⟨by rfl, ?_⟩) (by assumption) ?_
    rotate_left
    · intro w' hSw
      try dsimp only at hSw
      go_simp
      try with_reducible rfl
    try simp only [Act.put, List.setIfInBounds_toArray, List.set_cons_zero, List.set_cons_succ]
    refine wpAnyH_take (i := 5) (oi := { dst := some 13, op := Op.nilCheck (Operand.tmp 12), type := 0, pos := "ram.go:147", after := _, guard := none }) (v := ?_) rfl (by kernel_rfl) (by kernel_rfl) (by kernel_rfl) (fun _ _ _ h => (by cases h.1)) (Or.inl ⟨by rfl, ?_⟩) (by assumption) ?_
    rotate_left
    · intro w' hSw
      try dsimp only at hSw
      go_simp
      try with_reducible rfl
    try simp only [Act.put, List.setIfInBounds_toArray, List.set_cons_zero, List.set_cons_succ]
    refine wpAnyH_take (i := 6) (oi := { dst := some 14, op := Op.fieldAddr 90 (Operand.tmp 13) 1, type := 0, pos := "ram.go:147", after := _, guard := none }) (v := ?_) rfl (by kernel_rfl) (by kernel_rfl) (by kernel_rfl) (fun _ _ _ h => (by cases h.1)) (Or.inl ⟨by rfl, ?_⟩) (by assumption) ?_
    rotate_left
    · intro w' hSw
      try dsimp only at hSw
      go_simp
      try with_reducible rfl
    try simp only [Act.put, List.setIfInBounds_toArray, List.set_cons_zero, List.set_cons_succ]
    refine wpAnyH_take (i := 7) (oi := { dst := some 15, op := Op.load 88 (Operand.tmp 14), type := 88, pos := "ram.go:147", after := _, guard := none }) (v := ?_) rfl (by kernel_rfl) (by kernel_rfl) (by kernel_rfl) (fun _ _ _ h => (by cases h.1)) (Or.inl ⟨by rfl, ?_⟩) (by assumption) ?_
    rotate_left
    · intro w' hSw
      try dsimp only at hSw
      have c1' := hcell hSw.1 c1
      go_simp
      try with_reducible rfl
    try simp only [Act.put, List.setIfInBounds_toArray, List.set_cons_zero, List.set_cons_succ]
    refine wpAnyH_take (i := 8) (oi := { dst := some 16, op := Op.call { callee := Callee.builtin Builtin.len, args := #[Operand.tmp 15], argTypes := #[88] }, type := 3, pos := "ram.go:147", after := _, guard := none }) (v := ?_) rfl (by kernel_rfl) (by kernel_rfl) (by kernel_rfl) (fun _ _ _ h => (by cases h.1)) (Or.inl ⟨by rfl, ?_⟩) (by assumption) ?_
    rotate_left
    · intro w' hSw
      try dsimp only at hSw
      have hl' := hlen w' hSw
      go_simp
      try with_reducible rfl
    try simp only [Act.put, List.setIfInBounds_toArray, List.set_cons_zero, List.set_cons_succ]
    refine wpAnyH_ready (rs := [9, 12]) (by kernel_rfl) (by simp) ?_
    refine AllReadyH.cons (o := { dst := some 17, op := Op.makeMap 88 (some (Operand.tmp 16)), type := 88, pos := "ram.go:147", after := _, guard := none }) rfl (fun K hK => ?_) (AllReadyH.cons (o := { dst := some 3, op := Op.alloc 50, type := 0, pos := "ram.go:147", after := _, guard := none }) rfl (fun K hK => ?_) (AllReadyH.nil))
    · go_simp
      refine hK.out _ _ ?_ (fun hHeld2 => ?_)
      · (try dsimp only)
        exact hHeld.alloc _
      clear hK K hHeld
      have hHeld := hHeld2
      clear hHeld2
      try simp only [Act.put, List.setIfInBounds_toArray, List.set_cons_zero, List.set_cons_succ]
      have hMe : MemAt (w.drew.alloc (.map #[] 0)) (w.heap.size) 0 z10 := by simpa using mem_new10 w.drew
      refine wpAnyH_take (i := 10) (oi := { dst := some 18, op := Op.build 90 #[(0, Operand.tmp 11), (1, Operand.tmp 17)], type := 90, pos := "ram.go:147", after := _, guard := none }) (v := ?_) rfl (by kernel_rfl) (by kernel_rfl) (by kernel_rfl) (fun _ _ _ h => (by cases h.1)) (Or.inl ⟨by rfl, ?_⟩) (by assumption) ?_
      rotate_left
      · intro w' hSw
        try dsimp only at hSw
        go_simp
        try with_reducible rfl
      try simp only [Act.put, List.setIfInBounds_toArray, List.set_cons_zero, List.set_cons_succ]
      refine wpAnyH_ready (rs := [11, 12]) (by kernel_rfl) (by simp) ?_
      refine AllReadyH.cons (o := { dst := some 19, op := Op.box 90 (Operand.tmp 18), type := 50, pos := "ram.go:147", after := _, guard := none }) rfl (fun K hK => ?_) (AllReadyH.cons (o := { dst := some 3, op := Op.alloc 50, type := 0, pos := "ram.go:147", after := _, guard := none }) rfl (fun K hK => ?_) (AllReadyH.nil))
      · go_simp
        refine hK.out _ _ ?_ (fun hHeld2 => ?_)
        · (try dsimp only)
          exact hHeld.alloc _
        clear hK K hHeld
        have hHeld := hHeld2
        clear hHeld2
        try simp only [Act.put, List.setIfInBounds_toArray, List.set_cons_zero, List.set_cons_succ]
        have hMe := hMe.keep ((Below.refl _ _).alloc (Nat.le_refl _) (.cells #[.int .i64 (L : Int), .map (some (w.heap.size))] 90))
        have kb : ((w.drew.alloc (.map #[] 0)).alloc (.cells #[.int .i64 (L : Int), .map (some (w.heap.size))] 90)).heap[w.heap.size + 1]? = some (.cells #[.int .i64 (L : Int), .map (some (w.heap.size))] 90) := (by simpa using heap_alloc_new (w.drew.alloc (.map #[] 0)) (.cells #[.int .i64 (L : Int), .map (some (w.heap.size))] 90))
        refine wpAnyH_ready (rs := [12]) (by kernel_rfl) (by simp) ?_
        refine AllReadyH.cons (o := { dst := some 3, op := Op.alloc 50, type := 0, pos := "ram.go:147", after := _, guard := none }) rfl (fun K hK => ?_) AllReadyH.nil
        go_simp
        refine hK.out _ _ ?_ (fun hHeld2 => ?_)
        · (try dsimp only)
          exact hHeld.alloc _
        clear hK K hHeld
        have hHeld := hHeld2
        clear hHeld2
        try simp only [Act.put, List.setIfInBounds_toArray, List.set_cons_zero, List.set_cons_succ]
        have hMe := hMe.keep ((Below.refl _ _).alloc (Nat.le_refl _) (.cells #[.pointer none] 50))
        have kb := keep_alloc kb (.cells #[.pointer none] 50)
        have kc : (((w.drew.alloc (.map #[] 0)).alloc (.cells #[.int .i64 (L : Int), .map (some (w.heap.size))] 90)).alloc (.cells #[.pointer none] 50)).heap[w.heap.size + 1 + 1]? = some (.cells #[.pointer none] 50) := (by simpa using heap_alloc_new ((w.drew.alloc (.map #[] 0)).alloc (.cells #[.int .i64 (L : Int), .map (some (w.heap.size))] 90)) (.cells #[.pointer none] 50))
        refine wpAnyH_ready (rs := [13]) (by kernel_rfl) (by simp) ?_
        refine AllReadyH.cons (o := { dst := none, op := Op.store 50 (Operand.tmp 3) (Operand.tmp 19), type := 0, pos := "ram.go:147", after := _, guard := none }) rfl (fun K hK => ?_) AllReadyH.nil
        clear kc kb hMe
        go_simp
        refine hK.out _ _ ?_ (fun hHeld2 => ?_)
        · (try dsimp only)
          exact ((((Fr.refl w).drew).alloc (.map #[] 0)).alloc (.cells #[.int .i64 (L : Int), .map (some (w.heap.size))] 90)).alloc (.cells #[.pointer (some ⟨w.heap.size + 1, 0, none⟩)] 50)
        clear hK K hHeld
        have hHeld := hHeld2
        clear hHeld2
        try simp only [Act.put, List.setIfInBounds_toArray, List.set_cons_zero, List.set_cons_succ]
        refine wpAnyH_done (by kernel_rfl) ?_ _
        have nM : MemAt (w.drew.alloc (.map #[] 0)) (w.heap.size) 0 z10 := by simpa using mem_new10 w.drew
        have nM := nM.keep ((Below.refl _ _).alloc (Nat.le_refl _) (.cells #[.int .i64 (L : Int), .map (some (w.heap.size))] 90))
        have nb : ((w.drew.alloc (.map #[] 0)).alloc (.cells #[.int .i64 (L : Int), .map (some (w.heap.size))] 90)).heap[w.heap.size + 1]? = some (.cells #[.int .i64 (L : Int), .map (some (w.heap.size))] 90) := by simpa using heap_alloc_new (w.drew.alloc (.map #[] 0)) (.cells #[.int .i64 (L : Int), .map (some (w.heap.size))] 90)
        have nM := nM.keep ((Below.refl _ _).alloc (Nat.le_refl _) (.cells #[.pointer (some ⟨w.heap.size + 1, 0, none⟩)] 50))
        have nb := keep_alloc nb (.cells #[.pointer (some ⟨w.heap.size + 1, 0, none⟩)] 50)
        have nc : (((w.drew.alloc (.map #[] 0)).alloc (.cells #[.int .i64 (L : Int), .map (some (w.heap.size))] 90)).alloc (.cells #[.pointer (some ⟨w.heap.size + 1, 0, none⟩)] 50)).heap[w.heap.size + 1 + 1]? = some (.cells #[.pointer (some ⟨w.heap.size + 1, 0, none⟩)] 50) := by simpa using heap_alloc_new ((w.drew.alloc (.map #[] 0)).alloc (.cells #[.int .i64 (L : Int), .map (some (w.heap.size))] 90)) (.cells #[.pointer (some ⟨w.heap.size + 1, 0, none⟩)] 50)
        refine ⟨rfl, w.heap.size + 1 + 1, w.heap.size, w.heap.size + 1, rfl, nc, nb, nM, hHeld, by omega, by omega, by omega, by omega, by omega⟩
      · go_simp
        refine hK.out _ _ ?_ (fun hHeld2 => ?_)
        · (try dsimp only)
          exact hHeld.alloc _
        clear hK K hHeld
        have hHeld := hHeld2
        clear hHeld2
        try simp only [Act.put, List.setIfInBounds_toArray, List.set_cons_zero, List.set_cons_succ]
        have hMe := hMe.keep ((Below.refl _ _).alloc (Nat.le_refl _) (.cells #[.pointer none] 50))
        have kc : ((w.drew.alloc (.map #[] 0)).alloc (.cells #[.pointer none] 50)).heap[w.heap.size + 1]? = some (.cells #[.pointer none] 50) := (by simpa using heap_alloc_new (w.drew.alloc (.map #[] 0)) (.cells #[.pointer none] 50))
        refine wpAnyH_ready (rs := [11]) (by kernel_rfl) (by simp) ?_
        refine AllReadyH.cons (o := { dst := some 19, op := Op.box 90 (Operand.tmp 18), type := 50, pos := "ram.go:147", after := _, guard := none }) rfl (fun K hK => ?_) AllReadyH.nil
        go_simp
        refine hK.out _ _ ?_ (fun hHeld2 => ?_)
        · (try dsimp only)
          exact hHeld.alloc _
        clear hK K hHeld
        have hHeld := hHeld2
        clear hHeld2
        try simp only [Act.put, List.setIfInBounds_toArray, List.set_cons_zero, List.set_cons_succ]
        have hMe := hMe.keep ((Below.refl _ _).alloc (Nat.le_refl _) (.cells #[.int .i64 (L : Int), .map (some (w.heap.size))] 90))
        have kc := keep_alloc kc (.cells #[.int .i64 (L : Int), .map (some (w.heap.size))] 90)
        have kb : (((w.drew.alloc (.map #[] 0)).alloc (.cells #[.pointer none] 50)).alloc (.cells #[.int .i64 (L : Int), .map (some (w.heap.size))] 90)).heap[w.heap.size + 1 + 1]? = some (.cells #[.int .i64 (L : Int), .map (some (w.heap.size))] 90) := (by simpa using heap_alloc_new ((w.drew.alloc (.map #[] 0)).alloc (.cells #[.pointer none] 50)) (.cells #[.int .i64 (L : Int), .map (some (w.heap.size))] 90))
        refine wpAnyH_ready (rs := [13]) (by kernel_rfl) (by simp) ?_
        refine AllReadyH.cons (o := { dst := none, op := Op.store 50 (Operand.tmp 3) (Operand.tmp 19), type := 0, pos := "ram.go:147", after := _, guard := none }) rfl (fun K hK => ?_) AllReadyH.nil
        clear kc kb hMe
        go_simp
        refine hK.out _ _ ?_ (fun hHeld2 => ?_)
        · (try dsimp only)
          exact ((((Fr.refl w).drew).alloc (.map #[] 0)).alloc (.cells #[.pointer (some ⟨w.heap.size + 1 + 1, 0, none⟩)] 50)).alloc (.cells #[.int .i64 (L : Int), .map (some (w.heap.size))] 90)
        clear hK K hHeld
        have hHeld := hHeld2
        clear hHeld2
        try simp only [Act.put, List.setIfInBounds_toArray, List.set_cons_zero, List.set_cons_succ]
        refine wpAnyH_done (by kernel_rfl) ?_ _
        have nM : MemAt (w.drew.alloc (.map #[] 0)) (w.heap.size) 0 z10 := by simpa using mem_new10 w.drew
        have nM := nM.keep ((Below.refl _ _).alloc (Nat.le_refl _) (.cells #[.pointer (some ⟨w.heap.size + 1 + 1, 0, none⟩)] 50))
        have nc : ((w.drew.alloc (.map #[] 0)).alloc (.cells #[.pointer (some ⟨w.heap.size + 1 + 1, 0, none⟩)] 50)).heap[w.heap.size + 1]? = some (.cells #[.pointer (some ⟨w.heap.size + 1 + 1, 0, none⟩)] 50) := by simpa using heap_alloc_new (w.drew.alloc (.map #[] 0)) (.cells #[.pointer (some ⟨w.heap.size + 1 + 1, 0, none⟩)] 50)
        have nM := nM.keep ((Below.refl _ _).alloc (Nat.le_refl _) (.cells #[.int .i64 (L : Int), .map (some (w.heap.size))] 90))
        have nc := keep_alloc nc (.cells #[.int .i64 (L : Int), .map (some (w.heap.size))] 90)
        have nb : (((w.drew.alloc (.map #[] 0)).alloc (.cells #[.pointer (some ⟨w.heap.size + 1 + 1, 0, none⟩)] 50)).alloc (.cells #[.int .i64 (L : Int), .map (some (w.heap.size))] 90)).heap[w.heap.size + 1 + 1]? = some (.cells #[.int .i64 (L : Int), .map (some (w.heap.size))] 90) := by simpa using heap_alloc_new ((w.drew.alloc (.map #[] 0)).alloc (.cells #[.pointer (some ⟨w.heap.size + 1 + 1, 0, none⟩)] 50)) (.cells #[.int .i64 (L : Int), .map (some (w.heap.size))] 90)
        refine ⟨rfl, w.heap.size + 1, w.heap.size, w.heap.size + 1 + 1, rfl, nc, nb, nM, hHeld, by omega, by omega, by omega, by omega, by omega⟩
    · go_simp
      refine hK.out _ _ ?_ (fun hHeld2 => ?_)
      · (try dsimp only)
        exact hHeld.alloc _
      clear hK K hHeld
      have hHeld := hHeld2
      clear hHeld2
      try simp only [Act.put, List.setIfInBounds_toArray, List.set_cons_zero, List.set_cons_succ]
      have kc : (w.drew.alloc (.cells #[.pointer none] 50)).heap[w.heap.size]? = some (.cells #[.pointer none] 50) := (by simpa using heap_alloc_new w.drew (.cells #[.pointer none] 50))
      refine wpAnyH_ready (rs := [9]) (by kernel_rfl) (by simp) ?_
      refine AllReadyH.cons (o := { dst := some 17, op := Op.makeMap 88 (some (Operand.tmp 16)), type := 88, pos := "ram.go:147", after := _, guard := none }) rfl (fun K hK => ?_) AllReadyH.nil
      go_simp
      refine hK.out _ _ ?_ (fun hHeld2 => ?_)
      · (try dsimp only)
        exact hHeld.alloc _
      clear hK K hHeld
      have hHeld := hHeld2
      clear hHeld2
      try simp only [Act.put, List.setIfInBounds_toArray, List.set_cons_zero, List.set_cons_succ]
      have kc := keep_alloc kc (.map #[] 0)
      have hMe : MemAt ((w.drew.alloc (.cells #[.pointer none] 50)).alloc (.map #[] 0)) (w.heap.size + 1) 0 z10 := by simpa using mem_new10 (w.drew.alloc (.cells #[.pointer none] 50))
      refine wpAnyH_take (i := 10) (oi := { dst := some 18, op := Op.build 90 #[(0, Operand.tmp 11), (1, Operand.tmp 17)], type := 90, pos := "ram.go:147", after := _, guard := none }) (v := ?_) rfl (by kernel_rfl) (by kernel_rfl) (by kernel_rfl) (fun _ _ _ h => (by cases h.1)) (Or.inl ⟨by rfl, ?_⟩) (by assumption) ?_
      rotate_left
      · intro w' hSw
        try dsimp only at hSw
        go_simp
        try with_reducible rfl
      try simp only [Act.put, List.setIfInBounds_toArray, List.set_cons_zero, List.set_cons_succ]
      refine wpAnyH_ready (rs := [11]) (by kernel_rfl) (by simp) ?_
      refine AllReadyH.cons (o := { dst := some 19, op := Op.box 90 (Operand.tmp 18), type := 50, pos := "ram.go:147", after := _, guard := none }) rfl (fun K hK => ?_) AllReadyH.nil
      go_simp
      refine hK.out _ _ ?_ (fun hHeld2 => ?_)
      · (try dsimp only)
        exact hHeld.alloc _
      clear hK K hHeld
      have hHeld := hHeld2
      clear hHeld2
      try simp only [Act.put, List.setIfInBounds_toArray, List.set_cons_zero, List.set_cons_succ]
      have kc := keep_alloc kc (.cells #[.int .i64 (L : Int), .map (some (w.heap.size + 1))] 90)
      have hMe := hMe.keep ((Below.refl _ _).alloc (Nat.le_refl _) (.cells #[.int .i64 (L : Int), .map (some (w.heap.size + 1))] 90))
      have kb : (((w.drew.alloc (.cells #[.pointer none] 50)).alloc (.map #[] 0)).alloc (.cells #[.int .i64 (L : Int), .map (some (w.heap.size + 1))] 90)).heap[w.heap.size + 1 + 1]? = some (.cells #[.int .i64 (L : Int), .map (some (w.heap.size + 1))] 90) := (by simpa using heap_alloc_new ((w.drew.alloc (.cells #[.pointer none] 50)).alloc (.map #[] 0)) (.cells #[.int .i64 (L : Int), .map (some (w.heap.size + 1))] 90))
      refine wpAnyH_ready (rs := [13]) (by kernel_rfl) (by simp) ?_
      refine AllReadyH.cons (o := { dst := none, op := Op.store 50 (Operand.tmp 3) (Operand.tmp 19), type := 0, pos := "ram.go:147", after := _, guard := none }) rfl (fun K hK => ?_) AllReadyH.nil
      clear kc kb hMe
      go_simp
      refine hK.out _ _ ?_ (fun hHeld2 => ?_)
      · (try dsimp only)
        exact ((((Fr.refl w).drew).alloc (.cells #[.pointer (some ⟨w.heap.size + 1 + 1, 0, none⟩)] 50)).alloc (.map #[] 0)).alloc (.cells #[.int .i64 (L : Int), .map (some (w.heap.size + 1))] 90)
      clear hK K hHeld
      have hHeld := hHeld2
      clear hHeld2
      try simp only [Act.put, List.setIfInBounds_toArray, List.set_cons_zero, List.set_cons_succ]
      refine wpAnyH_done (by kernel_rfl) ?_ _
      have nc : (w.drew.alloc (.cells #[.pointer (some ⟨w.heap.size + 1 + 1, 0, none⟩)] 50)).heap[w.heap.size]? = some (.cells #[.pointer (some ⟨w.heap.size + 1 + 1, 0, none⟩)] 50) := by simpa using heap_alloc_new w.drew (.cells #[.pointer (some ⟨w.heap.size + 1 + 1, 0, none⟩)] 50)
      have nc := keep_alloc nc (.map #[] 0)
      have nM : MemAt ((w.drew.alloc (.cells #[.pointer (some ⟨w.heap.size + 1 + 1, 0, none⟩)] 50)).alloc (.map #[] 0)) (w.heap.size + 1) 0 z10 := by simpa using mem_new10 (w.drew.alloc (.cells #[.pointer (some ⟨w.heap.size + 1 + 1, 0, none⟩)] 50))
      have nc := keep_alloc nc (.cells #[.int .i64 (L : Int), .map (some (w.heap.size + 1))] 90)
      have nM := nM.keep ((Below.refl _ _).alloc (Nat.le_refl _) (.cells #[.int .i64 (L : Int), .map (some (w.heap.size + 1))] 90))
      have nb : (((w.drew.alloc (.cells #[.pointer (some ⟨w.heap.size + 1 + 1, 0, none⟩)] 50)).alloc (.map #[] 0)).alloc (.cells #[.int .i64 (L : Int), .map (some (w.heap.size + 1))] 90)).heap[w.heap.size + 1 + 1]? = some (.cells #[.int .i64 (L : Int), .map (some (w.heap.size + 1))] 90) := by simpa using heap_alloc_new ((w.drew.alloc (.cells #[.pointer (some ⟨w.heap.size + 1 + 1, 0, none⟩)] 50)).alloc (.map #[] 0)) (.cells #[.int .i64 (L : Int), .map (some (w.heap.size + 1))] 90)
      refine ⟨rfl, w.heap.size, w.heap.size + 1, w.heap.size + 1 + 1, rfl, nc, nb, nM, hHeld, by omega, by omega, by omega, by omega, by omega⟩
  rintro a1 wz ⟨c', m', b', rfl, kc, kb, hMe, hF, hcw, hmw, hbw, hcm, hcb⟩
  -- BEHIND REGION 3
  have hml := hR.2.lt
  have hRz := hR.2.same (hF.1.block m hml)
  have hbz := heapAt hF.1 hR.1 cl
  have hbm : b' ≠ m' := by
    obtain ⟨D, ⟨es, clock, h1, h2⟩, hD⟩ := hMe
    intro e
    rw [e, h1] at kb
    cases kb
  gi_wp2_with (refine ⟨trivial, ?_⟩; gi_at_call 41; refine (callsIn_wide.2 (some_any _ _)).mono ?_; rintro e w1 ⟨rfl, rfl⟩)
  have hwz : w.heap.size ≤ wz.heap.size := hF.2
  have lc := lt_of_at kc
  have lb := lt_of_at kb
  have lm := hMe.lt
  have kB := heap_alloc_new wz (.cells #[.pointer (some ⟨b, 0, none⟩)] 50)
  have hA : Below wz.heap.size wz (wz.alloc (.cells #[.pointer (some ⟨b, 0, none⟩)] 50)) := (Below.refl _ _).alloc (Nat.le_refl _) _
  have hAs : (wz.alloc (.cells #[.pointer (some ⟨b, 0, none⟩)] 50)).heap.size = wz.heap.size + 1 := by simp
  refine wpIn_rangeFunc_ownH rfl (by decide) (gf := 57) (lb := #[.pointer (some ⟨wz.heap.size, 0, none⟩)]) rfl trivial (enters_of Try.func57 (by kernel_rfl) rfl)
    (some_stops 4 wz.heap.size w.heap.size b m k L g _ (by decide) hL cl hml (by omega) kB ⟨keepB hA hbz, hRz.keep hA⟩) KpB.trans (kpB_b (by omega) (by omega)) (Below.refl _ _) (fun _ => rfl)
    (CI w wz.heap.size b c' b' m' L g) (fun _ _ _ => False) (CI_own (by omega) (by omega) (by omega) (by omega) (by omega)) (fun _ _ _ _ _ hs _ _ => hs)
    ⟨⟨kB, keepB hA kc, keepB hA kb, hMe.keep hA⟩, hF.1.trans (hA.mono hwz)⟩
    (fun x a' W => ∃ Bx, wz.heap.size < Bx ∧ W.heap[Bx]? = some (.cells (cellsL (g x.1)) 26) ∧ a' = { tmps := #[.pointer (some ⟨b, 0, none⟩), undef, .pointer none, .pointer (some ⟨c', 0, none⟩), .int .i64 (x.1 : Int), .pointer (some ⟨Bx, 0, none⟩), .pointer (some ⟨b, 0, none⟩), .bool false, .pointer (some ⟨b, 0, none⟩), .pointer (some ⟨b, 0, none⟩), .pointer (some ⟨b, 0, none⟩), .int .i64 (L : Int), .pointer (some ⟨b, 0, none⟩), .pointer (some ⟨b, 0, none⟩), .pointer (some ⟨b, 1, none⟩), .map (some m), .int .i64 (sz : Int), .map (some m'), .agg #[.int .i64 (L : Int), .map (some m')], .pointer (some ⟨b', 0, none⟩), .pointer (some ⟨b, 0, none⟩), .func (.func 57) #[] #[.pointer (some ⟨wz.heap.size, 0, none⟩)], .int .i64 (x.1 : Int), .agg (cellsL (g x.1)), undef, undef, undef, undef, undef, undef, undef, undef], defers := [] })
    (fun x a' s W W' row hs hg hr => by
      obtain ⟨Bx, h1, h2, h3⟩ := hs
      refine ⟨Bx, h1, (hg.block Bx (lt_of_at h2) (fun e => ?_)).trans h2, h3⟩
      obtain ⟨_, o, ho, hc⟩ := hr _ e.symm
      rw [h2] at ho
      cases ho
      cases hc) ?assign ?body ?done ?stop
  case assign =>
    rintro l pre x W K hi hK
    have hst := st_rowL Try.prog (heap_alloc_new W (.cells (cellsL fun _ => 0) 26)) (g x.1)
    dsimp only [encsL]
    have hKK := Lib.hid hK
    clear hK hlen hRz hbz kc kb hMe hF kB hA
    gi_wp2
    have hb : Below W.heap.size W ((W.alloc (.cells (cellsL fun _ => 0) 26)).setRow W.heap.size (cellsL (g x.1))) := (((Fr.refl W).alloc _).row (Nat.le_refl _) _).1
    exact hKK.out _ _ (keepsFrom_below hb) (KpB.of_below hb hi.2.size (lt_of_at hi.1.1)) (hi.keep hb) ⟨W.heap.size, lt_of_at hi.1.1, row_at (heap_alloc_new W _) _, rfl⟩
  case body =>
    rintro l pre x a' W hl hrec hI ⟨Bx, hBx, kx, rfl⟩ hlt
    have hx6 := line_lt x.2.1 hL
    clear hlen hRz hbz kc kb hMe hF kB hA c0 c1
    gi_wp2
    refine wpIn_region_round (S := (fun w' => ((Fr w.heap.size w w' ∧ w'.heap[c']? = some (.cells #[.pointer (some ⟨b', 0, none⟩)] 50)) ∧ w'.heap[b']? = some (.cells #[.int .i64 (L : Int), .map (some m')] 90)) ∧ w'.heap[Bx]? = some (.cells (cellsL (g x.1)) 26))) (by kernel_rfl) (by kernel_rfl) (fun ⟨_, _, h⟩ => h) ?_ (fun hHeld => ?_)
    · exact ⟨⟨⟨⟨hI.2.drew, hI.2.size⟩, hI.1.2.1⟩, hI.1.2.2.1⟩, kx⟩
    refine wpAnyH_take (i := 0) (oi := { dst := some 24, op := Op.load 50 (Operand.tmp 3), type := 50, pos := "ram.go:149", after := _, guard := none }) (v := ?_) rfl (by kernel_rfl) (by kernel_rfl) (by kernel_rfl) (fun _ _ _ h => h) (Or.inl ⟨by rfl, ?_⟩) (by assumption) ?_
    rotate_left
    · intro w' hSw
      try dsimp only at hSw
      have cc : w'.cell? ⟨c', 0, none⟩ = some (.pointer (some ⟨b', 0, none⟩)) := by rw [cell_at hSw.1.1.2]; rfl
      go_simp
      try with_reducible rfl
    try simp only [Act.put, List.setIfInBounds_toArray, List.set_cons_zero, List.set_cons_succ]
    refine wpAnyH_take (i := 1) (oi := { dst := some 25, op := Op.nilCheck (Operand.tmp 24), type := 0, pos := "ram.go:149", after := _, guard := none }) (v := ?_) rfl (by kernel_rfl) (by kernel_rfl) (by kernel_rfl) (fun _ _ _ h => h) (Or.inl ⟨by rfl, ?_⟩) (by assumption) ?_
    rotate_left
    · intro w' hSw
      try dsimp only at hSw
      go_simp
      try with_reducible rfl
    try simp only [Act.put, List.setIfInBounds_toArray, List.set_cons_zero, List.set_cons_succ]
    refine wpAnyH_take (i := 2) (oi := { dst := some 26, op := Op.fieldAddr 90 (Operand.tmp 25) 1, type := 0, pos := "ram.go:149", after := _, guard := none }) (v := ?_) rfl (by kernel_rfl) (by kernel_rfl) (by kernel_rfl) (fun _ _ _ h => h) (Or.inl ⟨by rfl, ?_⟩) (by assumption) ?_
    rotate_left
    · intro w' hSw
      try dsimp only at hSw
      go_simp
      try with_reducible rfl
    try simp only [Act.put, List.setIfInBounds_toArray, List.set_cons_zero, List.set_cons_succ]
    refine wpAnyH_take (i := 3) (oi := { dst := some 27, op := Op.load 88 (Operand.tmp 26), type := 88, pos := "ram.go:149", after := _, guard := none }) (v := ?_) rfl (by kernel_rfl) (by kernel_rfl) (by kernel_rfl) (fun _ _ _ h => h) (Or.inl ⟨by rfl, ?_⟩) (by assumption) ?_
    rotate_left
    · intro w' hSw
      try dsimp only at hSw
      have cb : w'.cell? ⟨b', 1, none⟩ = some (.map (some m')) := by rw [cell_at hSw.1.2]; rfl
      go_simp
      try with_reducible rfl
    try simp only [Act.put, List.setIfInBounds_toArray, List.set_cons_zero, List.set_cons_succ]
    refine wpAnyH_take (i := 4) (oi := { dst := some 28, op := Op.move (Operand.tmp 4), type := 3, pos := "ram.go:149", after := _, guard := none }) (v := ?_) rfl (by kernel_rfl) (by kernel_rfl) (by kernel_rfl) (fun _ _ _ h => h) (Or.inl ⟨by rfl, ?_⟩) (by assumption) ?_
    rotate_left
    · intro w' hSw
      try dsimp only at hSw
      go_simp
      try with_reducible rfl
    try simp only [Act.put, List.setIfInBounds_toArray, List.set_cons_zero, List.set_cons_succ]
    refine wpAnyH_take (i := 6) (oi := { dst := some 30, op := Op.load 26 (Operand.tmp 5), type := 26, pos := "ram.go:149", after := _, guard := none }) (v := .agg (cellsL (g x.1))) rfl (by kernel_rfl) (by kernel_rfl) (by kernel_rfl) (fun _ _ _ h => h) (yields_row (g := g x.1) (by rfl) _ _ rfl _ rfl (fun w' hSw => by (try dsimp only at hSw); exact hSw.2) Try.underlying26 rfl infoLL) (by assumption) ?_
    try simp only [Act.put, List.setIfInBounds_toArray, List.set_cons_zero, List.set_cons_succ]
    refine wpAnyH_ready (rs := [5]) (by kernel_rfl) (by simp) ?_
    refine AllReadyH.cons (o := { dst := some 29, op := Op.call { callee := Callee.value (Operand.func 51), args := #[Operand.tmp 28], argTypes := #[3] }, type := 94, pos := "ram.go:149", after := _, guard := none }) rfl (fun K hK => ?_) AllReadyH.nil
    go_simp
    go_at_call 51
    refine (ramof_any x.1 _ hx6).mono ?_
    rintro e w5 ⟨rfl, hb5⟩
    try go_wp2_with fail
    refine hK.out _ _ ?_ (fun hHeld2 => ?_)
    · (try dsimp only)
      exact ⟨⟨⟨hHeld.1.1.1.step hb5, keepB hb5 hHeld.1.1.2⟩, keepB hb5 hHeld.1.2⟩, keepB hb5 hHeld.2⟩
    clear hK K hHeld
    have hHeld := hHeld2
    clear hHeld2
    try simp only [Act.put, List.setIfInBounds_toArray, List.set_cons_zero, List.set_cons_succ]
    refine wpAnyH_ready (rs := [7]) (by kernel_rfl) (by simp) ?_
    refine AllReadyH.cons (o := { dst := none, op := Op.mapUpdate 88 (Operand.tmp 27) (Operand.tmp 29) (Operand.tmp 30), type := 0, pos := "ram.go:149", after := _, guard := none }) rfl (fun K hK => ?_) AllReadyH.nil
    have hW5 : Below W.heap.size W w5 := ((Fr.refl W).drew.step hb5).1
    have hM5 := hI.1.2.2.2.keep hW5
    obtain ⟨w7, hr7, hM7, ht7⟩ := mem_store hM5 (by have : maxLen = 9223372036854775807 := rfl; omega) hx6 x.2.2
    have hT7 := turned_wrote ht7
    have hm5 := hM5.lt
    go_simp
    refine hK.out _ _ ?_ (fun hHeld2 => ?_)
    · (try dsimp only)
      exact ⟨⟨⟨hT7.1 _ _ hmw hHeld.1.1.1, hT7.2 _ _ hcm hHeld.1.1.2⟩, hT7.2 _ _ hbm hHeld.1.2⟩, hT7.2 _ _ (by omega) hHeld.2⟩
    clear hK K hHeld
    have hHeld := hHeld2
    clear hHeld2
    try simp only [Act.put, List.setIfInBounds_toArray, List.set_cons_zero, List.set_cons_succ]
    refine wpAnyH_done (by kernel_rfl) ?_ _
    have hI5 := hI.keep hW5
    exact ⟨(keepsFrom_below hW5).trans (keepsFrom_wrote hT7 (by omega) hm5), (KpB.of_below hW5 hI.2.size (lt_of_at hI.1.1)).trans (kpB_wrote hT7 hmw hm5 (by omega) hI5.1.1), hI5.snoc hM7 hT7 (by omega) hcm hbm hmw⟩
  case done =>
    rintro D ys W hD rfl hI hK
    clear hlen hRz hbz kc kb hMe hF kB hA c0 c1
    have cc : W.cell? ⟨c', 0, none⟩ = some (.pointer (some ⟨b', 0, none⟩)) := by rw [cell_at hI.1.2.1]; rfl
    gi_wp2
    refine ⟨by simp, .inl ⟨_, _, rfl, run_takeDeferred hK, ?_⟩⟩
    have lD := lt_of_at hK
    have hB : Below w.heap.size w (W.putObj D (.deferred none)) := hI.2.trans (belowK_b (w := w) (Nat.le_refl _) W D _ _ (by omega) hK rfl rfl)
    have hM : MemAt (W.putObj D (.deferred none)) m' (someTo L g L).length g := (hI.1.2.2.2.same (World.putObj_heap_other (by omega))).ext' (putAll_end hS)
    refine ⟨_, results_tmp rfl _ _ _, b', m', _, rfl, ⟨(World.putObj_heap_other (by omega)).trans hI.1.2.2.1, hM⟩, hB, hbw, hmw, ?_⟩
    have := someTo_len L g L
    omega
  case stop =>
    rintro D c pre W _ _ h _
    exact h.elim
end Go.Proofs.Ytbboaekfhdeolaa
