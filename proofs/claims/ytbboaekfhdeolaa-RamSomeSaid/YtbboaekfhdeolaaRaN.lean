/- ram's Same: a range over Some that may return. -/
import Derived.Test.YtbboaekfhdeolaaRaL
import Derived.Test.YtbboaekfhdeolaaRaM
namespace Go.Proofs.Ytbboaekfhdeolaa
open Go.RowKit Go.Shelf
open Go.Maps (Keyed)
set_option linter.unusedSimpArgs false
set_option linter.unusedVariables false
attribute [local simp high] sizeLL zeroLL
attribute [local go_sem] Oper.semAt_some

theorem frozen_at {W : World} {B : Nat} {v : Value} {t : TypeId} (h : W.heap[B]? = some (.cells #[v] t)) : W.frozen? ⟨B, 0, none⟩ = false := by simp [World.frozen?, h]
/-- Same's loop: what lies between two rounds; behind a round that returns. -/
def SI (w : World) (Bs b b' L : Nat) (g g' : Nat → Nat → Nat) (pre : List (LineOf L g)) (W : World) : Prop :=
  (W.heap[Bs]? = some (.cells #[.pointer (some ⟨b, 0, none⟩)] 50) ∧ W.heap[w.heap.size]? = some (.cells #[.pointer (some ⟨b', 0, none⟩)] 50) ∧ W.heap[w.heap.size + 1]? = some (.cells #[.bool false] 4) ∧ ∀ x ∈ pre, cellsL (g x.1) = cellsL (g' x.1)) ∧ Below w.heap.size w W
def SX (w : World) {L : Nat} (g g' : Nat → Nat → Nat) (c : Code) (pre : List (LineOf L g)) (W : World) : Prop :=
  c = .ret ∧ W.heap[w.heap.size + 1]? = some (.cells #[.bool false] 4) ∧ Below w.heap.size w W ∧ ∃ x : LineOf L g, cellsL (g x.1) ≠ cellsL (g' x.1)
theorem SI.keep {w W W' : World} {Bs b b' L : Nat} {g g' : Nat → Nat → Nat} {pre : List (LineOf L g)} (h : SI w Bs b b' L g g' pre W) (hb : Below W.heap.size W W') : SI w Bs b b' L g g' pre W' :=
  ⟨⟨keepB hb h.1.1, keepB hb h.1.2.1, keepB hb h.1.2.2.1, h.1.2.2.2⟩, h.2.trans (hb.mono h.2.size)⟩
theorem SI.snoc {w W : World} {Bs b b' L : Nat} {g g' : Nat → Nat → Nat} {pre : List (LineOf L g)} {x : LineOf L g} (h : SI w Bs b b' L g g' pre W) (e : cellsL (g x.1) = cellsL (g' x.1)) : SI w Bs b b' L g g' (pre ++ [x]) W :=
  ⟨⟨h.1.1, h.1.2.1, h.1.2.2.1, fun y hy => by
    rcases List.mem_append.1 hy with hy | hy
    · exact h.1.2.2.2 y hy
    · rw [List.mem_singleton.1 hy]; exact e⟩, h.2⟩
theorem SI_own {w : World} {Bs b b' L B : Nat} {g g' : Nat → Nat → Nat} (h1 : Bs < B) (h2 : w.heap.size + 1 < B) : OwnFrom B (SI w Bs b b' L g g') := by
  intro s W W' row hs hg hr
  have kp : ∀ k o, k < B → W.heap[k]? = some o → W'.heap[k]? = some o := fun k o hk ho =>
    (hg.block k (lt_of_at ho) (fun e => by have := (hr _ e.symm).1; omega)).trans ho
  exact ⟨⟨kp _ _ h1 hs.1.1, kp _ _ (by omega) hs.1.2.1, kp _ _ h2 hs.1.2.2.1, hs.1.2.2.2⟩, (ownFrom_below (β := Unit) (Nat.le_refl _) (by omega)) () W W' row hs.2 hg hr⟩
theorem SX_own {w : World} {L B : Nat} {g g' : Nat → Nat → Nat} (h2 : w.heap.size + 1 < B) (c : Code) : OwnFrom B (SX (L := L) w g g' c) := by
  intro s W W' row hs hg hr
  exact ⟨hs.1, (hg.block _ (lt_of_at hs.2.1) (fun e => by have := (hr _ e.symm).1; omega)).trans hs.2.1, (ownFrom_below (β := Unit) (Nat.le_refl _) (by omega)) () W W' row hs.2.2.1 hg hr, hs.2.2.2⟩
set_option maxRecDepth 100000 in
set_option maxHeartbeats 4000000 in
theorem same_any (b m k b' m' k' L : Nat) (g g' : Nat → Nat → Nat) (q : Bool) (w : World) (okg : ∀ i, OkL (g i)) (okg' : ∀ i, OkL (g' i)) (hS : Supp L g) (hL : L ≤ 4096) (hR : RamAt w b m k L g) (hR' : RamAt w b' m' k' L g') (hq : q = true ↔ SameG g g') :
    CallsIn Fence.wide 5 Try.prog 28 #[.pointer (some ⟨b, 0, none⟩), .pointer (some ⟨b', 0, none⟩)] w fun e w' => e = .returned (.bool q) ∧ Below w.heap.size w w' := by
  obtain ⟨D, hD0, hDk⟩ := hR.2
  obtain ⟨D', hD0', hDk'⟩ := hR'.2
  have cD := hD0.canon placeK
  have cD' := hD0'.canon placeK
  have lenD : ∀ w', Fr w.heap.size w w' → (Builtin.len_ #[88] 3 #[.map (some m)]).run Try.prog w' = .ok (.int .i64 (Maps.size D : Int)) w' := fun w' hF => by
    have lt := hD0.lt
    obtain ⟨es, clock, h1, h2⟩ := hD0
    exact World.ownsMap.len (show w'.ownsMap Try.prog 94 Rv m k D from ⟨es, clock, (hF.1.block m lt).trans h1, h2⟩) underM _
  have lenD' : ∀ w', Fr w.heap.size w w' → (Builtin.len_ #[88] 3 #[.map (some m')]).run Try.prog w' = .ok (.int .i64 (Maps.size D' : Int)) w' := fun w' hF => by
    have lt := hD0'.lt
    obtain ⟨es, clock, h1, h2⟩ := hD0'
    exact World.ownsMap.len (show w'.ownsMap Try.prog 94 Rv m' k' D' from ⟨es, clock, (hF.1.block m' lt).trans h1, h2⟩) underM _
  obtain ⟨c0, c1, cl⟩ := hR.cells
  obtain ⟨c0', c1', cl'⟩ := hR'.cells
  refine callsIn_of_wp_marks Try.func28 rfl trivial ?_ rfl
  simp only [Try.ntmps28, List.size_toArray, List.length_cons, List.length_nil, Nat.reduceAdd, Nat.reduceSub, Array.replicate_succ, Array.replicate_zero, List.push_toArray, List.append_toArray, List.nil_append, List.cons_append]
  gi_wp2
  have hF1 : Fr w.heap.size w ((w.alloc (.cells #[.pointer (some ⟨b', 0, none⟩)] 50)).alloc (.cells #[.bool false] 4)) := ((Fr.refl w).alloc _).alloc _
  have kb1 := keep_alloc (heap_alloc_new w (.cells #[.pointer (some ⟨b', 0, none⟩)] 50)) (.cells #[.bool false] 4)
  have kr1 : ((w.alloc (.cells #[.pointer (some ⟨b', 0, none⟩)] 50)).alloc (.cells #[.bool false] 4)).heap[w.heap.size + 1]? = some (.cells #[.bool false] 4) := by simpa using heap_alloc_new (w.alloc (.cells #[.pointer (some ⟨b', 0, none⟩)] 50)) (.cells #[.bool false] 4)
  have hW1s : ((w.alloc (.cells #[.pointer (some ⟨b', 0, none⟩)] 50)).alloc (.cells #[.bool false] 4)).heap.size = w.heap.size + 2 := by simp
  obtain ⟨W1, hW1⟩ : ∃ W1, (w.alloc (.cells #[.pointer (some ⟨b', 0, none⟩)] 50)).alloc (.cells #[.bool false] 4) = W1 := ⟨_, rfl⟩
  rw [hW1] at hF1 kb1 kr1 hW1s ⊢
  clear hW1
  by_cases hsz : Maps.size D = Maps.size D'
  · obtain ⟨s1, hs1⟩ : ∃ s, Maps.size D = s := ⟨_, rfl⟩
    have hs2 := hsz.symm.trans hs1
    rw [hs1] at lenD
    rw [hs2] at lenD'
    clear hs1 hs2
    have HSZ := Lib.hid hsz
    clear hsz
    refine wpIn_wide.2 ?_
    refine wp_cut (R := fun a' wz => a' = { tmps := List.toArray (.pointer (some ⟨b, 0, none⟩) :: .pointer (some ⟨b', 0, none⟩) :: undef :: .pointer (some ⟨w.heap.size, 0, none⟩) :: .pointer (some ⟨w.heap.size + 1, 0, none⟩) :: undef :: undef :: .pointer (some ⟨b, 0, none⟩) :: .bool false :: .bool false :: .pointer (some ⟨b', 0, none⟩) :: .bool false :: .bool false :: undef :: undef :: undef :: undef :: undef :: undef :: .pointer (some ⟨b, 0, none⟩) :: .pointer (some ⟨b, 0, none⟩) :: .pointer (some ⟨b, 0, none⟩) :: .int .i64 (L : Int) :: .pointer (some ⟨b', 0, none⟩) :: .pointer (some ⟨b', 0, none⟩) :: .pointer (some ⟨b', 0, none⟩) :: .int .i64 (L : Int) :: .bool false :: .bool false :: .pointer (some ⟨b, 0, none⟩) :: .pointer (some ⟨b, 0, none⟩) :: .pointer (some ⟨b, 1, none⟩) :: .map (some m) :: .int .i64 (s1 : Int) :: .pointer (some ⟨b', 0, none⟩) :: .pointer (some ⟨b', 0, none⟩) :: .pointer (some ⟨b', 1, none⟩) :: .map (some m') :: .int .i64 (s1 : Int) :: .bool false :: .bool false :: undef :: undef :: undef :: undef :: undef :: undef :: undef :: undef :: undef :: []), defers := [] } ∧ wz = W1.drew) ?_ ?_
    · refine wp_region_held_drew (S := (fun w' => Fr w.heap.size w w' ∧ w'.heap[w.heap.size]? = some (.cells #[.pointer (some ⟨b', 0, none⟩)] 50))) (by kernel_rfl) ?_ (fun hHeld => ?_)
      · exact ⟨hF1.drew, kb1⟩
      refine wpAnyH_take (i := 0) (oi := { dst := some 19, op := Op.move (Operand.tmp 0), type := 50, pos := "ram.go:159", after := _, guard := none }) (v := ?_) rfl (by kernel_rfl) (by kernel_rfl) (by kernel_rfl) (fun _ _ _ h => (by cases h.1)) (Or.inl ⟨by rfl, ?_⟩) (by assumption) ?_
      rotate_left
      · intro w' hSw
        try dsimp only at hSw
        go_simp
        try with_reducible rfl
      try simp only [Act.put, List.setIfInBounds_toArray, List.set_cons_zero, List.set_cons_succ]
      refine wpAnyH_take (i := 1) (oi := { dst := some 20, op := Op.nilCheck (Operand.tmp 19), type := 0, pos := "ram.go:159", after := _, guard := none }) (v := ?_) rfl (by kernel_rfl) (by kernel_rfl) (by kernel_rfl) (fun _ _ _ h => (by cases h.1)) (Or.inl ⟨by rfl, ?_⟩) (by assumption) ?_
      rotate_left
      · intro w' hSw
        try dsimp only at hSw
        go_simp
        try with_reducible rfl
      try simp only [Act.put, List.setIfInBounds_toArray, List.set_cons_zero, List.set_cons_succ]
      refine wpAnyH_take (i := 2) (oi := { dst := some 21, op := Op.fieldAddr 90 (Operand.tmp 20) 0, type := 0, pos := "ram.go:159", after := _, guard := none }) (v := ?_) rfl (by kernel_rfl) (by kernel_rfl) (by kernel_rfl) (fun _ _ _ h => (by cases h.1)) (Or.inl ⟨by rfl, ?_⟩) (by assumption) ?_
      rotate_left
      · intro w' hSw
        try dsimp only at hSw
        go_simp
        try with_reducible rfl
      try simp only [Act.put, List.setIfInBounds_toArray, List.set_cons_zero, List.set_cons_succ]
      refine wpAnyH_take (i := 3) (oi := { dst := some 22, op := Op.load 3 (Operand.tmp 21), type := 3, pos := "ram.go:159", after := _, guard := none }) (v := ?_) rfl (by kernel_rfl) (by kernel_rfl) (by kernel_rfl) (fun _ _ _ h => (by cases h.1)) (Or.inl ⟨by rfl, ?_⟩) (by assumption) ?_
      rotate_left
      · intro w' hSw
        try dsimp only at hSw
        have x0 := hcell hSw.1.1 c0
        go_simp
        try with_reducible rfl
      try simp only [Act.put, List.setIfInBounds_toArray, List.set_cons_zero, List.set_cons_succ]
      refine wpAnyH_take (i := 4) (oi := { dst := some 23, op := Op.load 50 (Operand.tmp 3), type := 50, pos := "ram.go:159", after := _, guard := none }) (v := ?_) rfl (by kernel_rfl) (by kernel_rfl) (by kernel_rfl) (fun _ _ _ h => (by cases h.1)) (Or.inl ⟨by rfl, ?_⟩) (by assumption) ?_
      rotate_left
      · intro w' hSw
        try dsimp only at hSw
        have xo : w'.cell? ⟨w.heap.size, 0, none⟩ = some (.pointer (some ⟨b', 0, none⟩)) := by rw [cell_at hSw.2]; rfl
        go_simp
        try with_reducible rfl
      try simp only [Act.put, List.setIfInBounds_toArray, List.set_cons_zero, List.set_cons_succ]
      refine wpAnyH_take (i := 5) (oi := { dst := some 24, op := Op.nilCheck (Operand.tmp 23), type := 0, pos := "ram.go:159", after := _, guard := none }) (v := ?_) rfl (by kernel_rfl) (by kernel_rfl) (by kernel_rfl) (fun _ _ _ h => (by cases h.1)) (Or.inl ⟨by rfl, ?_⟩) (by assumption) ?_
      rotate_left
      · intro w' hSw
        try dsimp only at hSw
        go_simp
        try with_reducible rfl
      try simp only [Act.put, List.setIfInBounds_toArray, List.set_cons_zero, List.set_cons_succ]
      refine wpAnyH_take (i := 6) (oi := { dst := some 25, op := Op.fieldAddr 90 (Operand.tmp 24) 0, type := 0, pos := "ram.go:159", after := _, guard := none }) (v := ?_) rfl (by kernel_rfl) (by kernel_rfl) (by kernel_rfl) (fun _ _ _ h => (by cases h.1)) (Or.inl ⟨by rfl, ?_⟩) (by assumption) ?_
      rotate_left
      · intro w' hSw
        try dsimp only at hSw
        go_simp
        try with_reducible rfl
      try simp only [Act.put, List.setIfInBounds_toArray, List.set_cons_zero, List.set_cons_succ]
      refine wpAnyH_take (i := 7) (oi := { dst := some 26, op := Op.load 3 (Operand.tmp 25), type := 3, pos := "ram.go:159", after := _, guard := none }) (v := ?_) rfl (by kernel_rfl) (by kernel_rfl) (by kernel_rfl) (fun _ _ _ h => (by cases h.1)) (Or.inl ⟨by rfl, ?_⟩) (by assumption) ?_
      rotate_left
      · intro w' hSw
        try dsimp only at hSw
        have x0 := hcell hSw.1.1 c0'
        go_simp
        try with_reducible rfl
      try simp only [Act.put, List.setIfInBounds_toArray, List.set_cons_zero, List.set_cons_succ]
      refine wpAnyH_take (i := 8) (oi := { dst := some 27, op := Op.binOp BinOp.neq 3 (Operand.tmp 22) (Operand.tmp 26) 3, type := 4, pos := "ram.go:159", after := _, guard := none }) (v := ?_) rfl (by kernel_rfl) (by kernel_rfl) (by kernel_rfl) (fun _ _ _ h => (by cases h.1)) (Or.inl ⟨by rfl, ?_⟩) (by assumption) ?_
      rotate_left
      · intro w' hSw
        try dsimp only at hSw
        go_simp
        try with_reducible rfl
      try simp only [Act.put, List.setIfInBounds_toArray, List.set_cons_zero, List.set_cons_succ]
      refine wpAnyH_take (i := 9) (oi := { dst := some 28, op := Op.move (Operand.tmp 27), type := 4, pos := "ram.go:159", after := _, guard := none }) (v := ?_) rfl (by kernel_rfl) (by kernel_rfl) (by kernel_rfl) (fun _ _ _ h => (by cases h.1)) (Or.inl ⟨by rfl, ?_⟩) (by assumption) ?_
      rotate_left
      · intro w' hSw
        try dsimp only at hSw
        go_simp
        try with_reducible rfl
      try simp only [Act.put, List.setIfInBounds_toArray, List.set_cons_zero, List.set_cons_succ]
      refine wpAnyH_take (i := 10) (oi := { dst := some 29, op := Op.move (Operand.tmp 0), type := 50, pos := "ram.go:159", after := _, guard := some (9, false) }) (v := ?_) rfl (by kernel_rfl) (by kernel_rfl) (by kernel_rfl) (fun _ _ _ h => (by cases h.1)) (Or.inl ⟨by rfl, ?_⟩) (by assumption) ?_
      rotate_left
      · intro w' hSw
        try dsimp only at hSw
        go_simp
        try with_reducible rfl
      try simp only [Act.put, List.setIfInBounds_toArray, List.set_cons_zero, List.set_cons_succ]
      refine wpAnyH_take (i := 11) (oi := { dst := some 30, op := Op.nilCheck (Operand.tmp 29), type := 0, pos := "ram.go:159", after := _, guard := some (9, false) }) (v := ?_) rfl (by kernel_rfl) (by kernel_rfl) (by kernel_rfl) (fun _ _ _ h => (by cases h.1)) (Or.inl ⟨by rfl, ?_⟩) (by assumption) ?_
      rotate_left
      · intro w' hSw
        try dsimp only at hSw
        go_simp
        try with_reducible rfl
      try simp only [Act.put, List.setIfInBounds_toArray, List.set_cons_zero, List.set_cons_succ]
      refine wpAnyH_take (i := 12) (oi := { dst := some 31, op := Op.fieldAddr 90 (Operand.tmp 30) 1, type := 0, pos := "ram.go:159", after := _, guard := some (9, false) }) (v := ?_) rfl (by kernel_rfl) (by kernel_rfl) (by kernel_rfl) (fun _ _ _ h => (by cases h.1)) (Or.inl ⟨by rfl, ?_⟩) (by assumption) ?_
      rotate_left
      · intro w' hSw
        try dsimp only at hSw
        go_simp
        try with_reducible rfl
      try simp only [Act.put, List.setIfInBounds_toArray, List.set_cons_zero, List.set_cons_succ]
      refine wpAnyH_take (i := 13) (oi := { dst := some 32, op := Op.load 88 (Operand.tmp 31), type := 88, pos := "ram.go:159", after := _, guard := some (9, false) }) (v := ?_) rfl (by kernel_rfl) (by kernel_rfl) (by kernel_rfl) (fun _ _ _ h => (by cases h.1)) (Or.inl ⟨by rfl, ?_⟩) (by assumption) ?_
      rotate_left
      · intro w' hSw
        try dsimp only at hSw
        have x1 := hcell hSw.1.1 c1
        go_simp
        try with_reducible rfl
      try simp only [Act.put, List.setIfInBounds_toArray, List.set_cons_zero, List.set_cons_succ]
      refine wpAnyH_take (i := 14) (oi := { dst := some 33, op := Op.call { callee := Callee.builtin Builtin.len, args := #[Operand.tmp 32], argTypes := #[88] }, type := 3, pos := "ram.go:159", after := _, guard := some (9, false) }) (v := ?_) rfl (by kernel_rfl) (by kernel_rfl) (by kernel_rfl) (fun _ _ _ h => (by cases h.1)) (Or.inl ⟨by rfl, ?_⟩) (by assumption) ?_
      rotate_left
      · intro w' hSw
        try dsimp only at hSw
        have xl := lenD w' hSw.1
        go_simp
        try with_reducible rfl
      try simp only [Act.put, List.setIfInBounds_toArray, List.set_cons_zero, List.set_cons_succ]
      refine wpAnyH_take (i := 15) (oi := { dst := some 34, op := Op.load 50 (Operand.tmp 3), type := 50, pos := "ram.go:159", after := _, guard := some (9, false) }) (v := ?_) rfl (by kernel_rfl) (by kernel_rfl) (by kernel_rfl) (fun _ _ _ h => (by cases h.1)) (Or.inl ⟨by rfl, ?_⟩) (by assumption) ?_
      rotate_left
      · intro w' hSw
        try dsimp only at hSw
        have xo : w'.cell? ⟨w.heap.size, 0, none⟩ = some (.pointer (some ⟨b', 0, none⟩)) := by rw [cell_at hSw.2]; rfl
        go_simp
        try with_reducible rfl
      try simp only [Act.put, List.setIfInBounds_toArray, List.set_cons_zero, List.set_cons_succ]
      refine wpAnyH_take (i := 16) (oi := { dst := some 35, op := Op.nilCheck (Operand.tmp 34), type := 0, pos := "ram.go:159", after := _, guard := some (9, false) }) (v := ?_) rfl (by kernel_rfl) (by kernel_rfl) (by kernel_rfl) (fun _ _ _ h => (by cases h.1)) (Or.inl ⟨by rfl, ?_⟩) (by assumption) ?_
      rotate_left
      · intro w' hSw
        try dsimp only at hSw
        go_simp
        try with_reducible rfl
      try simp only [Act.put, List.setIfInBounds_toArray, List.set_cons_zero, List.set_cons_succ]
      refine wpAnyH_take (i := 17) (oi := { dst := some 36, op := Op.fieldAddr 90 (Operand.tmp 35) 1, type := 0, pos := "ram.go:159", after := _, guard := some (9, false) }) (v := ?_) rfl (by kernel_rfl) (by kernel_rfl) (by kernel_rfl) (fun _ _ _ h => (by cases h.1)) (Or.inl ⟨by rfl, ?_⟩) (by assumption) ?_
      rotate_left
      · intro w' hSw
        try dsimp only at hSw
        go_simp
        try with_reducible rfl
      try simp only [Act.put, List.setIfInBounds_toArray, List.set_cons_zero, List.set_cons_succ]
      refine wpAnyH_take (i := 18) (oi := { dst := some 37, op := Op.load 88 (Operand.tmp 36), type := 88, pos := "ram.go:159", after := _, guard := some (9, false) }) (v := ?_) rfl (by kernel_rfl) (by kernel_rfl) (by kernel_rfl) (fun _ _ _ h => (by cases h.1)) (Or.inl ⟨by rfl, ?_⟩) (by assumption) ?_
      rotate_left
      · intro w' hSw
        try dsimp only at hSw
        have x1 := hcell hSw.1.1 c1'
        go_simp
        try with_reducible rfl
      try simp only [Act.put, List.setIfInBounds_toArray, List.set_cons_zero, List.set_cons_succ]
      refine wpAnyH_take (i := 19) (oi := { dst := some 38, op := Op.call { callee := Callee.builtin Builtin.len, args := #[Operand.tmp 37], argTypes := #[88] }, type := 3, pos := "ram.go:159", after := _, guard := some (9, false) }) (v := ?_) rfl (by kernel_rfl) (by kernel_rfl) (by kernel_rfl) (fun _ _ _ h => (by cases h.1)) (Or.inl ⟨by rfl, ?_⟩) (by assumption) ?_
      rotate_left
      · intro w' hSw
        try dsimp only at hSw
        have xl := lenD' w' hSw.1
        go_simp
        try with_reducible rfl
      try simp only [Act.put, List.setIfInBounds_toArray, List.set_cons_zero, List.set_cons_succ]
      refine wpAnyH_take (i := 20) (oi := { dst := some 39, op := Op.binOp BinOp.neq 3 (Operand.tmp 33) (Operand.tmp 38) 3, type := 4, pos := "ram.go:159", after := _, guard := some (9, false) }) (v := ?_) rfl (by kernel_rfl) (by kernel_rfl) (by kernel_rfl) (fun _ _ _ h => (by cases h.1)) (Or.inl ⟨by rfl, ?_⟩) (by assumption) ?_
      rotate_left
      · intro w' hSw
        try dsimp only at hSw
        go_simp
        try with_reducible rfl
      try simp only [Act.put, List.setIfInBounds_toArray, List.set_cons_zero, List.set_cons_succ]
      refine wpAnyH_take (i := 21) (oi := { dst := some 40, op := Op.pick (Operand.tmp 28) (Operand.const (Value.bool true)) (Operand.tmp 39), type := 4, pos := "ram.go:159", after := _, guard := none }) (v := ?_) rfl (by kernel_rfl) (by kernel_rfl) (by kernel_rfl) (fun _ _ _ h => (by cases h.1)) (Or.inl ⟨by rfl, ?_⟩) (by assumption) ?_
      rotate_left
      · intro w' hSw
        try dsimp only at hSw
        go_simp
        try with_reducible rfl
      try simp only [Act.put, List.setIfInBounds_toArray, List.set_cons_zero, List.set_cons_succ]
      refine wpAnyH_done (by kernel_rfl) ?_ _
      exact ⟨rfl, by first | rfl | simp [hne], rfl⟩
    rintro a1 W2 ⟨rfl, hW2⟩
    have kbB : W2.heap[w.heap.size]? = some (.cells #[.pointer (some ⟨b', 0, none⟩)] 50) := by rw [hW2]; exact kb1
    have krB : W2.heap[w.heap.size + 1]? = some (.cells #[.bool false] 4) := by rw [hW2]; exact kr1
    have hF2 : Fr w.heap.size w W2 := by rw [hW2]; exact hF1.drew
    have hds : W2.heap.size = w.heap.size + 2 := by rw [hW2]; exact hW1s
    have HDS := Lib.hid hds
    clear hW2 hF1 kb1 kr1 hW1s hds
    have lB : Below w.heap.size w W2 := hF2.1
    have hRd := hR.keep lB
    have hRd' := hR'.keep lB
    gi_wp2_with (refine ⟨trivial, ?_⟩; gi_at_call 41; refine (callsIn_wide.2 (some_any _ _)).mono ?_; rintro e w1 ⟨rfl, rfl⟩)
    have kB := heap_alloc_new W2 (.cells #[.pointer (some ⟨b, 0, none⟩)] 50)
    have hA : Below W2.heap.size W2 (W2.alloc (.cells #[.pointer (some ⟨b, 0, none⟩)] 50)) := (Below.refl _ _).alloc (Nat.le_refl _) _
    have hAs : (W2.alloc (.cells #[.pointer (some ⟨b, 0, none⟩)] 50)).heap.size = W2.heap.size + 1 := by simp
    have hml := hR.2.lt
    have hml' := hR'.2.lt
    refine wpIn_rangeFunc_ownH rfl (by decide) (gf := 57) (lb := #[.pointer (some ⟨W2.heap.size, 0, none⟩)]) rfl trivial (enters_of Try.func57 (by kernel_rfl) rfl)
      (some_stops 4 W2.heap.size w.heap.size b m k L g _ (by decide) hL cl hml (by have := HDS.out; omega) kB (hRd.keep hA)) KpB.trans (kpB_b (by have := HDS.out; omega) (by have := HDS.out; omega)) (Below.refl _ _) (fun _ => rfl)
      (SI w W2.heap.size b b' L g g') (SX w g g') (SI_own (by have := HDS.out; omega) (by have := HDS.out; omega)) (fun c => SX_own (by have := HDS.out; omega) c)
      ⟨⟨kB, keepB hA kbB, keepB hA krB, fun x hx => (by cases hx)⟩, lB.trans (hA.mono (by have := HDS.out; omega))⟩
      (fun x a' W => ∃ Bx, W2.heap.size < Bx ∧ W.heap[Bx]? = some (.cells (cellsL (g x.1)) 26) ∧ a' = { tmps := List.toArray (.pointer (some ⟨b, 0, none⟩) :: .pointer (some ⟨b', 0, none⟩) :: undef :: .pointer (some ⟨w.heap.size, 0, none⟩) :: .pointer (some ⟨w.heap.size + 1, 0, none⟩) :: .int .i64 (x.1 : Int) :: .pointer (some ⟨Bx, 0, none⟩) :: .pointer (some ⟨b, 0, none⟩) :: .bool false :: .bool false :: .pointer (some ⟨b', 0, none⟩) :: .bool false :: .bool false :: undef :: undef :: undef :: undef :: undef :: undef :: .pointer (some ⟨b, 0, none⟩) :: .pointer (some ⟨b, 0, none⟩) :: .pointer (some ⟨b, 0, none⟩) :: .int .i64 (L : Int) :: .pointer (some ⟨b', 0, none⟩) :: .pointer (some ⟨b', 0, none⟩) :: .pointer (some ⟨b', 0, none⟩) :: .int .i64 (L : Int) :: .bool false :: .bool false :: .pointer (some ⟨b, 0, none⟩) :: .pointer (some ⟨b, 0, none⟩) :: .pointer (some ⟨b, 1, none⟩) :: .map (some m) :: .int .i64 (s1 : Int) :: .pointer (some ⟨b', 0, none⟩) :: .pointer (some ⟨b', 0, none⟩) :: .pointer (some ⟨b', 1, none⟩) :: .map (some m') :: .int .i64 (s1 : Int) :: .bool false :: .bool false :: .pointer (some ⟨b, 0, none⟩) :: .func (.func 57) #[] #[.pointer (some ⟨W2.heap.size, 0, none⟩)] :: .int .i64 (x.1 : Int) :: .agg (cellsL (g x.1)) :: undef :: undef :: undef :: undef :: undef :: []), defers := [] })
      (fun x a' s W W' row hs hg hr => by
        obtain ⟨Bx, h1, h2, h3⟩ := hs
        refine ⟨Bx, h1, (hg.block Bx (lt_of_at h2) (fun e => ?_)).trans h2, h3⟩
        obtain ⟨_, o, ho, hc⟩ := hr _ e.symm
        rw [h2] at ho
        cases ho
        cases hc) ?assign ?body ?done ?stop
    case assign =>
      rintro l pre x W K hi hK
      have hst := st_rowL Try.prog (heap_alloc_new W (.cells (cellsL fun _ => 0) 26)) (g x.1)
      dsimp only [encsL]
      have hKK := Lib.hid hK
      clear hK lenD lenD' hRd hRd' hF2 kB hA lB kbB krB hD0 hD0' c0 c1 c0' c1'
      gi_wp2
      have hb : Below W.heap.size W ((W.alloc (.cells (cellsL fun _ => 0) 26)).setRow W.heap.size (cellsL (g x.1))) := (((Fr.refl W).alloc _).row (Nat.le_refl _) _).1
      exact hKK.out _ _ (keepsFrom_below hb) (KpB.of_below hb hi.2.size (lt_of_at hi.1.1)) (hi.keep hb) ⟨W.heap.size, lt_of_at hi.1.1, row_at (heap_alloc_new W _) _, rfl⟩
    case body =>
      rintro l pre x a' W hl hrec hI ⟨Bx, hBx, kx, rfl⟩ hlt
      have hRW : RamAt W b' m' k' L g' := ⟨heapAt hI.2 hR'.1 cl', hR'.2.same (hI.2.block m' hml')⟩
      have co : W.cell? ⟨w.heap.size, 0, none⟩ = some (.pointer (some ⟨b', 0, none⟩)) := by rw [cell_at hI.1.2.1]; rfl
      obtain ⟨r, heq, hr⟩ : ∃ r : Bool, (∀ w', (Op.equalIn 10000 26 (.agg (cellsL (g' x.1))) (.agg (cellsL (g x.1)))).run Try.prog w' = .ok r w') ∧ (r = true ↔ ∀ j, j < 64 → g x.1 j = g' x.1 j) := by
        obtain ⟨r, h1, h2⟩ := eqLL (g' x.1) (g x.1) (okg' _) (okg _) w
        refine ⟨r, fun w' => ?_, ⟨fun h j hj => (h2.1 h j hj).symm, fun h => h2.2 fun j hj => (h j hj).symm⟩⟩
        obtain ⟨r', h3, h4⟩ := eqLL (g' x.1) (g x.1) (okg' _) (okg _) w'
        have : r' = r := Bool.eq_iff_iff.2 (h4.trans h2.symm)
        rw [← this]; exact h3
      have hrs : w.heap.size + 1 < W2.heap.size := by have := HDS.out; omega
      clear lenD lenD' hRd hRd' hF2 kB hA lB kbB krB hD0 hD0' c0 c1 c0' c1' hq
      gi_wp2
      refine wpIn_region_round (S := (fun w' => Fr W.heap.size W w')) (by kernel_rfl) (by kernel_rfl) (fun ⟨_, _, h⟩ => h) ?_ (fun hHeld => ?_)
      · exact (Fr.refl W).drew
      refine wpAnyH_take (i := 0) (oi := { dst := some 45, op := Op.load 50 (Operand.tmp 3), type := 50, pos := "ram.go:163", after := _, guard := none }) (v := ?_) rfl (by kernel_rfl) (by kernel_rfl) (by kernel_rfl) (fun _ _ _ h => h) (Or.inl ⟨by rfl, ?_⟩) (by assumption) ?_
      rotate_left
      · intro w' hSw
        try dsimp only at hSw
        have xo := hcell hSw.1 co
        go_simp
        try with_reducible rfl
      try simp only [Act.put, List.setIfInBounds_toArray, List.set_cons_zero, List.set_cons_succ]
      refine wpAnyH_take (i := 1) (oi := { dst := some 46, op := Op.move (Operand.tmp 5), type := 3, pos := "ram.go:163", after := _, guard := none }) (v := ?_) rfl (by kernel_rfl) (by kernel_rfl) (by kernel_rfl) (fun _ _ _ h => h) (Or.inl ⟨by rfl, ?_⟩) (by assumption) ?_
      rotate_left
      · intro w' hSw
        try dsimp only at hSw
        go_simp
        try with_reducible rfl
      try simp only [Act.put, List.setIfInBounds_toArray, List.set_cons_zero, List.set_cons_succ]
      refine wpAnyH_take (i := 3) (oi := { dst := some 48, op := Op.load 26 (Operand.tmp 6), type := 26, pos := "ram.go:163", after := _, guard := none }) (v := .agg (cellsL (g x.1))) rfl (by kernel_rfl) (by kernel_rfl) (by kernel_rfl) (fun _ _ _ h => h) (yields_row (g := g x.1) (by rfl) _ _ rfl _ rfl (fun w' hSw => by (try dsimp only at hSw); exact keepB hSw.1 kx) Try.underlying26 rfl infoLL) (by assumption) ?_
      try simp only [Act.put, List.setIfInBounds_toArray, List.set_cons_zero, List.set_cons_succ]
      refine wpAnyH_ready (rs := [2]) (by kernel_rfl) (by simp) ?_
      refine AllReadyH.cons (o := { dst := some 47, op := Op.call { callee := Callee.value (Operand.func 38), args := #[Operand.tmp 45, Operand.tmp 46], argTypes := #[50, 3] }, type := 26, pos := "ram.go:163", after := _, guard := none }) rfl (fun K hK => ?_) AllReadyH.nil
      go_simp
      go_at_call 38
      refine (ramline_v (g := g') rfl _ x.2.1 hL (hRW.keep hHeld.1)).mono ?_
      rintro e w5 ⟨rfl, hb5⟩
      try go_wp2_with fail
      refine hK.out _ _ ?_ (fun hHeld2 => ?_)
      · (try dsimp only)
        exact hHeld.step hb5
      clear hK K hHeld
      have hHeld := hHeld2
      clear hHeld2
      try simp only [Act.put, List.setIfInBounds_toArray, List.set_cons_zero, List.set_cons_succ]
      refine wpAnyH_take (i := 4) (oi := { dst := some 49, op := Op.binOp BinOp.neq 26 (Operand.tmp 47) (Operand.tmp 48) 26, type := 4, pos := "ram.go:163", after := _, guard := none }) (v := ?_) rfl (by kernel_rfl) (by kernel_rfl) (by kernel_rfl) (fun _ _ _ h => h) (Or.inl ⟨by rfl, ?_⟩) (by assumption) ?_
      rotate_left
      · intro w' hSw
        try dsimp only at hSw
        have xe := heq w'
        go_simp
        try with_reducible rfl
      try simp only [Act.put, List.setIfInBounds_toArray, List.set_cons_zero, List.set_cons_succ]
      refine wpAnyH_done (by kernel_rfl) ?_ _
      have hW5 := hHeld.1
      have hI5 := hI.keep hW5
      clear hHeld hb5 hrec co kx hRW
      cases r with
      | true =>
        have hex := cellsL_ext (hr.1 rfl)
        clear hr
        gi_wp2
        exact ⟨keepsFrom_below hW5, KpB.of_below hW5 hI.2.size (lt_of_at hI.1.1), hI5.snoc hex⟩
      | false =>
        have hex : cellsL (g x.1) ≠ cellsL (g' x.1) := fun e => by
          have := hr.2 (fun j hj => cells_inj e j hj)
          cases this
        clear hr
        have kr := hI5.1.2.2.1
        have crr : w5.cell? ⟨w.heap.size + 1, 0, none⟩ = some (.bool false) := by rw [cell_at kr]; rfl
        have frr := frozen_at kr
        gi_wp2
        exact ⟨(keepsFrom_below hW5).trans ((KeepsOthers.setCell _ _ _).from _), rfl, set_one kr _, hI5.2.setCell (p := ⟨w.heap.size + 1, 0, none⟩) (by simp <;> omega) _, x, hex⟩
    case done =>
      rintro D2 ys W hD2 rfl hI hK
      clear lenD lenD' hRd hRd' hF2 kB hA lB kbB krB c0 c1 c0' c1'
      have hqt : q = true := hq.2 (same_of_size cD cD' hDk hDk' HSZ.out (fun i hi nz => by
        by_cases hiL : i < L
        · exact hI.1.2.2.2 ⟨i, hiL, nz⟩ (mem_someTo.2 hiL)
        · exact absurd (congrArg Value.agg (hS i (by have := HDS.out; omega) hi)) nz))
      subst hqt
      clear hq
      have kr := hI.1.2.2.1
      have crr : W.cell? ⟨w.heap.size + 1, 0, none⟩ = some (.bool false) := by rw [cell_at kr]; rfl
      have frr := frozen_at kr
      gi_wp2
      have hK' := (KeepsOthers.setCell W ⟨w.heap.size + 1, 0, none⟩ (.bool true)).same D2 _ hK rfl
      refine ⟨by simp, .inl ⟨_, _, rfl, run_takeDeferred hK', ?_⟩⟩
      have hc5 := cell_kept (World.cell?_setCell_same' W ⟨w.heap.size + 1, 0, none⟩ (.bool true) (by rw [crr]; rfl)) (grownBy_putObj' _ D2 (.deferred none)) (fun r e => by cases e; exact ⟨_, hK', rfl⟩)
      refine ⟨.bool true, ?_, rfl, (hI.2.setCell (p := ⟨w.heap.size + 1, 0, none⟩) (by simp) _).trans (belowK_b (w := w) (Nat.le_refl _) _ D2 _ _ (by have := HDS.out; omega) hK' rfl rfl)⟩
      simp [results, Try.f28, go_sem, hc5]
    case stop =>
      rintro D2 c pre W hD2 hpre ⟨rfl, hcr, hB, x, hx⟩ hK
      have hqf : q = false := by
        cases q with
        | false => rfl
        | true => exact absurd (hq.1 rfl x.1 (line_lt x.2.1 hL)) hx
      clear hq
      subst hqf
      clear lenD lenD' hRd hRd' hF2 kB hA lB kbB krB c0 c1 c0' c1'
      have crr : W.cell? ⟨w.heap.size + 1, 0, none⟩ = some (.bool false) := by rw [cell_at hcr]; rfl
      gi_wp2
      refine ⟨by simp, .inl ⟨_, _, rfl, run_takeDeferred hK, ?_⟩⟩
      have hc5 := cell_kept crr (grownBy_putObj' _ D2 (.deferred none)) (fun r e => by cases e; exact ⟨_, hK, rfl⟩)
      refine ⟨.bool false, ?_, rfl, hB.trans (belowK_b (w := w) (Nat.le_refl _) W D2 _ _ (by have := HDS.out; omega) hK rfl rfl)⟩
      simp [results, Try.f28, go_sem, hc5]
  · obtain ⟨s1, hs1⟩ : ∃ s, Maps.size D = s := ⟨_, rfl⟩
    obtain ⟨s2, hs2⟩ : ∃ s, Maps.size D' = s := ⟨_, rfl⟩
    rw [hs1] at lenD hsz
    rw [hs2] at lenD' hsz
    have hne : ¬ ((s1 : Int) = (s2 : Int)) := by omega
    have hqf : q = false := by
      cases q with
      | false => rfl
      | true => exact absurd (hs1.symm.trans ((size_of_same cD cD' hDk hDk' (hq.1 rfl)).trans hs2)) hsz
    clear hq
    subst hqf
    clear hs1 hs2 hsz
    refine wpIn_wide.2 ?_
    refine wp_cut (R := fun a' wz => a' = { tmps := List.toArray (.pointer (some ⟨b, 0, none⟩) :: .pointer (some ⟨b', 0, none⟩) :: undef :: .pointer (some ⟨w.heap.size, 0, none⟩) :: .pointer (some ⟨w.heap.size + 1, 0, none⟩) :: undef :: undef :: .pointer (some ⟨b, 0, none⟩) :: .bool false :: .bool false :: .pointer (some ⟨b', 0, none⟩) :: .bool false :: .bool false :: undef :: undef :: undef :: undef :: undef :: undef :: .pointer (some ⟨b, 0, none⟩) :: .pointer (some ⟨b, 0, none⟩) :: .pointer (some ⟨b, 0, none⟩) :: .int .i64 (L : Int) :: .pointer (some ⟨b', 0, none⟩) :: .pointer (some ⟨b', 0, none⟩) :: .pointer (some ⟨b', 0, none⟩) :: .int .i64 (L : Int) :: .bool false :: .bool false :: .pointer (some ⟨b, 0, none⟩) :: .pointer (some ⟨b, 0, none⟩) :: .pointer (some ⟨b, 1, none⟩) :: .map (some m) :: .int .i64 (s1 : Int) :: .pointer (some ⟨b', 0, none⟩) :: .pointer (some ⟨b', 0, none⟩) :: .pointer (some ⟨b', 1, none⟩) :: .map (some m') :: .int .i64 (s2 : Int) :: .bool true :: .bool true :: undef :: undef :: undef :: undef :: undef :: undef :: undef :: undef :: undef :: []), defers := [] } ∧ wz = W1.drew) ?_ ?_
    · refine wp_region_held_drew (S := (fun w' => Fr w.heap.size w w' ∧ w'.heap[w.heap.size]? = some (.cells #[.pointer (some ⟨b', 0, none⟩)] 50))) (by kernel_rfl) ?_ (fun hHeld => ?_)
      · exact ⟨hF1.drew, kb1⟩
      refine wpAnyH_take (i := 0) (oi := { dst := some 19, op := Op.move (Operand.tmp 0), type := 50, pos := "ram.go:159", after := _, guard := none }) (v := ?_) rfl (by kernel_rfl) (by kernel_rfl) (by kernel_rfl) (fun _ _ _ h => (by cases h.1)) (Or.inl ⟨by rfl, ?_⟩) (by assumption) ?_
      rotate_left
      · intro w' hSw
        try dsimp only at hSw
        go_simp
        try with_reducible rfl
      try simp only [Act.put, List.setIfInBounds_toArray, List.set_cons_zero, List.set_cons_succ]
      refine wpAnyH_take (i := 1) (oi := { dst := some 20, op := Op.nilCheck (Operand.tmp 19), type := 0, pos := "ram.go:159", after := _, guard := none }) (v := ?_) rfl (by kernel_rfl) (by kernel_rfl) (by kernel_rfl) (fun _ _ _ h => (by cases h.1)) (Or.inl ⟨by rfl, ?_⟩) (by assumption) ?_
      rotate_left
      · intro w' hSw
        try dsimp only at hSw
        go_simp
        try with_reducible rfl
      try simp only [Act.put, List.setIfInBounds_toArray, List.set_cons_zero, List.set_cons_succ]
      refine wpAnyH_take (i := 2) (oi := { dst := some 21, op := Op.fieldAddr 90 (Operand.tmp 20) 0, type := 0, pos := "ram.go:159", after := _, guard := none }) (v := ?_) rfl (by kernel_rfl) (by kernel_rfl) (by kernel_rfl) (fun _ _ _ h => (by cases h.1)) (Or.inl ⟨by rfl, ?_⟩) (by assumption) ?_
      rotate_left
      · intro w' hSw
        try dsimp only at hSw
        go_simp
        try with_reducible rfl
      try simp only [Act.put, List.setIfInBounds_toArray, List.set_cons_zero, List.set_cons_succ]
      refine wpAnyH_take (i := 3) (oi := { dst := some 22, op := Op.load 3 (Operand.tmp 21), type := 3, pos := "ram.go:159", after := _, guard := none }) (v := ?_) rfl (by kernel_rfl) (by kernel_rfl) (by kernel_rfl) (fun _ _ _ h => (by cases h.1)) (Or.inl ⟨by rfl, ?_⟩) (by assumption) ?_
      rotate_left
      · intro w' hSw
        try dsimp only at hSw
        have x0 := hcell hSw.1.1 c0
        go_simp
        try with_reducible rfl
      try simp only [Act.put, List.setIfInBounds_toArray, List.set_cons_zero, List.set_cons_succ]
      refine wpAnyH_take (i := 4) (oi := { dst := some 23, op := Op.load 50 (Operand.tmp 3), type := 50, pos := "ram.go:159", after := _, guard := none }) (v := ?_) rfl (by kernel_rfl) (by kernel_rfl) (by kernel_rfl) (fun _ _ _ h => (by cases h.1)) (Or.inl ⟨by rfl, ?_⟩) (by assumption) ?_
      rotate_left
      · intro w' hSw
        try dsimp only at hSw
        have xo : w'.cell? ⟨w.heap.size, 0, none⟩ = some (.pointer (some ⟨b', 0, none⟩)) := by rw [cell_at hSw.2]; rfl
        go_simp
        try with_reducible rfl
      try simp only [Act.put, List.setIfInBounds_toArray, List.set_cons_zero, List.set_cons_succ]
      refine wpAnyH_take (i := 5) (oi := { dst := some 24, op := Op.nilCheck (Operand.tmp 23), type := 0, pos := "ram.go:159", after := _, guard := none }) (v := ?_) rfl (by kernel_rfl) (by kernel_rfl) (by kernel_rfl) (fun _ _ _ h => (by cases h.1)) (Or.inl ⟨by rfl, ?_⟩) (by assumption) ?_
      rotate_left
      · intro w' hSw
        try dsimp only at hSw
        go_simp
        try with_reducible rfl
      try simp only [Act.put, List.setIfInBounds_toArray, List.set_cons_zero, List.set_cons_succ]
      refine wpAnyH_take (i := 6) (oi := { dst := some 25, op := Op.fieldAddr 90 (Operand.tmp 24) 0, type := 0, pos := "ram.go:159", after := _, guard := none }) (v := ?_) rfl (by kernel_rfl) (by kernel_rfl) (by kernel_rfl) (fun _ _ _ h => (by cases h.1)) (Or.inl ⟨by rfl, ?_⟩) (by assumption) ?_
      rotate_left
      · intro w' hSw
        try dsimp only at hSw
        go_simp
        try with_reducible rfl
      try simp only [Act.put, List.setIfInBounds_toArray, List.set_cons_zero, List.set_cons_succ]
      refine wpAnyH_take (i := 7) (oi := { dst := some 26, op := Op.load 3 (Operand.tmp 25), type := 3, pos := "ram.go:159", after := _, guard := none }) (v := ?_) rfl (by kernel_rfl) (by kernel_rfl) (by kernel_rfl) (fun _ _ _ h => (by cases h.1)) (Or.inl ⟨by rfl, ?_⟩) (by assumption) ?_
      rotate_left
      · intro w' hSw
        try dsimp only at hSw
        have x0 := hcell hSw.1.1 c0'
        go_simp
        try with_reducible rfl
      try simp only [Act.put, List.setIfInBounds_toArray, List.set_cons_zero, List.set_cons_succ]
      refine wpAnyH_take (i := 8) (oi := { dst := some 27, op := Op.binOp BinOp.neq 3 (Operand.tmp 22) (Operand.tmp 26) 3, type := 4, pos := "ram.go:159", after := _, guard := none }) (v := ?_) rfl (by kernel_rfl) (by kernel_rfl) (by kernel_rfl) (fun _ _ _ h => (by cases h.1)) (Or.inl ⟨by rfl, ?_⟩) (by assumption) ?_
      rotate_left
      · intro w' hSw
        try dsimp only at hSw
        go_simp
        try with_reducible rfl
      try simp only [Act.put, List.setIfInBounds_toArray, List.set_cons_zero, List.set_cons_succ]
      refine wpAnyH_take (i := 9) (oi := { dst := some 28, op := Op.move (Operand.tmp 27), type := 4, pos := "ram.go:159", after := _, guard := none }) (v := ?_) rfl (by kernel_rfl) (by kernel_rfl) (by kernel_rfl) (fun _ _ _ h => (by cases h.1)) (Or.inl ⟨by rfl, ?_⟩) (by assumption) ?_
      rotate_left
      · intro w' hSw
        try dsimp only at hSw
        go_simp
        try with_reducible rfl
      try simp only [Act.put, List.setIfInBounds_toArray, List.set_cons_zero, List.set_cons_succ]
      refine wpAnyH_take (i := 10) (oi := { dst := some 29, op := Op.move (Operand.tmp 0), type := 50, pos := "ram.go:159", after := _, guard := some (9, false) }) (v := ?_) rfl (by kernel_rfl) (by kernel_rfl) (by kernel_rfl) (fun _ _ _ h => (by cases h.1)) (Or.inl ⟨by rfl, ?_⟩) (by assumption) ?_
      rotate_left
      · intro w' hSw
        try dsimp only at hSw
        go_simp
        try with_reducible rfl
      try simp only [Act.put, List.setIfInBounds_toArray, List.set_cons_zero, List.set_cons_succ]
      refine wpAnyH_take (i := 11) (oi := { dst := some 30, op := Op.nilCheck (Operand.tmp 29), type := 0, pos := "ram.go:159", after := _, guard := some (9, false) }) (v := ?_) rfl (by kernel_rfl) (by kernel_rfl) (by kernel_rfl) (fun _ _ _ h => (by cases h.1)) (Or.inl ⟨by rfl, ?_⟩) (by assumption) ?_
      rotate_left
      · intro w' hSw
        try dsimp only at hSw
        go_simp
        try with_reducible rfl
      try simp only [Act.put, List.setIfInBounds_toArray, List.set_cons_zero, List.set_cons_succ]
      refine wpAnyH_take (i := 12) (oi := { dst := some 31, op := Op.fieldAddr 90 (Operand.tmp 30) 1, type := 0, pos := "ram.go:159", after := _, guard := some (9, false) }) (v := ?_) rfl (by kernel_rfl) (by kernel_rfl) (by kernel_rfl) (fun _ _ _ h => (by cases h.1)) (Or.inl ⟨by rfl, ?_⟩) (by assumption) ?_
      rotate_left
      · intro w' hSw
        try dsimp only at hSw
        go_simp
        try with_reducible rfl
      try simp only [Act.put, List.setIfInBounds_toArray, List.set_cons_zero, List.set_cons_succ]
      refine wpAnyH_take (i := 13) (oi := { dst := some 32, op := Op.load 88 (Operand.tmp 31), type := 88, pos := "ram.go:159", after := _, guard := some (9, false) }) (v := ?_) rfl (by kernel_rfl) (by kernel_rfl) (by kernel_rfl) (fun _ _ _ h => (by cases h.1)) (Or.inl ⟨by rfl, ?_⟩) (by assumption) ?_
      rotate_left
      · intro w' hSw
        try dsimp only at hSw
        have x1 := hcell hSw.1.1 c1
        go_simp
        try with_reducible rfl
      try simp only [Act.put, List.setIfInBounds_toArray, List.set_cons_zero, List.set_cons_succ]
      refine wpAnyH_take (i := 14) (oi := { dst := some 33, op := Op.call { callee := Callee.builtin Builtin.len, args := #[Operand.tmp 32], argTypes := #[88] }, type := 3, pos := "ram.go:159", after := _, guard := some (9, false) }) (v := ?_) rfl (by kernel_rfl) (by kernel_rfl) (by kernel_rfl) (fun _ _ _ h => (by cases h.1)) (Or.inl ⟨by rfl, ?_⟩) (by assumption) ?_
      rotate_left
      · intro w' hSw
        try dsimp only at hSw
        have xl := lenD w' hSw.1
        go_simp
        try with_reducible rfl
      try simp only [Act.put, List.setIfInBounds_toArray, List.set_cons_zero, List.set_cons_succ]
      refine wpAnyH_take (i := 15) (oi := { dst := some 34, op := Op.load 50 (Operand.tmp 3), type := 50, pos := "ram.go:159", after := _, guard := some (9, false) }) (v := ?_) rfl (by kernel_rfl) (by kernel_rfl) (by kernel_rfl) (fun _ _ _ h => (by cases h.1)) (Or.inl ⟨by rfl, ?_⟩) (by assumption) ?_
      rotate_left
      · intro w' hSw
        try dsimp only at hSw
        have xo : w'.cell? ⟨w.heap.size, 0, none⟩ = some (.pointer (some ⟨b', 0, none⟩)) := by rw [cell_at hSw.2]; rfl
        go_simp
        try with_reducible rfl
      try simp only [Act.put, List.setIfInBounds_toArray, List.set_cons_zero, List.set_cons_succ]
      refine wpAnyH_take (i := 16) (oi := { dst := some 35, op := Op.nilCheck (Operand.tmp 34), type := 0, pos := "ram.go:159", after := _, guard := some (9, false) }) (v := ?_) rfl (by kernel_rfl) (by kernel_rfl) (by kernel_rfl) (fun _ _ _ h => (by cases h.1)) (Or.inl ⟨by rfl, ?_⟩) (by assumption) ?_
      rotate_left
      · intro w' hSw
        try dsimp only at hSw
        go_simp
        try with_reducible rfl
      try simp only [Act.put, List.setIfInBounds_toArray, List.set_cons_zero, List.set_cons_succ]
      refine wpAnyH_take (i := 17) (oi := { dst := some 36, op := Op.fieldAddr 90 (Operand.tmp 35) 1, type := 0, pos := "ram.go:159", after := _, guard := some (9, false) }) (v := ?_) rfl (by kernel_rfl) (by kernel_rfl) (by kernel_rfl) (fun _ _ _ h => (by cases h.1)) (Or.inl ⟨by rfl, ?_⟩) (by assumption) ?_
      rotate_left
      · intro w' hSw
        try dsimp only at hSw
        go_simp
        try with_reducible rfl
      try simp only [Act.put, List.setIfInBounds_toArray, List.set_cons_zero, List.set_cons_succ]
      refine wpAnyH_take (i := 18) (oi := { dst := some 37, op := Op.load 88 (Operand.tmp 36), type := 88, pos := "ram.go:159", after := _, guard := some (9, false) }) (v := ?_) rfl (by kernel_rfl) (by kernel_rfl) (by kernel_rfl) (fun _ _ _ h => (by cases h.1)) (Or.inl ⟨by rfl, ?_⟩) (by assumption) ?_
      rotate_left
      · intro w' hSw
        try dsimp only at hSw
        have x1 := hcell hSw.1.1 c1'
        go_simp
        try with_reducible rfl
      try simp only [Act.put, List.setIfInBounds_toArray, List.set_cons_zero, List.set_cons_succ]
      refine wpAnyH_take (i := 19) (oi := { dst := some 38, op := Op.call { callee := Callee.builtin Builtin.len, args := #[Operand.tmp 37], argTypes := #[88] }, type := 3, pos := "ram.go:159", after := _, guard := some (9, false) }) (v := ?_) rfl (by kernel_rfl) (by kernel_rfl) (by kernel_rfl) (fun _ _ _ h => (by cases h.1)) (Or.inl ⟨by rfl, ?_⟩) (by assumption) ?_
      rotate_left
      · intro w' hSw
        try dsimp only at hSw
        have xl := lenD' w' hSw.1
        go_simp
        try with_reducible rfl
      try simp only [Act.put, List.setIfInBounds_toArray, List.set_cons_zero, List.set_cons_succ]
      refine wpAnyH_take (i := 20) (oi := { dst := some 39, op := Op.binOp BinOp.neq 3 (Operand.tmp 33) (Operand.tmp 38) 3, type := 4, pos := "ram.go:159", after := _, guard := some (9, false) }) (v := ?_) rfl (by kernel_rfl) (by kernel_rfl) (by kernel_rfl) (fun _ _ _ h => (by cases h.1)) (Or.inl ⟨by rfl, ?_⟩) (by assumption) ?_
      rotate_left
      · intro w' hSw
        try dsimp only at hSw
        go_simp
        try with_reducible rfl
      try simp only [Act.put, List.setIfInBounds_toArray, List.set_cons_zero, List.set_cons_succ]
      refine wpAnyH_take (i := 21) (oi := { dst := some 40, op := Op.pick (Operand.tmp 28) (Operand.const (Value.bool true)) (Operand.tmp 39), type := 4, pos := "ram.go:159", after := _, guard := none }) (v := ?_) rfl (by kernel_rfl) (by kernel_rfl) (by kernel_rfl) (fun _ _ _ h => (by cases h.1)) (Or.inl ⟨by rfl, ?_⟩) (by assumption) ?_
      rotate_left
      · intro w' hSw
        try dsimp only at hSw
        go_simp
        try with_reducible rfl
      try simp only [Act.put, List.setIfInBounds_toArray, List.set_cons_zero, List.set_cons_succ]
      refine wpAnyH_done (by kernel_rfl) ?_ _
      exact ⟨rfl, by first | rfl | simp [hne], rfl⟩
    rintro a1 W2 ⟨rfl, hW2⟩
    have kbB : W2.heap[w.heap.size]? = some (.cells #[.pointer (some ⟨b', 0, none⟩)] 50) := by rw [hW2]; exact kb1
    have krB : W2.heap[w.heap.size + 1]? = some (.cells #[.bool false] 4) := by rw [hW2]; exact kr1
    have hF2 : Fr w.heap.size w W2 := by rw [hW2]; exact hF1.drew
    have hds : W2.heap.size = w.heap.size + 2 := by rw [hW2]; exact hW1s
    have HDS := Lib.hid hds
    clear hW2 hF1 kb1 kr1 hW1s hds
    have crr : W2.cell? ⟨w.heap.size + 1, 0, none⟩ = some (.bool false) := by rw [cell_at krB]; rfl
    have frr := frozen_at krB
    gi_wp2
    have hc5 := World.cell?_setCell_same' W2 ⟨w.heap.size + 1, 0, none⟩ (.bool false) (by rw [crr]; rfl)
    refine ⟨.bool false, ?_, rfl, hF2.1.setCell (p := ⟨w.heap.size + 1, 0, none⟩) (by simp) _⟩
    simp [results, Try.f28, go_sem, hc5]
end Go.Proofs.Ytbboaekfhdeolaa
