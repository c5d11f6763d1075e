/- RamSome: the memory that is not there, the function, the iterator, the walk. -/
import Derived.Test.YtbboaekfhdeolaaRpM
import Derived.Test.YtbboaekfhdeolaaRpN
namespace Go.Proofs.Ytbboaekfhdeolaa
open Go.RowKit
set_option linter.unusedSimpArgs false
set_option linter.unusedVariables false
attribute [local simp high] sizeLL zeroLL sizeLR zeroLR

theorem nil_lines (w : World) : Calls Try.prog 37 #[.pointer none] w fun e w' => e = .returned (.int .i64 0) ∧ w' = w := by
  go_enter Try.func37, Try.ntmps37
  go_wp2
  go_ret
  exact ⟨rfl, rfl⟩
set_option maxRecDepth 100000 in
theorem nil_has (w : World) : Calls Try.prog 29 #[.pointer none, .int .u64 2147483648, .int .i64 1] w fun e w' => e = .returned (.bool false) ∧ w' = w := by
  go_enter Try.func29, Try.ntmps29
  go_wp2_with fail
  refine (nil_lines _).mono ?_
  rintro e w1 ⟨rfl, rfl⟩
  go_wp2_with fail
  go_ret
  exact ⟨rfl, rfl⟩
set_option maxRecDepth 100000 in
theorem nil_load (w : World) : Calls Try.prog 26 #[.pointer none, .int .u64 2147483648, .int .i64 1] w fun e w' => e = .returned (.tuple #[.int .u64 0, .bool false]) ∧ w' = w := by
  go_enter Try.func26, Try.ntmps26
  go_wp2_with fail
  refine (nil_has _).mono ?_
  rintro e w1 ⟨rfl, rfl⟩
  go_wp2_with fail
  go_ret2
  exact ⟨rfl, rfl⟩
set_option maxRecDepth 100000 in
theorem nil_store (w : World) : Calls Try.prog 25 #[.pointer none, .int .u64 2147483648, .int .i64 1, .int .u64 1] w fun e w' => e = .returned (.bool false) ∧ w' = w := by
  go_enter Try.func25, Try.ntmps25
  go_wp2_with fail
  refine (nil_has _).mono ?_
  rintro e w1 ⟨rfl, rfl⟩
  go_wp2_with fail
  go_ret
  exact ⟨rfl, rfl⟩
set_option maxRecDepth 100000 in
theorem nil_line (w : World) : Calls Try.prog 38 #[.pointer none, .int .i64 0] w fun e w' => e = .returned (.agg (cellsL fun _ => 0)) ∧ Below w.heap.size w w' := by
  have F0 := (Fr.refl w).alloc (.cells (cellsL fun _ => 0) 26)
  have k0 := heap_alloc_new w (.cells (cellsL fun _ => 0) 26)
  go_enter Try.func38, Try.ntmps38
  go_wp2_with fail
  refine (nil_lines _).mono ?_
  rintro e w1 ⟨rfl, rfl⟩
  have sA := st_rowL Try.prog k0 (fun _ => 0)
  have kR := row_at k0 (cellsL fun _ => 0)
  have lv := lvLL kR
  have bd := bdLL
  have F1 := Lib.hid (F0.row (Nat.le_refl _) (cellsL fun _ => 0))
  have LV := Lib.hid lv
  clear lv kR F0
  go_wp2_with fail
  exact bodyPost_ret (v := .agg (cellsL fun _ => 0)) (by simp [results, Try.results38, asAddr, LV.out]) rfl ⟨rfl, F1.out.1⟩
set_option maxRecDepth 100000 in
theorem nil_set (w : World) : Calls Try.prog 39 #[.pointer none, .int .i64 0, .agg (cellsL fun _ => 0)] w fun e w' => e = .returned (.bool false) ∧ Below w.heap.size w w' := by
  have F0 := (Fr.refl w).alloc (.cells (cellsL fun _ => 0) 26)
  go_enter Try.func39, Try.ntmps39
  go_wp2_with fail
  refine (nil_lines _).mono ?_
  rintro e w1 ⟨rfl, rfl⟩
  go_wp2_with fail
  go_ret
  exact ⟨rfl, F0.1⟩
theorem nil_fill (w : World) : Calls Try.prog 40 #[.pointer none, .int .u64 2147483648, .slice none 0 0] w fun e w' => e = .returned (.bool false) ∧ w' = w := by
  go_enter Try.func40, Try.ntmps40
  go_wp2
  go_ret
  exact ⟨rfl, rfl⟩
theorem nil_clone (w : World) : Calls Try.prog 27 #[.pointer none] w fun e w' => e = .returned (.pointer none) ∧ Below w.heap.size w w' := by
  have F0 := (Fr.refl w).alloc (.cells #[.pointer none] 50)
  go_enter Try.func27, Try.ntmps27
  go_wp2
  go_ret
  exact ⟨rfl, Below.refl _ _⟩
set_option maxRecDepth 100000 in
theorem nil_same (w : World) : Calls Try.prog 28 #[.pointer none, .pointer none] w fun e w' => e = .returned (.bool true) ∧ Below w.heap.size w w' := by
  have F1 := Lib.hid (((Fr.refl w).alloc (.cells #[.pointer none] 50)).alloc (.cells #[.bool true] 4))
  have hc5 : ((w.alloc (.cells #[.pointer none] 50)).alloc (.cells #[.bool true] 4)).cell? ⟨w.heap.size + 1, 0, none⟩ = some (.bool true) := by
    rw [cell_at (show _ = some (Obj.cells #[.bool true] 4) by simpa using heap_alloc_new (w.alloc (.cells #[.pointer none] 50)) (.cells #[.bool true] 4))]; rfl
  go_enter Try.func28, Try.ntmps28
  go_wp2
  refine bodyPost_ret (v := .bool true) ?_ rfl ⟨rfl, F1.out.1⟩
  simp [results, Try.f28, go_sem, hc5]
set_option maxRecDepth 100000 in
theorem nil_same1 (b : Nat) (w : World) : Calls Try.prog 28 #[.pointer none, .pointer (some ⟨b, 0, none⟩)] w fun e w' => e = .returned (.bool false) ∧ Below w.heap.size w w' := by
  have F1 := Lib.hid (((Fr.refl w).alloc (.cells #[.pointer (some ⟨b, 0, none⟩)] 50)).alloc (.cells #[.bool false] 4))
  have hc5 : ((w.alloc (.cells #[.pointer (some ⟨b, 0, none⟩)] 50)).alloc (.cells #[.bool false] 4)).cell? ⟨w.heap.size + 1, 0, none⟩ = some (.bool false) := by
    rw [cell_at (show _ = some (Obj.cells #[.bool false] 4) by simpa using heap_alloc_new (w.alloc (.cells #[.pointer (some ⟨b, 0, none⟩)] 50)) (.cells #[.bool false] 4))]; rfl
  go_enter Try.func28, Try.ntmps28
  go_wp2
  refine bodyPost_ret (v := .bool false) ?_ rfl ⟨rfl, F1.out.1⟩
  simp [results, Try.f28, go_sem, hc5]
set_option maxRecDepth 100000 in
theorem nil_same2 (b : Nat) (w : World) : Calls Try.prog 28 #[.pointer (some ⟨b, 0, none⟩), .pointer none] w fun e w' => e = .returned (.bool false) ∧ Below w.heap.size w w' := by
  have F1 := Lib.hid (((Fr.refl w).alloc (.cells #[.pointer none] 50)).alloc (.cells #[.bool false] 4))
  have hc5 : ((w.alloc (.cells #[.pointer none] 50)).alloc (.cells #[.bool false] 4)).cell? ⟨w.heap.size + 1, 0, none⟩ = some (.bool false) := by
    rw [cell_at (show _ = some (Obj.cells #[.bool false] 4) by simpa using heap_alloc_new (w.alloc (.cells #[.pointer none] 50)) (.cells #[.bool false] 4))]; rfl
  go_enter Try.func28, Try.ntmps28
  go_wp2
  refine bodyPost_ret (v := .bool false) ?_ rfl ⟨rfl, F1.out.1⟩
  simp [results, Try.f28, go_sem, hc5]
end Go.Proofs.Ytbboaekfhdeolaa
/- RamSome: what is done with each line that is told. -/
namespace Go.Proofs.Ytbboaekfhdeolaa
open Go.RowKit
set_option linter.unusedSimpArgs false
set_option linter.unusedVariables false
attribute [local simp high] sizeLL zeroLL sizeLR zeroLR

/-- The five variables that the function shares. -/
structure CB (w : World) (bn bl bf x9 bm c T cap : Nat) (n last mo : Int) : Prop where
  kn : w.heap[bn]? = some (.cells #[.int .i64 n] 3)
  kf : w.heap[bf]? = some (.cells #[.bool true] 4)
  kl : w.heap[bl]? = some (.cells #[.int .i64 last] 3)
  kx : w.heap[x9]? = some (.cells #[.slice (some ⟨c, 0, none⟩) T cap] 66)
  km : w.heap[bm]? = some (.cells #[.int .i64 mo] 3)
/-- Only those of the three numbers and what is new are changed. -/
def Wr3 (bn bf : Nat) (w w' : World) : Prop := (∀ B w0, B ≤ bn → Fr B w0 w → Fr B w0 w') ∧ (∀ b' o, (b' < bn ∨ bf < b') → w.heap[b']? = some o → w'.heap[b']? = some o)
theorem Wr3.refl (bn bf : Nat) (w : World) : Wr3 bn bf w w := ⟨fun _ _ _ h => h, fun _ _ _ h => h⟩
theorem Wr3.trans {bn bf : Nat} {w w1 w2 : World} (h : Wr3 bn bf w w1) (h2 : Wr3 bn bf w1 w2) : Wr3 bn bf w w2 := ⟨fun B w0 hB hf => h2.1 B w0 hB (h.1 B w0 hB hf), fun b' o hm ho => h2.2 b' o hm (h.2 b' o hm ho)⟩
theorem Wr3.below {bn bf : Nat} {w w1 w2 : World} (h : Wr3 bn bf w w1) (hb : Below w1.heap.size w1 w2) : Wr3 bn bf w w2 := ⟨fun B w0 hB hf => (h.1 B w0 hB hf).step hb, fun b' o hm ho => keepB hb (h.2 b' o hm ho)⟩
theorem set_one' {w : World} {c : Nat} {v : Value} {t : TypeId} (h : w.heap[c]? = some (.cells #[v] t)) (u : Value) : (w.setCell ⟨c, 0, none⟩ u).heap[c]? = some (.cells #[u] t) := by
  simp [World.setCell, Array.getElem?_modify, h]
theorem heap_setCell_ne' {w : World} {b : Nat} {p : Addr} {o : Obj} (h : p.block ≠ b) (u : Value) (ho : w.heap[b]? = some o) : (w.setCell p u).heap[b]? = some o := by
  rw [RowKit.Below.heap_setCell _ _ _ _ (Ne.symm h)]; exact ho
theorem Wr3.set {bn bf c : Nat} {w w1 : World} (h : Wr3 bn bf w w1) (h1 : bn ≤ c) (h2 : c ≤ bf) (u : Value) : Wr3 bn bf w (w1.setCell ⟨c, 0, none⟩ u) :=
  ⟨fun B w0 hB hf => (h.1 B w0 hB hf).setCell (by show B ≤ c; omega) u, fun b' o hm ho => heap_setCell_ne' (by show c ≠ b'; omega) u (h.2 b' o hm ho)⟩
theorem CB.setN {w : World} {bn bl bf x9 bm c T cap : Nat} {n last mo : Int} (h : CB w bn bl bf x9 bm c T cap n last mo) (h1 : bm < x9) (h2 : x9 < bn) (h3 : bn < bl) (h4 : bl < bf) (n' : Int) : CB (w.setCell ⟨bn, 0, none⟩ (.int .i64 n')) bn bl bf x9 bm c T cap n' last mo :=
  ⟨set_one' h.kn _, heap_setCell_ne' (by show bn ≠ bf; omega) _ h.kf, heap_setCell_ne' (by show bn ≠ bl; omega) _ h.kl, heap_setCell_ne' (by show bn ≠ x9; omega) _ h.kx, heap_setCell_ne' (by show bn ≠ bm; omega) _ h.km⟩
theorem CB.setL {w : World} {bn bl bf x9 bm c T cap : Nat} {n last mo : Int} (h : CB w bn bl bf x9 bm c T cap n last mo) (h1 : bm < x9) (h2 : x9 < bn) (h3 : bn < bl) (h4 : bl < bf) (n' : Int) : CB (w.setCell ⟨bl, 0, none⟩ (.int .i64 n')) bn bl bf x9 bm c T cap n n' mo :=
  ⟨heap_setCell_ne' (by show bl ≠ bn; omega) _ h.kn, heap_setCell_ne' (by show bl ≠ bf; omega) _ h.kf, set_one' h.kl _, heap_setCell_ne' (by show bl ≠ x9; omega) _ h.kx, heap_setCell_ne' (by show bl ≠ bm; omega) _ h.km⟩
theorem CB.setF {w : World} {bn bl bf x9 bm c T cap : Nat} {n last mo : Int} (h : CB w bn bl bf x9 bm c T cap n last mo) (h1 : bm < x9) (h2 : x9 < bn) (h3 : bn < bl) (h4 : bl < bf) : CB (w.setCell ⟨bf, 0, none⟩ (.bool true)) bn bl bf x9 bm c T cap n last mo :=
  ⟨heap_setCell_ne' (by show bf ≠ bn; omega) _ h.kn, set_one' h.kf _, heap_setCell_ne' (by show bf ≠ bl; omega) _ h.kl, heap_setCell_ne' (by show bf ≠ x9; omega) _ h.kx, heap_setCell_ne' (by show bf ≠ bm; omega) _ h.km⟩
theorem CB.keep {w w' : World} {bn bl bf x9 bm c T cap : Nat} {n last mo : Int} (h : CB w bn bl bf x9 bm c T cap n last mo) (hb : Below w.heap.size w w') : CB w' bn bl bf x9 bm c T cap n last mo :=
  ⟨keepB hb h.kn, keepB hb h.kf, keepB hb h.kl, keepB hb h.kx, keepB hb h.km⟩
theorem CB.cells {w : World} {bn bl bf x9 bm c T cap : Nat} {n last mo : Int} (h : CB w bn bl bf x9 bm c T cap n last mo) : w.cell? ⟨bn, 0, none⟩ = some (.int .i64 n) ∧ w.cell? ⟨bf, 0, none⟩ = some (.bool true) ∧ w.cell? ⟨bl, 0, none⟩ = some (.int .i64 last) ∧ w.cell? ⟨x9, 0, none⟩ = some (.slice (some ⟨c, 0, none⟩) T cap) ∧ w.cell? ⟨bm, 0, none⟩ = some (.int .i64 mo) :=
  ⟨by rw [cell_at h.kn]; rfl, by rw [cell_at h.kf]; rfl, by rw [cell_at h.kl]; rfl, by rw [cell_at h.kx]; rfl, by rw [cell_at h.km]; rfl⟩
set_option maxRecDepth 100000 in
set_option maxHeartbeats 8000000 in
theorem some_f (bn bl bf x9 bm c L T cap j n : Nat) (last mo : Int) (g : Nat → Nat → Nat) (h : Nat → Nat) (w : World) (hT : Hid (64 * L = T)) (hh : Hid (g j = h)) (h1 : bm < x9) (h2 : x9 < bn) (h3 : bn < bl) (h4 : bl < bf) (hcn : c < bn) (hL : L ≤ 4096) (hj : j < L) (hlast : last < j) (hn : n < 4096) (ok : Hid (OkL h)) (hz : Hid (Value.agg (cellsL h) ≠ zline))
    (hX : XB w c (64 * L) (fl g)) (hC : CB w bn bl bf x9 bm c T cap n last mo) :
    Calls Try.prog 42 #[.int .i64 (j : Int), .agg (cellsL h), .pointer (some ⟨bn, 0, none⟩), .pointer (some ⟨bf, 0, none⟩), .pointer (some ⟨bl, 0, none⟩), .pointer (some ⟨x9, 0, none⟩), .pointer (some ⟨bm, 0, none⟩)] w
      fun e w' => e = .returned (.bool (!decide ((n : Int) + 1 = mo))) ∧ CB w' bn bl bf x9 bm c T cap ((n : Int) + 1) j mo ∧ Wr3 bn bf w w' := by
  have W0 : Wr3 bn bf w (w.alloc (.cells (cellsL h) 26)) := (Wr3.refl bn bf w).below ((Below.refl _ w).alloc (Nat.le_refl _) _)
  have C0 := hC.keep ((Below.refl _ w).alloc (Nat.le_refl _) (.cells (cellsL h) 26))
  have kb := heap_alloc_new w (.cells (cellsL h) 26)
  have X0 := hX.alloc (.cells (cellsL h) 26)
  have hbf : bf < w.heap.size := lt_of_at hC.kf
  have hcl : c < w.heap.size := hX.1
  have hu := Try.underlying26
  obtain ⟨c1, c2, c3, c4, c5⟩ := C0.cells
  have hn1 : IntKind.i64.wrap ((n : Int) + 1) = (n : Int) + 1 := by rw [IntKind.wrap_i64]; omega
  have hf1 : (w.alloc (.cells (cellsL h) 26)).frozen? ⟨bn, 0, none⟩ = false := fr_at C0.kn
  have l3 := size_cellsL
  clear hX hC
  go_enter Try.func42, Try.ntmps42
  go_wp2_with fail
  have C2 := C0.setN h1 h2 h3 h4 ((n : Int) + 1)
  have W2 := Lib.hid (W0.set (c := bn) (Nat.le_refl _) (by omega) (.int .i64 ((n : Int) + 1)))
  have kb2 := heap_setCell_ne' (p := ⟨bn, 0, none⟩) (by show bn ≠ w.heap.size; omega) (.int .i64 ((n : Int) + 1)) kb
  have hsz : ((w.alloc (.cells (cellsL h) 26)).setCell ⟨bn, 0, none⟩ (.int .i64 ((n : Int) + 1))).heap[c]? = (w.alloc (.cells (cellsL h) 26)).heap[c]? := RowKit.Below.heap_setCell _ _ _ _ (by show c ≠ bn; omega)
  have X2 := X0.same (w' := (w.alloc (.cells (cellsL h) 26)).setCell ⟨bn, 0, none⟩ (.int .i64 ((n : Int) + 1))) (by simp) hsz
  clear hsz
  obtain ⟨w2, hw2⟩ : ∃ w2, (w.alloc (.cells (cellsL h) 26)).setCell ⟨bn, 0, none⟩ (.int .i64 ((n : Int) + 1)) = w2 := ⟨_, rfl⟩
  rw [hw2] at C2 W2 kb2 X2 ⊢
  clear hw2 C0 W0 kb X0 c1 c2 c3 c4 c5 hf1
  have dr := (Fr.refl w2).drew.1
  have X3 := X2.keep dr
  clear X2
  refine wp_region_held_drew (S := (fun w' => Wr3 bn bf w2 w' ∧ CB w' bn bl bf x9 bm c T cap ((n : Int) + 1) last mo ∧ w'.heap[w.heap.size]? = some (.cells (cellsL h) 26))) (by kernel_rfl) ?_ (fun hHeld => ?_)
  · exact ⟨(Wr3.refl bn bf w2).below dr, C2.keep dr, keepB dr kb2⟩
  refine wpAnyH_take (i := 0) (oi := { dst := some 12, op := Op.load 4 (Operand.tmp 3), type := 4, pos := "law.go:129", after := _, guard := none }) (v := ?_) rfl (by kernel_rfl) (by kernel_rfl) (by kernel_rfl) (fun _ _ _ h => h) (Or.inl ⟨by rfl, ?_⟩) (by assumption) ?_
  rotate_left
  · intro w' hSw
    try dsimp only at hSw
    obtain ⟨x1, x2, x3, x4, x5⟩ := hSw.2.1.cells
    go_simp
    try with_reducible rfl
  try simp only [Act.put, List.setIfInBounds_toArray, List.set_cons_zero, List.set_cons_succ]
  refine wpAnyH_take (i := 1) (oi := { dst := some 13, op := Op.move (Operand.tmp 12), type := 4, pos := "law.go:129", after := _, guard := none }) (v := ?_) rfl (by kernel_rfl) (by kernel_rfl) (by kernel_rfl) (fun _ _ _ h => h) (Or.inl ⟨by rfl, ?_⟩) (by assumption) ?_
  rotate_left
  · intro w' hSw
    try dsimp only at hSw
    go_simp
    try with_reducible rfl
  try simp only [Act.put, List.setIfInBounds_toArray, List.set_cons_zero, List.set_cons_succ]
  refine wpAnyH_take (i := 2) (oi := { dst := some 14, op := Op.move (Operand.tmp 0), type := 3, pos := "law.go:129", after := _, guard := some (1, true) }) (v := ?_) rfl (by kernel_rfl) (by kernel_rfl) (by kernel_rfl) (fun _ _ _ h => h) (Or.inl ⟨by rfl, ?_⟩) (by assumption) ?_
  rotate_left
  · intro w' hSw
    try dsimp only at hSw
    go_simp
    try with_reducible rfl
  try simp only [Act.put, List.setIfInBounds_toArray, List.set_cons_zero, List.set_cons_succ]
  refine wpAnyH_take (i := 3) (oi := { dst := some 15, op := Op.load 3 (Operand.tmp 4), type := 3, pos := "law.go:129", after := _, guard := some (1, true) }) (v := ?_) rfl (by kernel_rfl) (by kernel_rfl) (by kernel_rfl) (fun _ _ _ h => h) (Or.inl ⟨by rfl, ?_⟩) (by assumption) ?_
  rotate_left
  · intro w' hSw
    try dsimp only at hSw
    obtain ⟨x1, x2, x3, x4, x5⟩ := hSw.2.1.cells
    go_simp
    try with_reducible rfl
  try simp only [Act.put, List.setIfInBounds_toArray, List.set_cons_zero, List.set_cons_succ]
  refine wpAnyH_take (i := 4) (oi := { dst := some 16, op := Op.binOp BinOp.gtr 3 (Operand.tmp 14) (Operand.tmp 15) 3, type := 4, pos := "law.go:129", after := _, guard := some (1, true) }) (v := ?_) rfl (by kernel_rfl) (by kernel_rfl) (by kernel_rfl) (fun _ _ _ h => h) (Or.inl ⟨by rfl, ?_⟩) (by assumption) ?_
  rotate_left
  · intro w' hSw
    try dsimp only at hSw
    have d1 : decide (last < (j : Int)) = true := by simp; omega
    go_simp
    try with_reducible rfl
  try simp only [Act.put, List.setIfInBounds_toArray, List.set_cons_zero, List.set_cons_succ]
  refine wpAnyH_take (i := 5) (oi := { dst := some 17, op := Op.pick (Operand.tmp 13) (Operand.tmp 16) (Operand.const (Value.bool false)), type := 4, pos := "law.go:129", after := _, guard := none }) (v := ?_) rfl (by kernel_rfl) (by kernel_rfl) (by kernel_rfl) (fun _ _ _ h => h) (Or.inl ⟨by rfl, ?_⟩) (by assumption) ?_
  rotate_left
  · intro w' hSw
    try dsimp only at hSw
    go_simp
    try with_reducible rfl
  try simp only [Act.put, List.setIfInBounds_toArray, List.set_cons_zero, List.set_cons_succ]
  refine wpAnyH_take (i := 6) (oi := { dst := some 18, op := Op.move (Operand.tmp 17), type := 4, pos := "law.go:129", after := _, guard := none }) (v := ?_) rfl (by kernel_rfl) (by kernel_rfl) (by kernel_rfl) (fun _ _ _ h => h) (Or.inl ⟨by rfl, ?_⟩) (by assumption) ?_
  rotate_left
  · intro w' hSw
    try dsimp only at hSw
    go_simp
    try with_reducible rfl
  try simp only [Act.put, List.setIfInBounds_toArray, List.set_cons_zero, List.set_cons_succ]
  refine wpAnyH_take (i := 7) (oi := { dst := some 19, op := Op.load 26 (Operand.tmp 8), type := 26, pos := "law.go:129", after := _, guard := some (6, true) }) (v := .agg (cellsL (h))) rfl (by kernel_rfl) (by kernel_rfl) (by kernel_rfl) (fun _ _ _ h => h) (yields_row (g := h) (by rfl) _ _ rfl _ rfl (fun w' hSw => by (try dsimp only at hSw); exact hSw.2.2) hu rfl infoLL) (by assumption) ?_
  try simp only [Act.put, List.setIfInBounds_toArray, List.set_cons_zero, List.set_cons_succ]
  refine wpAnyH_take (i := 8) (oi := { dst := some 20, op := Op.build 26 #[], type := 26, pos := "law.go:129", after := _, guard := some (6, true) }) (v := ?_) rfl (by kernel_rfl) (by kernel_rfl) (by kernel_rfl) (fun _ _ _ h => h) (Or.inl ⟨by rfl, ?_⟩) (by assumption) ?_
  rotate_left
  · intro w' hSw
    try dsimp only at hSw
    have bd := bdLL w'
    go_simp
    try with_reducible rfl
  try simp only [Act.put, List.setIfInBounds_toArray, List.set_cons_zero, List.set_cons_succ]
  refine wpAnyH_take (i := 9) (oi := { dst := some 21, op := Op.binOp BinOp.neq 26 (Operand.tmp 19) (Operand.tmp 20) 26, type := 4, pos := "law.go:129", after := _, guard := some (6, true) }) (v := ?_) rfl (by kernel_rfl) (by kernel_rfl) (by kernel_rfl) (fun _ _ _ h => h) (Or.inl ⟨by rfl, ?_⟩) (by assumption) ?_
  rotate_left
  · intro w' hSw
    try dsimp only at hSw
    have eq := eq_zero h ok.out w' false (by simpa using hz.out)
    go_simp
    try with_reducible rfl
  try simp only [Act.put, List.setIfInBounds_toArray, List.set_cons_zero, List.set_cons_succ]
  refine wpAnyH_take (i := 10) (oi := { dst := some 22, op := Op.pick (Operand.tmp 18) (Operand.tmp 21) (Operand.const (Value.bool false)), type := 4, pos := "law.go:129", after := _, guard := none }) (v := ?_) rfl (by kernel_rfl) (by kernel_rfl) (by kernel_rfl) (fun _ _ _ h => h) (Or.inl ⟨by rfl, ?_⟩) (by assumption) ?_
  rotate_left
  · intro w' hSw
    try dsimp only at hSw
    go_simp
    try with_reducible rfl
  try simp only [Act.put, List.setIfInBounds_toArray, List.set_cons_zero, List.set_cons_succ]
  refine wpAnyH_take (i := 11) (oi := { dst := some 23, op := Op.move (Operand.tmp 22), type := 4, pos := "law.go:129", after := _, guard := none }) (v := ?_) rfl (by kernel_rfl) (by kernel_rfl) (by kernel_rfl) (fun _ _ _ h => h) (Or.inl ⟨by rfl, ?_⟩) (by assumption) ?_
  rotate_left
  · intro w' hSw
    try dsimp only at hSw
    go_simp
    try with_reducible rfl
  try simp only [Act.put, List.setIfInBounds_toArray, List.set_cons_zero, List.set_cons_succ]
  refine wpAnyH_take (i := 12) (oi := { dst := some 24, op := Op.load 26 (Operand.tmp 8), type := 26, pos := "law.go:129", after := _, guard := some (11, true) }) (v := .agg (cellsL (h))) rfl (by kernel_rfl) (by kernel_rfl) (by kernel_rfl) (fun _ _ _ h => h) (yields_row (g := h) (by rfl) _ _ rfl _ rfl (fun w' hSw => by (try dsimp only at hSw); exact hSw.2.2) hu rfl infoLL) (by assumption) ?_
  try simp only [Act.put, List.setIfInBounds_toArray, List.set_cons_zero, List.set_cons_succ]
  refine wpAnyH_take (i := 13) (oi := { dst := some 25, op := Op.load 66 (Operand.tmp 5), type := 66, pos := "law.go:129", after := _, guard := some (11, true) }) (v := ?_) rfl (by kernel_rfl) (by kernel_rfl) (by kernel_rfl) (fun _ _ _ h => h) (Or.inl ⟨by rfl, ?_⟩) (by assumption) ?_
  rotate_left
  · intro w' hSw
    try dsimp only at hSw
    obtain ⟨x1, x2, x3, x4, x5⟩ := hSw.2.1.cells
    go_simp
    try with_reducible rfl
  try simp only [Act.put, List.setIfInBounds_toArray, List.set_cons_zero, List.set_cons_succ]
  refine wpAnyH_take (i := 14) (oi := { dst := some 26, op := Op.move (Operand.tmp 0), type := 3, pos := "law.go:129", after := _, guard := some (11, true) }) (v := ?_) rfl (by kernel_rfl) (by kernel_rfl) (by kernel_rfl) (fun _ _ _ h => h) (Or.inl ⟨by rfl, ?_⟩) (by assumption) ?_
  rotate_left
  · intro w' hSw
    try dsimp only at hSw
    go_simp
    try with_reducible rfl
  try simp only [Act.put, List.setIfInBounds_toArray, List.set_cons_zero, List.set_cons_succ]
  refine wpAnyH_ready (rs := [15]) (by kernel_rfl) (by simp) ?_
  refine AllReadyH.cons (o := { dst := some 27, op := Op.call { callee := Callee.value (Operand.func 43), args := #[Operand.tmp 25, Operand.tmp 26], argTypes := #[66, 3] }, type := 25, pos := "law.go:129", after := _, guard := some (11, true) }) rfl (fun K hK => ?_) AllReadyH.nil
  obtain ⟨x1, x2, x3, x4, x5⟩ := C2.cells
  go_simp
  go_at_call 43
  refine (rline_w hT.out hh.out _ hj hL X3).mono ?_
  rintro e wa ⟨rfl, hb⟩
  try go_wp2_with fail
  refine hK.out _ _ ?_ (fun hHeld2 => ?_)
  · (try dsimp only)
    exact ⟨hHeld.1.below hb, hHeld.2.1.keep hb, keepB hb hHeld.2.2⟩
  clear hK K hHeld
  have hHeld := hHeld2
  clear hHeld2
  try simp only [Act.put, List.setIfInBounds_toArray, List.set_cons_zero, List.set_cons_succ]
  refine wpAnyH_take (i := 16) (oi := { dst := some 28, op := Op.binOp BinOp.eql 26 (Operand.tmp 24) (Operand.tmp 27) 26, type := 4, pos := "law.go:129", after := _, guard := some (11, true) }) (v := ?_) rfl (by kernel_rfl) (by kernel_rfl) (by kernel_rfl) (fun _ _ _ h => h) (Or.inl ⟨by rfl, ?_⟩) (by assumption) ?_
  rotate_left
  · intro w' hSw
    try dsimp only at hSw
    have eq := eqLs h ok.out
    go_simp
    try with_reducible rfl
  try simp only [Act.put, List.setIfInBounds_toArray, List.set_cons_zero, List.set_cons_succ]
  refine wpAnyH_take (i := 17) (oi := { dst := some 29, op := Op.pick (Operand.tmp 23) (Operand.tmp 28) (Operand.const (Value.bool false)), type := 4, pos := "law.go:129", after := _, guard := none }) (v := ?_) rfl (by kernel_rfl) (by kernel_rfl) (by kernel_rfl) (fun _ _ _ h => h) (Or.inl ⟨by rfl, ?_⟩) (by assumption) ?_
  rotate_left
  · intro w' hSw
    try dsimp only at hSw
    go_simp
    try with_reducible rfl
  try simp only [Act.put, List.setIfInBounds_toArray, List.set_cons_zero, List.set_cons_succ]
  refine wpAnyH_ready (rs := [18]) (by kernel_rfl) (by simp) ?_
  refine AllReadyH.cons (o := { dst := none, op := Op.store 4 (Operand.tmp 3) (Operand.tmp 29), type := 0, pos := "law.go:129", after := _, guard := none }) rfl (fun K hK => ?_) AllReadyH.nil
  have ff := fr_at (o := 0) hHeld.2.1.kf
  obtain ⟨-, y2, -, -, -⟩ := hHeld.2.1.cells
  go_simp
  refine hK.out _ _ ?_ (fun hHeld2 => ?_)
  · (try dsimp only)
    exact ⟨hHeld.1.set (by omega) (by omega) _, hHeld.2.1.setF h1 h2 h3 h4, heap_setCell_ne' (by show bf ≠ w.heap.size; omega) _ hHeld.2.2⟩
  clear hK K hHeld
  have hHeld := hHeld2
  clear hHeld2
  try simp only [Act.put, List.setIfInBounds_toArray, List.set_cons_zero, List.set_cons_succ]
  refine wpAnyH_done (by kernel_rfl) ?_ _
  obtain ⟨WE, CE, KE⟩ := hHeld
  obtain ⟨wz, hwz⟩ : ∃ wz, wa.setCell ⟨bf, 0, none⟩ (.bool true) = wz := ⟨_, rfl⟩
  rw [hwz] at WE CE KE ⊢
  clear hwz hb X3 C2
  have ff := fr_at (o := 0) CE.kl
  obtain ⟨y1, y2, y3, y4, y5⟩ := CE.cells
  have CF := CE.setL h1 h2 h3 h4 (j : Int)
  have WF := Lib.hid ((W2.out.trans WE).set (c := bl) (by omega) (by omega) (.int .i64 (j : Int)))
  obtain ⟨z1, z2, z3, z4, z5⟩ := CF.cells
  have CG := Lib.hid CF
  clear CE CF WE KE
  go_wp2_with fail
  go_ret
  exact ⟨rfl, CG.out, WF.out⟩
end Go.Proofs.Ytbboaekfhdeolaa
/- RamSome: ram's iterator with a function that is called. -/
namespace Go.Proofs.Ytbboaekfhdeolaa
open Go.RowKit Go.Shelf
open Go.Maps (Keyed)
set_option linter.unusedSimpArgs false
set_option linter.unusedVariables false
attribute [local simp high] sizeLL zeroLL sizeLR zeroLR

theorem someTo_mono (L : Nat) (g : Nat → Nat → Nat) {i j : Nat} (h : i ≤ j) : (someTo L g i).length ≤ (someTo L g j).length := by
  induction j with
  | zero => have : i = 0 := by omega
            subst this; exact Nat.le_refl _
  | succ j ih =>
    by_cases e : i = j + 1
    · subst e; exact Nat.le_refl _
    · refine Nat.le_trans (ih (by omega)) ?_
      show _ ≤ (someTo L g j ++ _).length
      rw [List.length_append]; omega
theorem RamAt.wr3 {w w' : World} {b m k L bn bf : Nat} {g : Nat → Nat → Nat} (h : RamAt w b m k L g) (hW : Wr3 bn bf w w') (h1 : b < bn) (h2 : m < bn) : RamAt w' b m k L g := by
  obtain ⟨h1', D, ⟨es, clock, h2', h3'⟩, hD⟩ := h
  exact ⟨hW.2 _ _ (.inl h1) h1', D, ⟨es, clock, hW.2 _ _ (.inl h2) h2', h3'⟩, hD⟩
theorem XB.wr3 {w w' : World} {c n bn bf : Nat} {x : Nat → Nat} (h : XB w c n x) (hW : Wr3 bn bf w w') (h1 : c < bn) : XB w' c n x := by
  obtain ⟨o, ho⟩ : ∃ o, w.heap[c]? = some o := ⟨_, Array.getElem?_eq_getElem h.1⟩
  have ho' := hW.2 c o (.inl h1) ho
  refine ⟨lt_of_at ho', fun i hi => ?_⟩
  have e : w'.heap[c]? = w.heap[c]? := ho'.trans ho.symm
  exact ⟨(World.cell?_of_block (a := ⟨c, i, none⟩) e).trans (h.2 i hi).1, (World.frozen?_of_block (a := ⟨c, i, none⟩) e).trans (h.2 i hi).2⟩
set_option maxRecDepth 100000 in
set_option maxHeartbeats 8000000 in
theorem some1_f (Bs b m k L bn bl bf x9 bm c T cap : Nat) (mo : Int) (g : Nat → Nat → Nat) (w : World) (HT : Hid (64 * L = T)) (okg : Hid (∀ i, OkL (g i))) (hL : L ≤ 4096) (h1 : bm < x9) (h2 : x9 < bn) (h3 : bn < bl) (h4 : bl < bf) (hcn : c < bn) (hbn : b < bn) (hmn : m < bn) (hBn : Bs < bn)
    (hBs : w.heap[Bs]? = some (.cells #[.pointer (some ⟨b, 0, none⟩)] 50)) (hR : RamAt w b m k L g) (hX : XB w c (64 * L) (fl g)) (hC : CB w bn bl bf x9 bm c T cap ((0 : Nat) : Int) (-1) mo) :
    Calls Try.prog 57 #[.func (.func 42) #[] #[.pointer (some ⟨bn, 0, none⟩), .pointer (some ⟨bf, 0, none⟩), .pointer (some ⟨bl, 0, none⟩), .pointer (some ⟨x9, 0, none⟩), .pointer (some ⟨bm, 0, none⟩)], .pointer (some ⟨Bs, 0, none⟩)] w
      fun e w' => (∃ v, e = .returned v) ∧ ∃ (n : Nat) (last : Int), CB w' bn bl bf x9 bm c T cap n last mo ∧ ((n = (someTo L g L).length ∧ (mo ≤ 0 ∨ (n : Int) < mo)) ∨ ((n : Int) = mo ∧ 1 ≤ n ∧ n ≤ (someTo L g L).length)) ∧ Wr3 bn bf w w' := by
  have HC0 := Lib.hid hC
  have HX0 := Lib.hid hX
  clear hC hX
  have hc : w.cell? ⟨Bs, 0, none⟩ = some (.pointer (some ⟨b, 0, none⟩)) := by rw [cell_at hBs]; rfl
  go_enter Try.func57, Try.ntmps57
  go_wp2_with fail
  refine (ramlines_any b m k L g _ hR).mono ?_
  rintro e w1 ⟨rfl, hw1⟩
  subst hw1
  clear hc
  go_wp2_with fail
  go_loopw [8] (fun i wr => ∃ (j n : Nat) (last : Int), j ≤ L ∧ i = .int .i64 (j : Int) ∧ last < j ∧ (mo ≤ 0 ∨ (n : Int) < mo) ∧ CB wr bn bl bf x9 bm c T cap n last mo ∧ Wr3 bn bf w1 wr ∧ n = (someTo L g j).length) (fun i _ => L - (intOf i).toNat)
  case atStart => exact ⟨0, 0, -1, by omega, rfl, by omega, (by rcases Int.lt_or_le 0 mo with h | h; exact .inr (by simpa using h); exact .inl h), HC0.out, Wr3.refl _ _ _, rfl⟩
  case round =>
    obtain ⟨j, n, last, hj, rfl, hla, hnm, hCr, hWr, hnn⟩ := hrel
    have hRr : RamAt wr b m k L g := hR.wr3 hWr hbn hmn
    have hBr := hWr.2 _ _ (.inl hBn) hBs
    have HX := Lib.hid (HX0.out.wr3 hWr hcn)
    have HC := Lib.hid hCr
    have HW := Lib.hid hWr
    have HN := Lib.hid hnn
    clear hCr hWr hnn
    by_cases hlt : j < L
    · have hj6 := line_lt hlt hL
      obtain ⟨q, hq⟩ : ∃ q : Bool, q = true ↔ Value.agg (cellsL (g j)) ≠ zline := by
        by_cases e : Value.agg (cellsL (g j)) = zline
        · exact ⟨false, by simp [e]⟩
        · exact ⟨true, by simp [e]⟩
      clear hR hBs
      have hc : wr.cell? ⟨Bs, 0, none⟩ = some (.pointer (some ⟨b, 0, none⟩)) := by rw [cell_at hBr]; rfl
      obtain ⟨c0, c1, cl⟩ := hRr.cells
      clear hBr
      go_wp2_with fail
      refine wp_region_held_drew (S := (fun w' => Fr wr.heap.size wr w')) (by kernel_rfl) ?_ (fun hHeld => ?_)
      · exact (Fr.refl wr).drew
      refine wpAnyH_take (i := 0) (oi := { dst := some 12, op := Op.load 50 (Operand.tmp 1), type := 50, pos := "ram.go:135", after := _, guard := none }) (v := ?_) rfl (by kernel_rfl) (by kernel_rfl) (by kernel_rfl) (fun _ _ _ h => h) (Or.inl ⟨by rfl, ?_⟩) (by assumption) ?_
      rotate_left
      · intro w' hSw
        try dsimp only at hSw
        have hc' := hcell hSw.1 hc
        have c1' := hcell hSw.1 c1
        go_simp
        try with_reducible rfl
      try simp only [Act.put, List.setIfInBounds_toArray, List.set_cons_zero, List.set_cons_succ]
      refine wpAnyH_take (i := 1) (oi := { dst := some 13, op := Op.nilCheck (Operand.tmp 12), type := 0, pos := "ram.go:135", after := _, guard := none }) (v := ?_) rfl (by kernel_rfl) (by kernel_rfl) (by kernel_rfl) (fun _ _ _ h => h) (Or.inl ⟨by rfl, ?_⟩) (by assumption) ?_
      rotate_left
      · intro w' hSw
        try dsimp only at hSw
        go_simp
        try with_reducible rfl
      try simp only [Act.put, List.setIfInBounds_toArray, List.set_cons_zero, List.set_cons_succ]
      refine wpAnyH_take (i := 2) (oi := { dst := some 14, op := Op.fieldAddr 90 (Operand.tmp 13) 1, type := 0, pos := "ram.go:135", after := _, guard := none }) (v := ?_) rfl (by kernel_rfl) (by kernel_rfl) (by kernel_rfl) (fun _ _ _ h => h) (Or.inl ⟨by rfl, ?_⟩) (by assumption) ?_
      rotate_left
      · intro w' hSw
        try dsimp only at hSw
        go_simp
        try with_reducible rfl
      try simp only [Act.put, List.setIfInBounds_toArray, List.set_cons_zero, List.set_cons_succ]
      refine wpAnyH_take (i := 3) (oi := { dst := some 15, op := Op.load 88 (Operand.tmp 14), type := 88, pos := "ram.go:135", after := _, guard := none }) (v := ?_) rfl (by kernel_rfl) (by kernel_rfl) (by kernel_rfl) (fun _ _ _ h => h) (Or.inl ⟨by rfl, ?_⟩) (by assumption) ?_
      rotate_left
      · intro w' hSw
        try dsimp only at hSw
        have hc' := hcell hSw.1 hc
        have c1' := hcell hSw.1 c1
        go_simp
        try with_reducible rfl
      try simp only [Act.put, List.setIfInBounds_toArray, List.set_cons_zero, List.set_cons_succ]
      refine wpAnyH_take (i := 4) (oi := { dst := some 16, op := Op.move (Operand.tmp 3), type := 3, pos := "ram.go:135", after := _, guard := none }) (v := ?_) rfl (by kernel_rfl) (by kernel_rfl) (by kernel_rfl) (fun _ _ _ h => h) (Or.inl ⟨by rfl, ?_⟩) (by assumption) ?_
      rotate_left
      · intro w' hSw
        try dsimp only at hSw
        go_simp
        try with_reducible rfl
      try simp only [Act.put, List.setIfInBounds_toArray, List.set_cons_zero, List.set_cons_succ]
      refine wpAnyH_ready (rs := [5, 10]) (by kernel_rfl) (by simp) ?_
      refine AllReadyH.cons (o := { dst := some 17, op := Op.call { callee := Callee.value (Operand.func 51), args := #[Operand.tmp 16], argTypes := #[3] }, type := 94, pos := "ram.go:135", after := _, guard := none }) rfl (fun K hK => ?_) (AllReadyH.cons (o := { dst := some 4, op := Op.alloc 26, type := 0, pos := "ram.go:135", after := _, guard := none }) rfl (fun K hK => ?_) (AllReadyH.nil))
      · go_simp
        go_at_call 51
        refine (ramof_any j _ hj6).mono ?_
        rintro e w5 ⟨rfl, hb5⟩
        try go_wp2_with fail
        refine hK.out _ _ ?_ (fun hHeld2 => ?_)
        · (try dsimp only)
          exact hHeld.step hb5
        clear hK K hHeld
        have hHeld := hHeld2
        clear hHeld2
        try simp only [Act.put, List.setIfInBounds_toArray, List.set_cons_zero, List.set_cons_succ]
        clear hb5
        have hleB : wr.heap.size ≤ w5.heap.size := hHeld.2
        refine wpAnyH_take (i := 6) (oi := { dst := some 18, op := Op.lookup 88 (Operand.tmp 15) (Operand.tmp 17) true, type := 34, pos := "ram.go:135", after := _, guard := none }) (v := ?_) rfl (by kernel_rfl) (by kernel_rfl) (by kernel_rfl) (fun _ _ _ h => h) (Or.inl ⟨by rfl, ?_⟩) (by assumption) ?_
        rotate_left
        · intro w' hSw
          try dsimp only at hSw
          have lk := mem_look_ok (hRr.2.same (hSw.1.block m hRr.2.lt)) hj6 hq
          go_simp
          try with_reducible rfl
        try simp only [Act.put, List.setIfInBounds_toArray, List.set_cons_zero, List.set_cons_succ]
        refine wpAnyH_take (i := 7) (oi := { dst := some 11, op := Op.move (Operand.tmp 18), type := 34, pos := "ram.go:135", after := _, guard := none }) (v := ?_) rfl (by kernel_rfl) (by kernel_rfl) (by kernel_rfl) (fun _ _ _ h => h) (Or.inl ⟨by rfl, ?_⟩) (by assumption) ?_
        rotate_left
        · intro w' hSw
          try dsimp only at hSw
          go_simp
          try with_reducible rfl
        try simp only [Act.put, List.setIfInBounds_toArray, List.set_cons_zero, List.set_cons_succ]
        refine wpAnyH_take (i := 8) (oi := { dst := some 19, op := Op.extract (Operand.tmp 11) 0, type := 26, pos := "ram.go:135", after := _, guard := none }) (v := ?_) rfl (by kernel_rfl) (by kernel_rfl) (by kernel_rfl) (fun _ _ _ h => h) (Or.inl ⟨by rfl, ?_⟩) (by assumption) ?_
        rotate_left
        · intro w' hSw
          try dsimp only at hSw
          go_simp
          try with_reducible rfl
        try simp only [Act.put, List.setIfInBounds_toArray, List.set_cons_zero, List.set_cons_succ]
        refine wpAnyH_take (i := 9) (oi := { dst := some 20, op := Op.extract (Operand.tmp 11) 1, type := 4, pos := "ram.go:135", after := _, guard := none }) (v := ?_) rfl (by kernel_rfl) (by kernel_rfl) (by kernel_rfl) (fun _ _ _ h => h) (Or.inl ⟨by rfl, ?_⟩) (by assumption) ?_
        rotate_left
        · intro w' hSw
          try dsimp only at hSw
          go_simp
          try with_reducible rfl
        try simp only [Act.put, List.setIfInBounds_toArray, List.set_cons_zero, List.set_cons_succ]
        refine wpAnyH_ready (rs := [10]) (by kernel_rfl) (by simp) ?_
        refine AllReadyH.cons (o := { dst := some 4, op := Op.alloc 26, type := 0, pos := "ram.go:135", after := _, guard := none }) rfl (fun K hK => ?_) AllReadyH.nil
        go_simp
        refine hK.out _ _ ?_ (fun hHeld2 => ?_)
        · (try dsimp only)
          exact hHeld.alloc _
        clear hK K hHeld
        have hHeld := hHeld2
        clear hHeld2
        try simp only [Act.put, List.setIfInBounds_toArray, List.set_cons_zero, List.set_cons_succ]
        have kz := heap_alloc_new w5 (.cells (cellsL fun _ => 0) 26)
        refine wpAnyH_ready (rs := [11]) (by kernel_rfl) (by simp) ?_
        refine AllReadyH.cons (o := { dst := none, op := Op.store 26 (Operand.tmp 4) (Operand.tmp 19), type := 0, pos := "ram.go:135", after := _, guard := none }) rfl (fun K hK => ?_) AllReadyH.nil
        have sA := st_rowL Try.prog kz (g j)
        go_simp
        refine hK.out _ _ ?_ (fun hHeld2 => ?_)
        · (try dsimp only)
          exact hHeld.row (hleB) _
        clear hK K hHeld
        have hHeld := hHeld2
        clear hHeld2
        try simp only [Act.put, List.setIfInBounds_toArray, List.set_cons_zero, List.set_cons_succ]
        refine wpAnyH_take (i := 12) (oi := { dst := some 5, op := Op.assign (Operand.tmp 20), type := 4, pos := "ram.go:135", after := _, guard := none }) (v := ?_) rfl (by kernel_rfl) (by kernel_rfl) (by kernel_rfl) (fun _ _ _ h => h) (Or.inl ⟨by rfl, ?_⟩) (by assumption) ?_
        rotate_left
        · intro w' hSw
          try dsimp only at hSw
          go_simp
          try with_reducible rfl
        try simp only [Act.put, List.setIfInBounds_toArray, List.set_cons_zero, List.set_cons_succ]
        refine wpAnyH_done (by kernel_rfl) ?_ _
        have kz7 := Lib.hid (row_at kz (cellsL (g j)))
        have hF := Lib.hid hHeld
        obtain ⟨wz, hwz⟩ : ∃ wz, wz = (w5.alloc (.cells (cellsL fun _ => 0) 26)).setRow w5.heap.size (cellsL (g j)) := ⟨_, rfl⟩
        rw [← hwz]
        have kz8 : wz.heap[w5.heap.size]? = some (.cells (cellsL (g j)) 26) := by rw [hwz]; exact kz7.out
        have hF8 : Fr wr.heap.size wr wz := by rw [hwz]; exact hF.out
        clear kz sA hHeld kz7 hF hwz
        obtain ⟨cz, hcz⟩ : ∃ cz, cz = w5.heap.size := ⟨_, rfl⟩
        rw [← hcz] at kz8 ⊢
        clear hcz
        have hl8 := ld_rowL (P := Try.prog) kz8
        have Cz := HC.out.keep hF8.1
        have Wz := Lib.hid (HW.out.below hF8.1)
        have Xz := HX.out.keep hF8.1
        clear hF8 kz8 hc c0 c1 cl hRr
        cases q with
        | false =>
          have hno : ¬ (j < L ∧ Value.agg (cellsL (g j)) ≠ zline) := fun h => (by cases hq.2 h.2)
          have E : Hid (CB wz bn bl bf x9 bm c T cap n last mo ∧ Wr3 bn bf w1 wz ∧ n = (someTo L g (j + 1)).length) := ⟨Cz, Wz.out, by rw [someTo_no hno]; exact HN.out⟩
          clear hq Cz Xz
          go_wp2
          exact ⟨⟨j + 1, n, last, by omega, by simp, by omega, hnm, E.out⟩, by simp [intOf]; omega⟩
        | true =>
          have hyes : j < L ∧ Value.agg (cellsL (g j)) ≠ zline := ⟨hlt, hq.1 rfl⟩
          have hz9 : Hid (Value.agg (cellsL (g j)) ≠ zline) := hyes.2
          have hnl : n < 4096 := by have := HN.out; have := someTo_len L g j; omega
          have HN2 : Hid (n + 1 = (someTo L g (j + 1)).length) := by
            show _ = _
            rw [someTo_yes hyes, List.length_append, List.length_singleton, ← HN.out]
          clear hq hyes
          go_wp2_with fail
          refine (some_f bn bl bf x9 bm c L T cap j n last mo g (g j) _ HT (Lib.hid rfl) h1 h2 h3 h4 hcn hL hlt hla hnl (Lib.hid (okg.out j)) hz9 Xz Cz).mono ?_
          rintro e w3 ⟨rfl, C3, W3⟩
          have E : Hid (CB w3 bn bl bf x9 bm c T cap ((n : Int) + 1) j mo ∧ Wr3 bn bf w1 w3) := ⟨C3, Wz.out.trans W3⟩
          clear C3 W3 Cz Xz hl8
          by_cases hm9 : (n : Int) + 1 = mo
          · have d1 : decide ((n : Int) + 1 = mo) = true := by simpa using hm9
            have HM9 := Lib.hid hm9
            clear hm9
            go_wp2_with fail
            refine bodyPost_ret (results_none rfl _ _ _) rfl ?_
            exact ⟨⟨_, rfl⟩, n + 1, j, E.out.1, Or.inr ⟨by have := HM9.out; omega, by omega, by have := HN2.out; have := someTo_mono L g (show j + 1 ≤ L by omega); omega⟩, E.out.2⟩
          · have d1 : decide ((n : Int) + 1 = mo) = false := by simpa using hm9
            have HM9 := Lib.hid hm9
            clear hm9
            go_wp2
            exact ⟨⟨j + 1, n + 1, j, by omega, by simp, by omega, by have := HM9.out; omega, E.out.1, E.out.2, HN2.out⟩, by simp [intOf]; omega⟩
      · go_simp
        refine hK.out _ _ ?_ (fun hHeld2 => ?_)
        · (try dsimp only)
          exact hHeld.alloc _
        clear hK K hHeld
        have hHeld := hHeld2
        clear hHeld2
        try simp only [Act.put, List.setIfInBounds_toArray, List.set_cons_zero, List.set_cons_succ]
        have kz0 : (wr.drew.alloc (.cells (cellsL fun _ => 0) 26)).heap[wr.heap.size]? = some (.cells (cellsL fun _ => 0) 26) := heap_alloc_new wr.drew _
        refine wpAnyH_ready (rs := [5]) (by kernel_rfl) (by simp) ?_
        refine AllReadyH.cons (o := { dst := some 17, op := Op.call { callee := Callee.value (Operand.func 51), args := #[Operand.tmp 16], argTypes := #[3] }, type := 94, pos := "ram.go:135", after := _, guard := none }) rfl (fun K hK => ?_) AllReadyH.nil
        go_simp
        go_at_call 51
        refine (ramof_any j _ hj6).mono ?_
        rintro e w5 ⟨rfl, hb5⟩
        have kz := keepB hb5 kz0
        try go_wp2_with fail
        refine hK.out _ _ ?_ (fun hHeld2 => ?_)
        · (try dsimp only)
          exact hHeld.step hb5
        clear hK K hHeld
        have hHeld := hHeld2
        clear hHeld2
        try simp only [Act.put, List.setIfInBounds_toArray, List.set_cons_zero, List.set_cons_succ]
        clear hb5 kz0
        refine wpAnyH_take (i := 6) (oi := { dst := some 18, op := Op.lookup 88 (Operand.tmp 15) (Operand.tmp 17) true, type := 34, pos := "ram.go:135", after := _, guard := none }) (v := ?_) rfl (by kernel_rfl) (by kernel_rfl) (by kernel_rfl) (fun _ _ _ h => h) (Or.inl ⟨by rfl, ?_⟩) (by assumption) ?_
        rotate_left
        · intro w' hSw
          try dsimp only at hSw
          have lk := mem_look_ok (hRr.2.same (hSw.1.block m hRr.2.lt)) hj6 hq
          go_simp
          try with_reducible rfl
        try simp only [Act.put, List.setIfInBounds_toArray, List.set_cons_zero, List.set_cons_succ]
        refine wpAnyH_take (i := 7) (oi := { dst := some 11, op := Op.move (Operand.tmp 18), type := 34, pos := "ram.go:135", after := _, guard := none }) (v := ?_) rfl (by kernel_rfl) (by kernel_rfl) (by kernel_rfl) (fun _ _ _ h => h) (Or.inl ⟨by rfl, ?_⟩) (by assumption) ?_
        rotate_left
        · intro w' hSw
          try dsimp only at hSw
          go_simp
          try with_reducible rfl
        try simp only [Act.put, List.setIfInBounds_toArray, List.set_cons_zero, List.set_cons_succ]
        refine wpAnyH_take (i := 8) (oi := { dst := some 19, op := Op.extract (Operand.tmp 11) 0, type := 26, pos := "ram.go:135", after := _, guard := none }) (v := ?_) rfl (by kernel_rfl) (by kernel_rfl) (by kernel_rfl) (fun _ _ _ h => h) (Or.inl ⟨by rfl, ?_⟩) (by assumption) ?_
        rotate_left
        · intro w' hSw
          try dsimp only at hSw
          go_simp
          try with_reducible rfl
        try simp only [Act.put, List.setIfInBounds_toArray, List.set_cons_zero, List.set_cons_succ]
        refine wpAnyH_take (i := 9) (oi := { dst := some 20, op := Op.extract (Operand.tmp 11) 1, type := 4, pos := "ram.go:135", after := _, guard := none }) (v := ?_) rfl (by kernel_rfl) (by kernel_rfl) (by kernel_rfl) (fun _ _ _ h => h) (Or.inl ⟨by rfl, ?_⟩) (by assumption) ?_
        rotate_left
        · intro w' hSw
          try dsimp only at hSw
          go_simp
          try with_reducible rfl
        try simp only [Act.put, List.setIfInBounds_toArray, List.set_cons_zero, List.set_cons_succ]
        refine wpAnyH_ready (rs := [11]) (by kernel_rfl) (by simp) ?_
        refine AllReadyH.cons (o := { dst := none, op := Op.store 26 (Operand.tmp 4) (Operand.tmp 19), type := 0, pos := "ram.go:135", after := _, guard := none }) rfl (fun K hK => ?_) AllReadyH.nil
        have sA := st_rowL Try.prog kz (g j)
        go_simp
        refine hK.out _ _ ?_ (fun hHeld2 => ?_)
        · (try dsimp only)
          exact hHeld.row (Nat.le_refl _) _
        clear hK K hHeld
        have hHeld := hHeld2
        clear hHeld2
        try simp only [Act.put, List.setIfInBounds_toArray, List.set_cons_zero, List.set_cons_succ]
        refine wpAnyH_take (i := 12) (oi := { dst := some 5, op := Op.assign (Operand.tmp 20), type := 4, pos := "ram.go:135", after := _, guard := none }) (v := ?_) rfl (by kernel_rfl) (by kernel_rfl) (by kernel_rfl) (fun _ _ _ h => h) (Or.inl ⟨by rfl, ?_⟩) (by assumption) ?_
        rotate_left
        · intro w' hSw
          try dsimp only at hSw
          go_simp
          try with_reducible rfl
        try simp only [Act.put, List.setIfInBounds_toArray, List.set_cons_zero, List.set_cons_succ]
        refine wpAnyH_done (by kernel_rfl) ?_ _
        have kz7 := Lib.hid (row_at kz (cellsL (g j)))
        have hF := Lib.hid hHeld
        obtain ⟨wz, hwz⟩ : ∃ wz, wz = w5.setRow wr.heap.size (cellsL (g j)) := ⟨_, rfl⟩
        rw [← hwz]
        have kz8 : wz.heap[wr.heap.size]? = some (.cells (cellsL (g j)) 26) := by rw [hwz]; exact kz7.out
        have hF8 : Fr wr.heap.size wr wz := by rw [hwz]; exact hF.out
        clear kz sA hHeld kz7 hF hwz
        obtain ⟨cz, hcz⟩ : ∃ cz, cz = wr.heap.size := ⟨_, rfl⟩
        rw [← hcz] at kz8 ⊢
        clear hcz
        have hl8 := ld_rowL (P := Try.prog) kz8
        have Cz := HC.out.keep hF8.1
        have Wz := Lib.hid (HW.out.below hF8.1)
        have Xz := HX.out.keep hF8.1
        clear hF8 kz8 hc c0 c1 cl hRr
        cases q with
        | false =>
          have hno : ¬ (j < L ∧ Value.agg (cellsL (g j)) ≠ zline) := fun h => (by cases hq.2 h.2)
          have E : Hid (CB wz bn bl bf x9 bm c T cap n last mo ∧ Wr3 bn bf w1 wz ∧ n = (someTo L g (j + 1)).length) := ⟨Cz, Wz.out, by rw [someTo_no hno]; exact HN.out⟩
          clear hq Cz Xz
          go_wp2
          exact ⟨⟨j + 1, n, last, by omega, by simp, by omega, hnm, E.out⟩, by simp [intOf]; omega⟩
        | true =>
          have hyes : j < L ∧ Value.agg (cellsL (g j)) ≠ zline := ⟨hlt, hq.1 rfl⟩
          have hz9 : Hid (Value.agg (cellsL (g j)) ≠ zline) := hyes.2
          have hnl : n < 4096 := by have := HN.out; have := someTo_len L g j; omega
          have HN2 : Hid (n + 1 = (someTo L g (j + 1)).length) := by
            show _ = _
            rw [someTo_yes hyes, List.length_append, List.length_singleton, ← HN.out]
          clear hq hyes
          go_wp2_with fail
          refine (some_f bn bl bf x9 bm c L T cap j n last mo g (g j) _ HT (Lib.hid rfl) h1 h2 h3 h4 hcn hL hlt hla hnl (Lib.hid (okg.out j)) hz9 Xz Cz).mono ?_
          rintro e w3 ⟨rfl, C3, W3⟩
          have E : Hid (CB w3 bn bl bf x9 bm c T cap ((n : Int) + 1) j mo ∧ Wr3 bn bf w1 w3) := ⟨C3, Wz.out.trans W3⟩
          clear C3 W3 Cz Xz hl8
          by_cases hm9 : (n : Int) + 1 = mo
          · have d1 : decide ((n : Int) + 1 = mo) = true := by simpa using hm9
            have HM9 := Lib.hid hm9
            clear hm9
            go_wp2_with fail
            refine bodyPost_ret (results_none rfl _ _ _) rfl ?_
            exact ⟨⟨_, rfl⟩, n + 1, j, E.out.1, Or.inr ⟨by have := HM9.out; omega, by omega, by have := HN2.out; have := someTo_mono L g (show j + 1 ≤ L by omega); omega⟩, E.out.2⟩
          · have d1 : decide ((n : Int) + 1 = mo) = false := by simpa using hm9
            have HM9 := Lib.hid hm9
            clear hm9
            go_wp2
            exact ⟨⟨j + 1, n + 1, j, by omega, by simp, by omega, by have := HM9.out; omega, E.out.1, E.out.2, HN2.out⟩, by simp [intOf]; omega⟩
    · obtain rfl : j = L := by omega
      clear hR hBs hRr hBr
      go_wp2
      go_end0
      exact ⟨⟨_, rfl⟩, n, last, HC.out, Or.inl ⟨HN.out, hnm⟩, HW.out⟩
end Go.Proofs.Ytbboaekfhdeolaa
/- RamSome: the walk. -/
namespace Go.Proofs.Ytbboaekfhdeolaa
open Go.RowKit
set_option linter.unusedSimpArgs false
set_option linter.unusedVariables false
attribute [local simp high] sizeLL zeroLL sizeLR zeroLR

theorem eq_zeroR (h : Nat → Nat) (ok : OkL h) (w : World) (q : Bool) (hq : q = true ↔ Value.agg (cellsL h) = zline) : (Op.equalIn 10000 25 (.agg (cellsL h)) (.agg (cellsL fun _ => 0))).run Try.prog w = .ok q w := by
  obtain ⟨r, hr, hi⟩ := eqL_gen (P := Try.prog) Try.underlying25 Try.underlying5 (by kernel_rfl) (by kernel_rfl) (by kernel_rfl) h (fun _ => 0) ok (fun _ => by show 0 < 256; omega) w
  have : r = q := by
    rw [Bool.eq_iff_iff, hi, hq]
    constructor
    · intro H
      unfold zline
      rw [cellsL_ext H]
    · intro H i hi2
      have h1 := cellsL_getD h hi2
      have h2 := cellsL_getD (fun _ => 0) hi2
      unfold zline at H
      rw [Value.agg.injEq] at H
      rw [H, h2] at h1
      simp at h1
      omega
  rw [← this]; exact hr
theorem bdLR (w : World) : (Instr.build 25 #[]).run Try.prog w = .ok (.agg (cellsL fun _ => 0)) w := by
  simp [Instr.build, zeroLR, go_sem]
  rfl
theorem run_equalIn_func_nil (P : Program) (w : World) (d : Nat) (t : TypeId) {ps rs : Array TypeId} {vd : Bool} (h : P.underlying t = some (.func ps rs vd)) (f : Fn) (a c : Array Value) : (Op.equalIn (d + 1) t (.func f a c) .nilFunc).run P w = .ok false w := by
  simp [Op.equalIn, run_underlying h]
theorem some_notnil (w : World) (caps : Array Value) : (binOp BinOp.eql 78 (Value.func (.func 57) #[] caps) Value.nilFunc).run Try.prog w = .ok (.bool false) w := by
  have h : (Op.equal 78 (Value.func (.func 57) #[] caps) Value.nilFunc).run Try.prog w = .ok false w := by
    exact run_equalIn_func_nil Try.prog w 9999 78 Try.underlying78 _ _ _
  simp [binOp, go_sem, h]
theorem ramnew_c {L : Nat} (h : 30 = L) (w : World) : Calls Try.prog 24 #[.int .i64 30] w fun e w' => e = .returned (.tuple #[.pointer (some ⟨w.heap.size + 1, 0, none⟩), .int .i64 0]) ∧ RamAt w' (w.heap.size + 1) w.heap.size 0 L z10 ∧ Below w.heap.size w w' := by
  subst h; exact ramnew_yes 30 w (by omega) (by omega)
theorem rnew_c {L : Nat} (h : 30 = L) (w : World) : Calls Try.prog 32 #[.int .i64 30] w fun e w' => ∃ c, e = .returned (.agg #[.slice (some ⟨c, 0, none⟩) (64 * L) (64 * L)]) ∧ XB w' c (64 * L) (fl z10) ∧ w.heap.size ≤ c ∧ Below w.heap.size w w' := by
  subst h; exact rnew_v 30 w (by omega) (by omega)
/-- What lies between two deeds. -/
def PS (w : World) (b m x9 c bm L cap : Nat) (mo : Int) (k : Nat) (wr : World) : Prop :=
  ∃ g : Nat → Nat → Nat, (∀ i, OkL (g i)) ∧ Supp L g ∧ RamAt wr b m (500 * k) L g ∧ XB wr c (64 * L) (fl g) ∧ wr.heap[x9]? = some (.cells #[.slice (some ⟨c, 0, none⟩) (64 * L) cap] 66) ∧ wr.heap[bm]? = some (.cells #[.int .i64 mo] 3) ∧ Fr w.heap.size w wr
set_option maxRecDepth 100000 in
set_option maxHeartbeats 16000000 in
theorem rsome_any (a : Option Addr) (len cap : Nat) (mo : Int) (w : World) (hl : len ≤ 9223372036854775807) (hD : RDeeds w a len) :
    Calls Try.prog 8 #[.slice a len cap, .int .i64 mo] w fun e w' => e = .returned (.bool true) ∧ Below w.heap.size w w' := by
  have HD := Lib.hid hD
  clear hD
  have F0 := (Fr.refl w).alloc (.cells #[.int .i64 mo] 3)
  have k0 := heap_alloc_new w (.cells #[.int .i64 mo] 3)
  have eq0 := eqLs (fun _ => 0) (fun _ => by show 0 < 256; omega)
  have bd := bdLL
  go_enter Try.func8, Try.ntmps8
  go_wp2_with fail
  refine (nil_load _).mono ?_
  rintro e w1 ⟨rfl, hw⟩
  rw [hw]
  clear hw w1
  go_wp2_with fail
  refine (nil_lines _).mono ?_
  rintro e w1 ⟨rfl, hw⟩
  rw [hw]
  clear hw w1
  go_wp2_with fail
  refine (nil_has _).mono ?_
  rintro e w1 ⟨rfl, hw⟩
  rw [hw]
  clear hw w1
  go_wp2_with fail
  refine (nil_store _).mono ?_
  rintro e w1 ⟨rfl, hw⟩
  rw [hw]
  clear hw w1
  go_wp2_with fail
  refine (nil_line _).mono ?_
  rintro e w1 ⟨rfl, hb⟩
  have F1 := F0.step hb
  have k1 := keepB hb k0
  clear F0 k0 hb
  go_wp2_with fail
  refine (nil_set _).mono ?_
  rintro e w2 ⟨rfl, hb⟩
  have F2 := F1.step hb
  have k2 := keepB hb k1
  clear F1 k1 hb
  go_wp2_with fail
  refine (nil_fill _).mono ?_
  rintro e w3 ⟨rfl, hw⟩
  rw [hw]
  clear hw w3
  go_wp2_with fail
  refine (nil_clone _).mono ?_
  rintro e w3 ⟨rfl, hb⟩
  have F3 := F2.step hb
  have k3 := keepB hb k2
  clear F2 k2 hb
  go_wp2_with fail
  refine (nil_same _).mono ?_
  rintro e w4 ⟨rfl, hb⟩
  have F4 := F3.step hb
  have k4 := keepB hb k3
  clear F3 k3 hb
  go_wp2_with fail
  have DD := Lib.hid (rdeeds_keep HD.out F4.1)
  refine (great_any a len cap _ hl DD.out).mono ?_
  rintro e w5 ⟨q, rfl, hqf, hqt, rfl⟩
  clear hqt
  cases q with
  | true =>
    clear hqf
    go_wp2_with fail
    refine (live10_any _).mono ?_
    rintro e w6 ⟨rfl, hb2⟩
    have F6 := Lib.hid (F4.step hb2)
    go_wp2_with fail
    go_ret
    exact ⟨rfl, F6.out.1⟩
  | false =>
    have hq2 := hqf rfl
    have HFW := Lib.hid (few_back HD.out F4.1 hq2.2)
    clear hqf hq2
    by_cases h2 : 20 < len
    · have d1 : decide ((20 : Int) < len) = true := by simp; omega
      go_wp2_with fail
      refine (live10_any _).mono ?_
      rintro e w6 ⟨rfl, hb2⟩
      have F6 := Lib.hid (F4.step hb2)
      go_wp2_with fail
      go_ret
      exact ⟨rfl, F6.out.1⟩
    · have d1 : decide ((20 : Int) < len) = false := by simp; omega
      obtain ⟨L, hL⟩ : ∃ L : Nat, 30 = L := ⟨_, rfl⟩
      have HL := Lib.hid hL
      clear hL
      go_wp2_with fail
      refine (ramnew_c HL.out _).mono ?_
      rintro e w6 ⟨rfl, hR6, hb6⟩
      have F6 := F4.step hb6
      have k6 := keepB hb6 k4
      have hs5 : w.heap.size < w5.heap.size := lt_of_at k4
      obtain ⟨m, hm⟩ : ∃ m, w5.heap.size = m := ⟨_, rfl⟩
      obtain ⟨b, hb9⟩ : ∃ b, m + 1 = b := ⟨_, rfl⟩
      rw [hm] at hR6 hs5 ⊢
      rw [hb9] at hR6 ⊢
      have HB9 := Lib.hid hb9
      clear hb6 F4 k4 hm hb9 DD
      go_wp2_with fail
      refine (rnew_c HL.out _).mono ?_
      rintro e w7 ⟨c, rfl, hX7, hc7, hb7⟩
      have hmb : b = m + 1 := HB9.out.symm
      have hbc : b < c := Nat.lt_of_lt_of_le (lt_of_at hR6.1) hc7
      have F7 := (F6.step hb7).alloc (.cells #[.slice (some ⟨c, 0, none⟩) (64 * L) (64 * L)] 66)
      have R7 := (hR6.keep hb7).alloc (.cells #[.slice (some ⟨c, 0, none⟩) (64 * L) (64 * L)] 66)
      have X7 := hX7.alloc (.cells #[.slice (some ⟨c, 0, none⟩) (64 * L) (64 * L)] 66)
      have K7 := keep_alloc (keepB hb7 k6) (.cells #[.slice (some ⟨c, 0, none⟩) (64 * L) (64 * L)] 66)
      have kx := heap_alloc_new w7 (.cells #[.slice (some ⟨c, 0, none⟩) (64 * L) (64 * L)] 66)
      have hcx : c < w7.heap.size := hX7.1
      clear F6 hR6 k6 hb7 hX7 hc7
      have HMB := Lib.hid hmb
      clear hmb
      go_wp2_with fail
      obtain ⟨w8, hw8⟩ : ∃ w8, w7.alloc (.cells #[.slice (some ⟨c, 0, none⟩) (64 * L) (64 * L)] 66) = w8 := ⟨_, rfl⟩
      obtain ⟨x9, hx9⟩ : ∃ x9, w7.heap.size = x9 := ⟨_, rfl⟩
      rw [hw8] at F7 R7 X7 K7 kx ⊢
      rw [hx9] at kx hcx ⊢
      clear hw8 hx9
      refine (nil_same1 b _).mono ?_
      rintro e w9 ⟨rfl, hb9⟩
      have F9 := F7.step hb9
      have R9 := R7.keep hb9
      have X9 := X7.keep hb9
      have K9 := keepB hb9 K7
      have kx9 := keepB hb9 kx
      clear F7 R7 X7 K7 kx hb9
      go_wp2_with fail
      refine (nil_same2 b _).mono ?_
      rintro e w10 ⟨rfl, hb9⟩
      have P4 : Hid (PS w b m x9 c w.heap.size L (64 * L) mo 0 w10) := ⟨z10, z10_ok, supp_zero L, R9.keep hb9, X9.keep hb9, keepB hb9 kx9, keepB hb9 K9, F9.step hb9⟩
      clear F9 R9 X9 K9 kx9 hb9
      have HL30 : Hid (L ≤ 30 ∧ 1 ≤ L) := by have := HL.out; exact ⟨by omega, by omega⟩
      have eq0' := Lib.hid eq0
      have bd' := Lib.hid bd
      clear eq0 bd d1
      have hum : w.heap.size < m := hs5
      have hmb : m < b := by have := HMB.out; omega
      clear hs5
      go_wp2_with fail
      go_loopw [11] (fun i wr => ∃ k : Nat, k ≤ len ∧ i = .int .i64 (k : Int) ∧ PS w b m x9 c w.heap.size L (64 * L) mo k wr) (fun i _ => len - (intOf i).toNat)
      case atStart => exact ⟨0, by omega, rfl, P4.out⟩
      case round =>
        clear P4
        obtain ⟨k, hk, rfl, hP⟩ := hrel
        obtain ⟨g, okg, hS, hR, hX, kx, ku, hF⟩ := hP
        by_cases hlt : k < len
        · obtain ⟨ad, kd2, addr2, n2, v2, a2, l2, c2, rfl, had, hd, hb2, hB2⟩ := HD.out k hlt
          have hl2 : l2 ≤ 500 := HFW.out k hlt ad a2 l2 c2 rfl hd.c4
          have hk0 : (0 : Int) ≤ k := by omega
          have hki : (k : Int) < len := by omega
          have R4 := Lib.hid (hR.keep (Fr.refl wr).drew.1)
          have X4 := Lib.hid (hX.keep (Fr.refl wr).drew.1)
          have KX := Lib.hid (keepB (Fr.refl wr).drew.1 kx)
          have KU := Lib.hid (keepB (Fr.refl wr).drew.1 ku)
          have FF := Lib.hid hF.drew
          have BY := Lib.hid (hB2.keep hF.drew.1)
          have NM := Lib.hid (hB2.hb.ne (m := m) (by omega))
          have NC := Lib.hid (hB2.hb.ne (m := c) (by omega))
          have HDD := Lib.hid hd
          have HB2 := Lib.hid hb2
          obtain ⟨g', hg'⟩ : ∃ g', doG g L kd2 addr2 n2 v2 (byteAt wr.drew a2) l2 = g' := ⟨_, rfl⟩
          have OK' : Hid (∀ i, OkL (g' i)) := by rw [← hg']; exact doG_ok okg L kd2 addr2 n2 v2 BY.out.h8
          have S' : Hid (Supp L g') := by rw [← hg']; exact doG_supp hS kd2 addr2 n2 v2 _ l2
          have HG := Lib.hid hg'
          have OKG := Lib.hid okg
          have hcx' : x9 ≠ c := by omega
          have hmx' : x9 ≠ m := by omega
          have huc : w.heap.size ≠ c := by omega
          have hum' : w.heap.size ≠ m := by omega
          have hk9 : 500 * k < 1000000 := by omega
          have hL9 : L ≤ 4096 := by have := HL30.out; omega
          have hmc : m ≠ c := by omega
          have hbc' : b ≠ c := by omega
          have hwm : w.heap.size ≤ m := by omega
          have hwc : w.heap.size ≤ c := by omega
          clear hg' okg hS hR hX ku hF hd hb2 hB2
          have cx : wr.cell? ⟨x9, 0, none⟩ = some (.slice (some ⟨c, 0, none⟩) (64 * L) (64 * L)) := by rw [cell_at kx]; rfl
          clear kx hum hmb hbc hcx
          go_wp2_with fail
          go_region_held3 (fun w' => SD w x9 c (64 * L) (64 * L) ad k kd2 addr2 n2 v2 a2 l2 c2 w' ∧ w'.cell? ⟨x9, 0, none⟩ = some (.slice (some ⟨c, 0, none⟩) (64 * L) (64 * L)) ∧ w'.cell? (ad.add (k * 5)) = some (.int .i64 kd2) ∧ w'.cell? ⟨(ad.add (k * 5)).block, (ad.add (k * 5)).off + 1, none⟩ = some (.int .u64 (addr2 : Int)) ∧ w'.cell? ⟨(ad.add (k * 5)).block, (ad.add (k * 5)).off + 2, none⟩ = some (.int .i64 n2) ∧ w'.cell? ⟨(ad.add (k * 5)).block, (ad.add (k * 5)).off + 3, none⟩ = some (.int .u64 (v2 : Int)) ∧ w'.cell? ⟨(ad.add (k * 5)).block, (ad.add (k * 5)).off + 4, none⟩ = some (.slice a2 l2 c2))
            (first | exact sd_mk HDD.out had FF.out KX.out | exact sd_mk HDD.out had (WA.1 _ _ hwm hwc FF.out) (WA.2 _ _ hmx' hcx' KX.out))
            (first
              | (go_at_call 33; refine (do_any b m (500 * k) L c (64 * L) addr2 v2 l2 c2 kd2 n2 a2 g g' _ _ OKG.out HB2.out.1 HB2.out.2.1 HB2.out.2.2 hL9 hk9 hl2 BY.out.lc BY.out.hb BY.out.h8 NM.out NC.out R4.out X4.out hmc hbc' HG.out).mono ?_; rintro e wa ⟨rfl, hRa, hXa, WA⟩))
          all_goals
            have E : Hid (PS w b m x9 c w.heap.size L (64 * L) mo (k + 1) wa) := ⟨g', OK'.out, S'.out, hRa.mono (by omega), hXa, WA.2 _ _ hmx' hcx' KX.out, WA.2 _ _ hum' huc KU.out, WA.1 _ _ hwm hwc FF.out⟩
            clear hRa hXa WA
            go_wp2
            exact ⟨⟨k + 1, by omega, by go_num, E.out⟩, by simp [intOf]; omega⟩
        · have e : k = len := by omega
          subst e
          have hnl : ¬ ((k : Int) < k) := by omega
          have OKG := Lib.hid okg
          have HS := Lib.hid hS
          clear okg hS
          have nn := fun w caps => some_notnil w caps
          go_wp2_with fail
          refine (some_any _ _).mono ?_
          rintro e w11 ⟨rfl, hw11⟩
          have F11 := hF.alloc (.cells #[.pointer (some ⟨b, 0, none⟩)] 50)
          have R11 := hR.alloc (.cells #[.pointer (some ⟨b, 0, none⟩)] 50)
          have X11 := hX.alloc (.cells #[.pointer (some ⟨b, 0, none⟩)] 50)
          have kx11 := keep_alloc kx (.cells #[.pointer (some ⟨b, 0, none⟩)] 50)
          have ku11 := keep_alloc ku (.cells #[.pointer (some ⟨b, 0, none⟩)] 50)
          have kb11 := heap_alloc_new wr (.cells #[.pointer (some ⟨b, 0, none⟩)] 50)
          have hxw : x9 < wr.heap.size := lt_of_at kx
          rw [← hw11] at F11 R11 X11 kx11 ku11 kb11
          have hs11 : w11.heap.size = wr.heap.size + 1 := by rw [hw11]; simp
          have HS11 := Lib.hid hs11
          clear hw11 hF hR hX kx ku hs11
          go_wp2_with fail
          have F12 := ((F11.alloc (.cells #[.int .i64 0] 3)).alloc (.cells #[.int .i64 (-1)] 3)).alloc (.cells #[.bool true] 4)
          have R12 := ((R11.alloc (.cells #[.int .i64 0] 3)).alloc (.cells #[.int .i64 (-1)] 3)).alloc (.cells #[.bool true] 4)
          have X12 := ((X11.alloc (.cells #[.int .i64 0] 3)).alloc (.cells #[.int .i64 (-1)] 3)).alloc (.cells #[.bool true] 4)
          have kB := keep_alloc (keep_alloc (keep_alloc kb11 (.cells #[.int .i64 0] 3)) (.cells #[.int .i64 (-1)] 3)) (.cells #[.bool true] 4)
          have C12 : CB (((w11.alloc (.cells #[.int .i64 0] 3)).alloc (.cells #[.int .i64 (-1)] 3)).alloc (.cells #[.bool true] 4)) w11.heap.size (w11.heap.size + 1) (w11.heap.size + 1 + 1) x9 w.heap.size c (64 * L) (64 * L) ((0 : Nat) : Int) (-1) mo :=
            ⟨keep_alloc (keep_alloc (heap_alloc_new w11 (.cells #[.int .i64 0] 3)) (.cells #[.int .i64 (-1)] 3)) (.cells #[.bool true] 4), by simpa using heap_alloc_new ((w11.alloc (.cells #[.int .i64 0] 3)).alloc (.cells #[.int .i64 (-1)] 3)) (.cells #[.bool true] 4), keep_alloc (by simpa using heap_alloc_new (w11.alloc (.cells #[.int .i64 0] 3)) (.cells #[.int .i64 (-1)] 3)) (.cells #[.bool true] 4), keep_alloc (keep_alloc (keep_alloc kx11 (.cells #[.int .i64 0] 3)) (.cells #[.int .i64 (-1)] 3)) (.cells #[.bool true] 4), keep_alloc (keep_alloc (keep_alloc ku11 (.cells #[.int .i64 0] 3)) (.cells #[.int .i64 (-1)] 3)) (.cells #[.bool true] 4)⟩
          have hL9 : L ≤ 4096 := by have := HL30.out; omega
          have hsz := HS11.out
          clear F11 R11 X11 kx11 ku11 kb11
          obtain ⟨w12, hw12⟩ : ∃ w12, ((w11.alloc (.cells #[.int .i64 0] 3)).alloc (.cells #[.int .i64 (-1)] 3)).alloc (.cells #[.bool true] 4) = w12 := ⟨_, rfl⟩
          obtain ⟨bn, hbn⟩ : ∃ bn, w11.heap.size = bn := ⟨_, rfl⟩
          rw [hw12] at F12 R12 X12 kB C12 ⊢
          rw [hbn] at C12 hsz ⊢
          obtain ⟨Bs, hBs⟩ : ∃ Bs, wr.heap.size = Bs := ⟨_, rfl⟩
          rw [hBs] at kB hsz hxw ⊢
          have h1 : w.heap.size < x9 := by omega
          have h2 : x9 < bn := by omega
          have h5 : w.heap.size ≤ bn := by omega
          have h6 : c < bn := by omega
          have h7 : b < bn := by omega
          have h8 : m < bn := by omega
          have h9 : Bs < bn := by omega
          clear hw12 hbn hBs hsz hum hmb hbc hcx
          refine (some1_f Bs b m (500 * k) L bn (bn + 1) (bn + 1 + 1) x9 w.heap.size c (64 * L) (64 * L) mo g _ (Lib.hid rfl) OKG hL9 h1 h2 (Nat.lt_succ_self _) (Nat.lt_succ_self _) h6 h7 h8 h9 kB R12 X12 C12).mono ?_
          rintro e w13 ⟨⟨v, rfl⟩, n, last, C13, hfin, W13⟩
          have F13 := W13.1 _ _ h5 F12
          have X13 := X12.wr3 W13 h6
          have HC13 := Lib.hid C13
          have HFIN := Lib.hid hfin
          clear F12 R12 X12 kB C12 W13 C13 hfin hxw
          go_wp2_with fail
          go_loopw [16, 17] (fun u i wr => ∃ j nn : Nat, j ≤ 30 ∧ i = .int .i64 (j : Int) ∧ u = .int .i64 (nn : Int) ∧ nn = (someTo L g j).length ∧ Fr w13.heap.size w13 wr) (fun _ i _ => 30 - (intOf i).toNat)
          case atStart => exact ⟨0, 0, by omega, rfl, rfl, rfl, Fr.refl _⟩
          case round =>
            obtain ⟨j, nn, hj, rfl, rfl, hnn, hF9⟩ := hrel
            have HNN := Lib.hid hnn
            have C9 := HC13.out.keep hF9.1
            have X9 := X13.keep hF9.1
            obtain ⟨y1, y2, y3, y4, y5⟩ := C9.cells
            have hnn3 : nn ≤ 30 := by have := someTo_len L g j; omega
            clear hnn
            by_cases hlt : j < 30
            · have d1 : decide ((j : Int) < 30) = true := by simp; omega
              obtain ⟨q, hq⟩ : ∃ q : Bool, q = true ↔ Value.agg (cellsL (g j)) = zline := by
                by_cases e : Value.agg (cellsL (g j)) = zline
                · exact ⟨true, by simp [e]⟩
                · exact ⟨false, by simp [e]⟩
              have hjL : j < L := by have := HL.out; omega
              have bdr := bdLR
              have eqz := fun w => eq_zeroR (g j) (OKG.out j) w q hq
              have HF9 := Lib.hid hF9
              have HQ : Hid (IffB q (Value.agg (cellsL (g j)) = zline)) := hq
              clear hF9 hq
              go_wp2_with fail
              refine (rline_v rfl _ hjL hL9 X9).mono ?_
              rintro e w14 ⟨rfl, hb⟩
              have E := Lib.hid (HF9.out.step hb)
              clear hb X9 C9 y1 y2 y3 y4 y5
              cases q with
              | true =>
                have hno : ¬ (j < L ∧ Value.agg (cellsL (g j)) ≠ zline) := fun h => h.2 ((iffB HQ.out).1 rfl)
                have HN2 : Hid (nn = (someTo L g (j + 1)).length) := by rw [someTo_no hno]; exact HNN.out
                clear hno
                go_wp2
                exact ⟨⟨j + 1, nn, by omega, by go_num, rfl, HN2.out, E.out⟩, by simp [intOf]; omega⟩
              | false =>
                have hyes : j < L ∧ Value.agg (cellsL (g j)) ≠ zline := ⟨hjL, fun h => (by cases (iffB HQ.out).2 h)⟩
                have HN2 : Hid (nn + 1 = (someTo L g (j + 1)).length) := by
                  show _ = _
                  rw [someTo_yes hyes, List.length_append, List.length_singleton, ← HNN.out]
                clear hyes
                go_wp2
                exact ⟨⟨j + 1, nn + 1, by omega, by go_num, by go_num, HN2.out, E.out⟩, by simp [intOf]; omega⟩
            · have d1 : decide ((j : Int) < 30) = false := by simp; omega
              have hcl : (someTo L g L).length = nn := by
                have e1 : j = L := by have := HL.out; omega
                rw [HNN.out, e1]
              have FE := Lib.hid (F13.step hF9.1)
              rcases HFIN.out with ⟨hn1, hn2⟩ | ⟨hn1, hn2, hn3⟩
              · rw [hcl] at hn1
                subst hn1
                by_cases m0 : 0 < mo
                · have d2 : decide (0 < mo) = true := by simp; omega
                  have d3 : decide (mo < (n : Int)) = false := by simp; omega
                  clear hn2 hcl hF9 X9 C9 m0
                  go_wp2_with fail
                  refine (live10_any _).mono ?_
                  rintro e w14 ⟨rfl, hb⟩
                  have E := Lib.hid (FE.out.step hb)
                  clear hb
                  go_wp2_with fail
                  go_ret
                  exact ⟨rfl, E.out.1⟩
                · have d2 : decide (0 < mo) = false := by simp; omega
                  clear hn2 hcl hF9 X9 C9 m0
                  go_wp2_with fail
                  refine (live10_any _).mono ?_
                  rintro e w14 ⟨rfl, hb⟩
                  have E := Lib.hid (FE.out.step hb)
                  clear hb
                  go_wp2_with fail
                  go_ret
                  exact ⟨rfl, E.out.1⟩
              · rw [hcl] at hn3
                subst hn1
                have d2 : 0 < n := by omega
                by_cases m0 : n < nn
                · clear hn2 hn3 hcl hF9 X9 C9
                  go_wp2_with fail
                  refine (live10_any _).mono ?_
                  rintro e w14 ⟨rfl, hb⟩
                  have E := Lib.hid (FE.out.step hb)
                  clear hb
                  go_wp2_with fail
                  go_ret
                  exact ⟨rfl, E.out.1⟩
                · have e3 : nn = n := by omega
                  subst e3
                  clear hn2 hn3 hcl hF9 X9 C9
                  go_wp2_with fail
                  refine (live10_any _).mono ?_
                  rintro e w14 ⟨rfl, hb⟩
                  have E := Lib.hid (FE.out.step hb)
                  clear hb
                  go_wp2_with fail
                  go_ret
                  exact ⟨rfl, E.out.1⟩
end Go.Proofs.Ytbboaekfhdeolaa
