/- locks' Drop. -/
import Derived.Test.YtdeheoaeagoidaaTwX
namespace Go.Proofs.Ytdeheoaeagoidaa
open Go.RowKit
set_option linter.unusedSimpArgs false
set_option linter.unusedVariables false

theorem eqIn_some (P : Program) (w : World) (d : Nat) (t : TypeId) {e : TypeId} (h : P.underlying t = some (.slice e)) (ad : Addr) (n cap : Nat) : (Op.equalIn (d + 1) t (.slice (some ad) n cap) (.slice none 0 0)).run P w = .ok false w := by
  simp [Op.equalIn, run_underlying h]
theorem eqIn_none (P : Program) (w : World) (d : Nat) (t : TypeId) {e : TypeId} (h : P.underlying t = some (.slice e)) (n cap : Nat) : (Op.equalIn (d + 1) t (.slice none n cap) (.slice none 0 0)).run P w = .ok true w := by
  simp [Op.equalIn, run_underlying h]
theorem eqnil_some (ad : Addr) (n cap : Nat) (w : World) : (binOp BinOp.eql 34 (.slice (some ad) n cap) (.slice none 0 0)).run Try.prog w = .ok (.bool false) w := by
  have h : (Op.equal 34 (.slice (some ad) n cap) (.slice none 0 0)).run Try.prog w = .ok false w := eqIn_some Try.prog w 9999 34 Try.underlying34 ad n cap
  simp [binOp, go_sem, h]
theorem eqnil_none (n cap : Nat) (w : World) : (binOp BinOp.eql 34 (.slice none n cap) (.slice none 0 0)).run Try.prog w = .ok (.bool true) w := by
  have h : (Op.equal 34 (.slice none n cap) (.slice none 0 0)).run Try.prog w = .ok true w := eqIn_none Try.prog w 9999 34 Try.underlying34 n cap
  simp [binOp, go_sem, h]
theorem storeCells_nil (P : Program) (w : World) (a : Addr) : (storeCells a []).run P w = .ok () w := by simp [storeCells]
theorem run_append_none (w : World) (ad : Option Addr) (xa : Addr) (xc : Nat) (ty : TypeId) :
    (Builtin.append_ #[34, 34] ty #[.slice ad 0 0, .slice (some xa) 0 xc]).run Try.prog w = .ok (.slice ad 0 0) w := by
  obtain ⟨i, hi, hz0, hz1, hz2⟩ := info_parts infoInt
  have hk := Try.underlying34
  have hs : Src Try.prog i.size 34 (.slice (some xa) 0 xc) 0 [] w := Src.ofSlice w hk xa 0 xc [] (by simp) (fun j u hu => by simp at hu) (fun u hu => by cases hu)
  have hc := hs.cells
  cases ad with
  | none => simp [Builtin.append_, run_underlying hk, sizeOf, typeInfo, hi, Builtin.lenOf, hc]
  | some a => simp [Builtin.append_, run_underlying hk, sizeOf, typeInfo, hi, Builtin.lenOf, hc, storeCells_nil]
set_option maxRecDepth 100000 in
set_option maxHeartbeats 4000000 in
theorem clone0 (a : Addr) (c : Nat) (w : World) :
    Calls Try.prog 15 #[.slice (some a) 0 c] w fun e w' => (∃ ao, e = .returned (.slice ao 0 0)) ∧ Below w.heap.size w w' := by
  have e1 := eqnil_some
  have ra := run_append_none
  go_enter Try.func15, Try.ntmps15
  go_wp2_with fail
  go_ret
  exact ⟨⟨_, rfl⟩, ((Fr.refl w).alloc _).1⟩
set_option maxRecDepth 100000 in
set_option maxHeartbeats 4000000 in
theorem drop_none (B b m n who at_ : Nat) (f : Nat → Option Nat) (w : World) (H : LocksAt w B b m n f) (hw : who < 2) (ha : at_ < 2) (hf : f at_ = none) :
    Calls Try.prog 22 #[.pointer (some ⟨b, 0, none⟩), .int .i64 (who : Int), .int .i64 (at_ : Int)] w fun e w' => (∃ q, e = .returned (.bool q)) ∧ w' = w := by
  have c1 : w.cell? ⟨b, 1, none⟩ = some (.map (some m)) := by rw [cell_at H.2.1]; rfl
  have lk := H.2.2.1.look ha
  rw [hf] at lk
  have lk' : (Instr.lookup 69 (.map (some m)) (.int .i64 (at_ : Int)) false).run Try.prog w = .ok (.pointer none) w := lk
  have HT := Lib.hid (there_any b m who at_ w H.2.1 hw ha)
  clear lk
  go_enter Try.func22, Try.ntmps22
  go_wp2_with fail
  refine HT.out.mono ?_
  rintro e w1 ⟨rfl, rfl⟩
  go_wp2_with fail
  go_ret
  exact ⟨⟨_, rfl⟩, rfl⟩
set_option maxRecDepth 100000 in
set_option maxHeartbeats 4000000 in
theorem drop_other (B b m n x h who at_ : Nat) (qv : Value) (f : Nat → Option Nat) (w : World) (H : LocksAt w B b m n f) (hw : who < 2) (ha : at_ < 2) (hne0 : h ≠ who) (hf : f at_ = some x) (hx : w.heap[x]? = some (.cells #[.int .i64 (h : Int), qv] 102)) :
    Calls Try.prog 22 #[.pointer (some ⟨b, 0, none⟩), .int .i64 (who : Int), .int .i64 (at_ : Int)] w fun e w' => (∃ q, e = .returned (.bool q)) ∧ w' = w := by
  have c1 : w.cell? ⟨b, 1, none⟩ = some (.map (some m)) := by rw [cell_at H.2.1]; rfl
  have lk := H.2.2.1.look ha
  rw [hf] at lk
  have lk' : (Instr.lookup 69 (.map (some m)) (.int .i64 (at_ : Int)) false).run Try.prog w = .ok (.pointer (some ⟨x, 0, none⟩)) w := lk
  have x0 : w.cell? ⟨x, 0, none⟩ = some (.int .i64 (h : Int)) := by rw [cell_at hx]; rfl
  have hne : ((h : Int) != (who : Int)) = true := by simp; omega
  have hne' : (h != who) = true := by simp; omega
  have HT := Lib.hid (there_any b m who at_ w H.2.1 hw ha)
  clear lk hne0
  go_enter Try.func22, Try.ntmps22
  go_wp2_with fail
  refine HT.out.mono ?_
  rintro e w1 ⟨rfl, rfl⟩
  go_wp2_with fail
  go_ret
  exact ⟨⟨_, rfl⟩, rfl⟩
set_option maxRecDepth 100000 in
set_option maxHeartbeats 4000000 in
theorem drop_del (B b m n x who at_ : Nat) (ao : Option Addr) (f : Nat → Option Nat) (w : World) (H : LocksAt w B b m n f) (hw : who < 2) (ha : at_ < 2) (hf : f at_ = some x) (hx : w.heap[x]? = some (.cells #[.int .i64 (who : Int), .slice ao 0 0] 102)) :
    Calls Try.prog 22 #[.pointer (some ⟨b, 0, none⟩), .int .i64 (who : Int), .int .i64 (at_ : Int)] w fun e w' => (∃ q, e = .returned (.bool q)) ∧ (∃ f', LocksAt w' B b m n f') ∧ KL m B w w' := by
  have c1 : w.cell? ⟨b, 1, none⟩ = some (.map (some m)) := by rw [cell_at H.2.1]; rfl
  have lk := H.2.2.1.look ha
  rw [hf] at lk
  have lk' : (Instr.lookup 69 (.map (some m)) (.int .i64 (at_ : Int)) false).run Try.prog w = .ok (.pointer (some ⟨x, 0, none⟩)) w := lk
  have x0 : w.cell? ⟨x, 0, none⟩ = some (.int .i64 (who : Int)) := by rw [cell_at hx]; rfl
  have x1 : w.cell? ⟨x, 1, none⟩ = some (.slice ao 0 0) := by rw [cell_at hx]; rfl
  obtain ⟨w2, hr, M2, W2⟩ := H.2.2.1.drop ha 0
  obtain ⟨hbl, hml, hBm⟩ := H.lts
  obtain ⟨es, ce, hes⟩ := H.2.2.1.map
  have HE : Hid ((∃ f', LocksAt w2 B b m n f') ∧ KL m B w w2) := Lib.hid (by
    have hbm : b ≠ m := by intro e; rw [e] at H; rw [H.2.1] at hes; cases hes
    refine ⟨⟨_, H.1, W2.2 _ _ hbm H.2.1, M2, fun i hi y hy => ?_, fun y hy hy1 => ?_⟩, (KL.refl m B w).wrote W2 hBm⟩
    · by_cases e : i = at_
      · simp only [if_pos e] at hy; cases hy
      · simp only [if_neg e] at hy
        refine ⟨(H.2.2.2.1 i hi y hy).1, (H.2.2.2.1 i hi y hy).2.keep (fun z c hz => W2.2 _ _ (fun e2 => by subst e2; rw [hes] at hz; cases hz) hz) (fun o ho => W2.2 _ _ (fun e2 => ?_) ho)⟩
        obtain ⟨cx, hcx⟩ := (H.2.2.2.1 i hi y hy).2.cells
        rw [e2, hes] at hcx; cases hcx
    · rcases lk_lt2 ha with rfl | rfl
      · simp at hy
      · simp at hy1)
  have HT := Lib.hid (there_any b m who at_ w H.2.1 hw ha)
  clear lk M2 W2 hes
  go_enter Try.func22, Try.ntmps22
  go_wp2_with fail
  refine HT.out.mono ?_
  rintro e w1 ⟨rfl, rfl⟩
  go_wp2_with fail
  go_ret
  exact ⟨⟨_, rfl⟩, HE.out.1, HE.out.2⟩
/-- One lock is written. -/
theorem LocksAt.relay {w w' : World} {B b m n x at_ : Nat} {f : Nat → Option Nat} (H : LocksAt w B b m n f) (ha : at_ < 2) (hf : f at_ = some x) (W : Wrote x w w') (hl : LkAt w' x) : LocksAt w' B b m n f ∧ KL m B w w' := by
  obtain ⟨c, hx⟩ := (H.2.2.2.1 at_ ha x hf).2.cells
  have hB := (H.2.2.2.1 at_ ha x hf).1
  obtain ⟨es, ce, hes⟩ := H.2.2.1.map
  have hxm : x ≠ m := by intro e; rw [e] at hx; rw [hx] at hes; cases hes
  have hxb : x ≠ b := by intro e; have := H.2.1; rw [e] at hx; rw [hx] at this; cases this
  refine ⟨⟨H.1, W.2 _ _ (Ne.symm hxb) H.2.1, H.2.2.1.same ((W.2 _ _ (Ne.symm hxm) hes).trans hes.symm), fun i hi y hy => ⟨(H.2.2.2.1 i hi y hy).1, ?_⟩, H.2.2.2.2⟩, (KL.refl m B w).lock W hB hx⟩
  by_cases e : y = x
  · rw [e]; exact hl
  · exact (H.2.2.2.1 i hi y hy).2.keep (fun z c hz => W.2 _ _ (fun e2 => by subst e2; rw [hx] at hz; cases hz) hz) (fun o ho => W.2 _ _ e ho)
set_option maxRecDepth 100000 in
set_option maxHeartbeats 4000000 in
theorem drop_next (B b m n x who g cap Bq at_ : Nat) (f : Nat → Option Nat) (w : World) (H : LocksAt w B b m n f) (hw : who < 2) (ha : at_ < 2) (hf : f at_ = some x) (hx : w.heap[x]? = some (.cells #[.int .i64 (who : Int), .slice (some ⟨g, 0, none⟩) 1 cap] 102)) (ho : w.ownsRow Bq 3 1 (.slice (some ⟨g, 0, none⟩) 1 cap) 1 [.int .i64 ((1 - who : Nat) : Int)]) (hcap : cap = 1 ∨ 1 < cap) :
    Calls Try.prog 22 #[.pointer (some ⟨b, 0, none⟩), .int .i64 (who : Int), .int .i64 (at_ : Int)] w fun e w' => (∃ q, e = .returned (.bool q)) ∧ (∃ f', LocksAt w' B b m n f') ∧ KL m B w w' := by
  have c1 : w.cell? ⟨b, 1, none⟩ = some (.map (some m)) := by rw [cell_at H.2.1]; rfl
  have lk := H.2.2.1.look ha
  rw [hf] at lk
  have lk' : (Instr.lookup 69 (.map (some m)) (.int .i64 (at_ : Int)) false).run Try.prog w = .ok (.pointer (some ⟨x, 0, none⟩)) w := lk
  have x0 : w.cell? ⟨x, 0, none⟩ = some (.int .i64 (who : Int)) := by rw [cell_at hx]; rfl
  have x1 : w.cell? ⟨x, 1, none⟩ = some (.slice (some ⟨g, 0, none⟩) 1 cap) := by rw [cell_at hx]; rfl
  have g0 : w.cell? ⟨g, 0, none⟩ = some (.int .i64 ((1 - who : Nat) : Int)) := own_cell ho rfl
  have xf : ∀ o, w.frozen? ⟨x, o, none⟩ = false := fun o => by simp [World.frozen?, hx]
  have hgx : g ≠ x := by
    obtain ⟨cur, hc, _⟩ := own_block ho (by omega)
    intro e; rw [e] at hc; rw [hx] at hc; cases hc
  obtain ⟨ot, hot⟩ : ∃ ot, 1 - who = ot := ⟨_, rfl⟩
  rw [hot] at g0
  have HT := Lib.hid (there_any b m who at_ w H.2.1 hw ha)
  have HO := Lib.hid ho
  have HX := Lib.hid hx
  have HW := Lib.hid hot
  clear lk ho hx hot
  rcases hcap with rfl | hcap
  · go_enter Try.func22, Try.ntmps22
    go_wp2_with fail
    refine HT.out.mono ?_
    rintro e w1 ⟨rfl, rfl⟩
    go_wp2_with fail
    refine (clone0 _ _ _).mono ?_
    rintro e w2 ⟨⟨ao, rfl⟩, hb2⟩
    have W1 := (Wrote.refl x w1).setCell 0 (.int .i64 (ot : Int))
    have k1 : (w1.setCell ⟨x, 0, none⟩ (.int .i64 (ot : Int))).heap[x]? = some (.cells #[.int .i64 (ot : Int), .slice (some ⟨g, 0, none⟩) 1 1] 102) := set_at HX.out 0 _
    have k2 := keepB hb2 k1
    have W2 := W1.below hb2
    have W3 := W2.setCell 1 (.slice ao 0 0)
    have k3 : (w2.setCell ⟨x, 1, none⟩ (.slice ao 0 0)).heap[x]? = some (.cells #[.int .i64 (ot : Int), .slice ao 0 0] 102) := set_at k2 1 _
    have HE := Lib.hid (LocksAt.relay H ha hf W3 ⟨ot, _, (by have := HW.out; omega), k3, .inl ⟨ao, rfl⟩⟩)
    have y1 : w2.cell? ⟨x, 1, none⟩ = some (.slice (some ⟨g, 0, none⟩) 1 1) := by rw [cell_at k2]; rfl
    have yf : w2.frozen? ⟨x, 1, none⟩ = false := by simp [World.frozen?, k2]
    clear W1 k1 k2 W2 W3 k3 hb2 x0 x1 xf g0
    go_wp2_with fail
    go_ret
    exact ⟨⟨_, rfl⟩, ⟨f, HE.out.1⟩, HE.out.2⟩
  · have hc1 : (1 : Int) < cap := by omega
    have hc2 : cap ≠ 1 := by omega
    go_enter Try.func22, Try.ntmps22
    go_wp2_with fail
    refine HT.out.mono ?_
    rintro e w1 ⟨rfl, rfl⟩
    go_wp2_with fail
    refine (clone0 _ _ _).mono ?_
    rintro e w2 ⟨⟨ao, rfl⟩, hb2⟩
    have W1 := (Wrote.refl x w1).setCell 0 (.int .i64 (ot : Int))
    have k1 : (w1.setCell ⟨x, 0, none⟩ (.int .i64 (ot : Int))).heap[x]? = some (.cells #[.int .i64 (ot : Int), .slice (some ⟨g, 0, none⟩) 1 cap] 102) := set_at HX.out 0 _
    have k2 := keepB hb2 k1
    have W2 := W1.below hb2
    have W3 := W2.setCell 1 (.slice ao 0 0)
    have k3 : (w2.setCell ⟨x, 1, none⟩ (.slice ao 0 0)).heap[x]? = some (.cells #[.int .i64 (ot : Int), .slice ao 0 0] 102) := set_at k2 1 _
    have HE := Lib.hid (LocksAt.relay H ha hf W3 ⟨ot, _, (by have := HW.out; omega), k3, .inl ⟨ao, rfl⟩⟩)
    have y1 : w2.cell? ⟨x, 1, none⟩ = some (.slice (some ⟨g, 0, none⟩) 1 cap) := by rw [cell_at k2]; rfl
    have yf : w2.frozen? ⟨x, 1, none⟩ = false := by simp [World.frozen?, k2]
    clear W1 k1 k2 W2 W3 k3 hb2 x0 x1 xf g0
    go_wp2_with fail
    go_ret
    exact ⟨⟨_, rfl⟩, ⟨f, HE.out.1⟩, HE.out.2⟩
theorem drop_any (B b m n who at_ : Nat) (f : Nat → Option Nat) (w : World) (H : LocksAt w B b m n f) (hw : who < 2) (ha : at_ < 2) :
    Calls Try.prog 22 #[.pointer (some ⟨b, 0, none⟩), .int .i64 (who : Int), .int .i64 (at_ : Int)] w fun e w' => (∃ q, e = .returned (.bool q)) ∧ (∃ f', LocksAt w' B b m n f') ∧ KL m B w w' := by
  have same : ∀ (e : Ending) (w' : World), ((∃ q, e = .returned (.bool q)) ∧ w' = w) → (∃ q, e = .returned (.bool q)) ∧ (∃ f', LocksAt w' B b m n f') ∧ KL m B w w' := fun e w' ⟨h1, h2⟩ => by
    subst h2
    exact ⟨h1, ⟨f, H⟩, KL.refl _ _ _⟩
  cases hf : f at_ with
  | none => exact (drop_none B b m n who at_ f w H hw ha hf).mono same
  | some x =>
    obtain ⟨h, qv, hh, hx, hq⟩ := (H.2.2.2.1 at_ ha x hf).2
    by_cases e : h = who
    · subst e
      rcases hq with ⟨ao, rfl⟩ | ⟨g, cap, Bq, rfl, ho⟩
      · exact drop_del B b m n x h at_ ao f w H hw ha hf hx
      · have hc : cap = 1 ∨ 1 < cap := by obtain ⟨cur, _, hc, _⟩ := own_block ho (by omega); omega
        exact drop_next B b m n x h g cap Bq at_ f w H hw ha hf hx ho hc
    · exact (drop_other B b m n x h who at_ qv f w H hw ha e hf hx).mono same
end Go.Proofs.Ytdeheoaeagoidaa
