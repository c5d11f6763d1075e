/- locks' Take. -/
import Derived.Test.YtdeheoaeagoidaaTwW
namespace Go.Proofs.Ytdeheoaeagoidaa
open Go.RowKit
set_option linter.unusedSimpArgs false
set_option linter.unusedVariables false

theorem lk_lt2 {i : Nat} (h : i < 2) : i = 0 ∨ i = 1 := by omega
/-- One lock is laid anew. -/
theorem LocksAt.set {w w1 : World} {B b m n x at_ : Nat} {f : Nat → Option Nat} (H : LocksAt w B b m n f) (hat : at_ < 2) (h1 : w1.heap[b]? = some (.cells #[.int .i64 2, .map (some m)] 71)) (h2 : LMap w1 m (n + 1) (fun j => if j = at_ then some x else f j)) (hx : B ≤ x) (hl : LkAt w1 x) (hk : KInt w w1) (ho : ∀ y, y ≠ x → (∃ i, i < 2 ∧ f i = some y) → ∀ o, w.heap[y]? = some o → w1.heap[y]? = some o) (hfr : ∀ i, i < 2 → f i ≠ some x) : LocksAt w1 B b m (n + 1) (fun j => if j = at_ then some x else f j) := by
  obtain ⟨a0, a1, a2, a3, a4⟩ := H
  refine ⟨a0, h1, h2, fun i hi y hy => ?_, fun y hy => ?_⟩
  · by_cases e : i = at_
    · subst e
      simp only [if_pos] at hy
      cases hy
      exact ⟨hx, hl⟩
    · simp only [if_neg e] at hy
      have hne : y ≠ x := fun e2 => hfr i hi (by rw [hy, e2])
      exact ⟨(a3 i hi y hy).1, (a3 i hi y hy).2.keep hk (ho y hne ⟨i, hi, hy⟩)⟩
  · intro hy1
    rcases lk_lt2 hat with rfl | rfl
    · simp at hy hy1
      subst hy
      exact hfr 1 (by omega) hy1
    · simp at hy hy1
      subst hy1
      exact hfr 0 (by omega) hy
set_option maxRecDepth 100000 in
set_option maxHeartbeats 4000000 in
theorem take_none (B b m n who at_ : Nat) (f : Nat → Option Nat) (w : World) (H : LocksAt w B b m n f) (hw : who < 2) (ha : at_ < 2) (hn : n < 1000000) (hf : f at_ = none) :
    Calls Try.prog 21 #[.pointer (some ⟨b, 0, none⟩), .int .i64 (who : Int), .int .i64 (at_ : Int)] w fun e w' => (∃ q, e = .returned (.bool q)) ∧ (∃ f', LocksAt w' B b m (n + 1) f') ∧ KL m B w w' := by
  have c1 : w.cell? ⟨b, 1, none⟩ = some (.map (some m)) := by rw [cell_at H.2.1]; rfl
  have lk := H.2.2.1.look ha
  rw [hf] at lk
  have lk' : (Instr.lookup 69 (.map (some m)) (.int .i64 (at_ : Int)) false).run Try.prog w = .ok (.pointer none) w := lk
  obtain ⟨hbl, hml, hBm⟩ := H.lts
  have al := (Fr.refl w).alloc (.cells #[.int .i64 (who : Int), .slice none 0 0] 102)
  have H1 := H.keep al.1
  have kx := heap_alloc_new w (.cells #[.int .i64 (who : Int), .slice none 0 0] 102)
  obtain ⟨w2, hr, M2, W2⟩ := H1.2.2.1.put (by unfold maxLen; omega) ha w.heap.size
  have HE : Hid (LocksAt w2 B b m (n + 1) (fun j => if j = at_ then some w.heap.size else f j) ∧ KL m B w w2) := Lib.hid (by
    have hbm : b ≠ m := by
      obtain ⟨es, c, hes⟩ := H.2.2.1.map
      intro e; rw [e] at H; rw [H.2.1] at hes; cases hes
    refine ⟨LocksAt.set H ha (W2.2 _ _ hbm H1.2.1) M2 (by omega) ?_ ?_ ?_ ?_, ((KL.refl m B w).below al.1).wrote W2 hBm⟩
    · exact ⟨who, .slice none 0 0, hw, W2.2 _ _ (by omega) kx, .inl ⟨none, rfl⟩⟩
    · intro y c hy
      refine W2.2 _ _ ?_ (keepB al.1 hy)
      obtain ⟨es, c, hes⟩ := H.2.2.1.map
      intro e; rw [e] at hy; rw [hy] at hes; cases hes
    · intro y hne ⟨i, hi, hy⟩ o ho
      refine W2.2 _ _ ?_ (keepB al.1 ho)
      obtain ⟨cx, hcx⟩ := (H.2.2.2.1 i hi y hy).2.cells
      obtain ⟨es, c, hes⟩ := H.2.2.1.map
      intro e; rw [e] at hcx; rw [hcx] at hes; cases hes
    · intro i hi e
      obtain ⟨cx, hcx⟩ := (H.2.2.2.1 i hi _ e).2.cells
      have := lt_of_at hcx
      omega)
  have HT := Lib.hid (there_any b m who at_ w H.2.1 hw ha)
  clear lk M2 W2 kx H1 al
  go_enter Try.func21, Try.ntmps21
  go_wp2_with fail
  refine HT.out.mono ?_
  rintro e w1 ⟨rfl, rfl⟩
  go_wp2_with fail
  go_ret
  exact ⟨⟨_, rfl⟩, ⟨_, HE.out.1⟩, HE.out.2⟩
theorem contains1 (g cap B : Nat) (x : Nat) (w : World) (hx : x < 2) (h : w.ownsRow B 3 1 (.slice (some ⟨g, 0, none⟩) 1 cap) 1 [.int .i64 ((x : Nat) : Int)]) :
    Calls Try.prog 38 #[.slice (some ⟨g, 0, none⟩) 1 cap, .int .i64 (x : Int)] w fun e w' => e = .returned (.bool true) ∧ w' = w := by
  refine (Try.slices_Contains_int g 0 1 cap [(x : Int)] (x : Int) w (by simp) (by omega) (fun j hj => ?_)).mono ?_
  · have hj2 : j = 0 := by simp at hj; omega
    subst hj2
    exact own_cell h (j := 0) rfl
  · rintro e w' ⟨rfl, rfl⟩
    exact ⟨by simp, rfl⟩
set_option maxRecDepth 100000 in
set_option maxHeartbeats 4000000 in
theorem take_same (B b m n x who at_ : Nat) (qv : Value) (f : Nat → Option Nat) (w : World) (H : LocksAt w B b m n f) (hw : who < 2) (ha : at_ < 2) (hf : f at_ = some x) (hx : w.heap[x]? = some (.cells #[.int .i64 (who : Int), qv] 102)) :
    Calls Try.prog 21 #[.pointer (some ⟨b, 0, none⟩), .int .i64 (who : Int), .int .i64 (at_ : Int)] w fun e w' => (∃ q, e = .returned (.bool q)) ∧ w' = w := by
  have c1 : w.cell? ⟨b, 1, none⟩ = some (.map (some m)) := by rw [cell_at H.2.1]; rfl
  have lk := H.2.2.1.look ha
  rw [hf] at lk
  have lk' : (Instr.lookup 69 (.map (some m)) (.int .i64 (at_ : Int)) false).run Try.prog w = .ok (.pointer (some ⟨x, 0, none⟩)) w := lk
  have x0 : w.cell? ⟨x, 0, none⟩ = some (.int .i64 (who : Int)) := by rw [cell_at hx]; rfl
  have HT := Lib.hid (there_any b m who at_ w H.2.1 hw ha)
  clear lk
  go_enter Try.func21, Try.ntmps21
  go_wp2_with fail
  refine HT.out.mono ?_
  rintro e w1 ⟨rfl, rfl⟩
  go_wp2_with fail
  go_ret
  exact ⟨⟨_, rfl⟩, rfl⟩
set_option maxRecDepth 100000 in
set_option maxHeartbeats 4000000 in
theorem take_in (B b m n x h g cap Bq at_ : Nat) (f : Nat → Option Nat) (w : World) (H : LocksAt w B b m n f) (hh : h < 2) (ha : at_ < 2) (hf : f at_ = some x) (hx : w.heap[x]? = some (.cells #[.int .i64 (h : Int), .slice (some ⟨g, 0, none⟩) 1 cap] 102)) (ho : w.ownsRow Bq 3 1 (.slice (some ⟨g, 0, none⟩) 1 cap) 1 [.int .i64 ((1 - h : Nat) : Int)]) :
    Calls Try.prog 21 #[.pointer (some ⟨b, 0, none⟩), .int .i64 ((1 - h : Nat) : Int), .int .i64 (at_ : Int)] w fun e w' => (∃ q, e = .returned (.bool q)) ∧ w' = w := by
  have c1 : w.cell? ⟨b, 1, none⟩ = some (.map (some m)) := by rw [cell_at H.2.1]; rfl
  have lk := H.2.2.1.look ha
  rw [hf] at lk
  have lk' : (Instr.lookup 69 (.map (some m)) (.int .i64 (at_ : Int)) false).run Try.prog w = .ok (.pointer (some ⟨x, 0, none⟩)) w := lk
  have x0 : w.cell? ⟨x, 0, none⟩ = some (.int .i64 (h : Int)) := by rw [cell_at hx]; rfl
  have x1 : w.cell? ⟨x, 1, none⟩ = some (.slice (some ⟨g, 0, none⟩) 1 cap) := by rw [cell_at hx]; rfl
  obtain ⟨who, hwho⟩ : ∃ who, 1 - h = who := ⟨_, rfl⟩
  rw [hwho] at ho ⊢
  have hne : ((h : Int) == (who : Int)) = false := by simp; omega
  have hne' : (h == who) = false := by simp; omega
  have HT := Lib.hid (there_any b m who at_ w H.2.1 (by omega) ha)
  have HC := Lib.hid (contains1 g cap Bq who w (by omega) ho)
  clear lk hwho ho
  go_enter Try.func21, Try.ntmps21
  go_wp2_with fail
  refine HT.out.mono ?_
  rintro e w1 ⟨rfl, rfl⟩
  go_wp2_with fail
  refine HC.out.mono ?_
  rintro e w1 ⟨rfl, rfl⟩
  go_wp2_with fail
  go_ret
  exact ⟨⟨_, rfl⟩, rfl⟩
set_option maxRecDepth 100000 in
set_option maxHeartbeats 4000000 in
theorem take_app (B b m n x h at_ : Nat) (ao : Option Addr) (f : Nat → Option Nat) (w : World) (H : LocksAt w B b m n f) (hh : h < 2) (ha : at_ < 2) (hf : f at_ = some x) (hx : w.heap[x]? = some (.cells #[.int .i64 (h : Int), .slice ao 0 0] 102)) :
    Calls Try.prog 21 #[.pointer (some ⟨b, 0, none⟩), .int .i64 ((1 - h : Nat) : Int), .int .i64 (at_ : Int)] w fun e w' => (∃ q, e = .returned (.bool q)) ∧ (∃ f', LocksAt w' B b m (n + 1) f') ∧ KL m B w w' := by
  obtain ⟨i0, hi, hz0, hzz1, hz2⟩ := info_parts infoInt
  have c1 : w.cell? ⟨b, 1, none⟩ = some (.map (some m)) := by rw [cell_at H.2.1]; rfl
  have lk := H.2.2.1.look ha
  rw [hf] at lk
  have lk' : (Instr.lookup 69 (.map (some m)) (.int .i64 (at_ : Int)) false).run Try.prog w = .ok (.pointer (some ⟨x, 0, none⟩)) w := lk
  have x0 : w.cell? ⟨x, 0, none⟩ = some (.int .i64 (h : Int)) := by rw [cell_at hx]; rfl
  have x1 : w.cell? ⟨x, 1, none⟩ = some (.slice ao 0 0) := by rw [cell_at hx]; rfl
  have xl := lt_of_at hx
  obtain ⟨who, hwho⟩ : ∃ who, 1 - h = who := ⟨_, rfl⟩
  rw [hwho]
  have hne : ((h : Int) == (who : Int)) = false := by simp; omega
  have hne' : (h == who) = false := by simp; omega
  have HT := Lib.hid (there_any b m who at_ w H.2.1 (by omega) ha)
  have HC := Lib.hid (Try.slices_Contains_int_empty ao 0 (who : Int) w)
  have HW := Lib.hid hwho
  have HX := Lib.hid hx
  have HH := Lib.hid H
  have HF := Lib.hid hf
  clear lk hwho hx H hf
  go_enter Try.func21, Try.ntmps21
  go_wp2_with fail
  refine HT.out.mono ?_
  rintro e w1 ⟨rfl, rfl⟩
  go_wp2_with fail
  refine HC.out.mono ?_
  rintro e w1 ⟨rfl, rfl⟩
  go_wp2_with (at_builtin; refine Classical.byContradiction fun hdbg => ?_)
  apply hdbg
  clear hdbg
  refine wpList_append_grows _ rfl _ _ 34 rfl 3 i0 (.int .i64 0) 1 8 Try.underlying34 hi hz0 hzz1 hz2 rfl (by decide) ao 0 0 [] rfl (fun _ => ⟨rfl, rfl⟩) rfl (fun b _ j u hu => by simp at hu) ⟨w1.heap.size, 0, none⟩ 1 1 [.int .i64 (who : Int)] rfl rfl (World.news_of_block (heap_alloc_new _ _)) (one_int01 _) (by omega) (by unfold maxLen; omega) (by omega) ?_
  intro v' w2 hown hgrow
  obtain ⟨g, cap, rfl, hg1, hg2⟩ := hown.form (by omega)
  have hb2 : Below w1.heap.size w1 w2 := (((Fr.refl w1).alloc (.cells #[.int .i64 (who : Int)] 3)).step (grown_below hgrow (fun k hk => by cases hk) (Nat.le_refl _))).1
  have kx := keepB hb2 HX.out
  have H2 := HH.out.keep hb2
  have W3 := (Wrote.refl x w2).setCell 1 (.slice (some ⟨g, 0, none⟩) 1 cap)
  have kx3 : (w2.setCell ⟨x, 1, none⟩ (.slice (some ⟨g, 0, none⟩) 1 cap)).heap[x]? = some (.cells #[.int .i64 (h : Int), .slice (some ⟨g, 0, none⟩) 1 cap] 102) := set_at kx 1 _
  have hBx := (HH.out.2.2.2.1 at_ ha x HF.out).1
  obtain ⟨es, ce, hes⟩ := H2.2.2.1.map
  have hxm : x ≠ m := by intro e; rw [e] at kx; rw [kx] at hes; cases hes
  have hxb : x ≠ b := by intro e; have := H2.2.1; rw [e] at kx; rw [kx] at this; cases this
  have hgx : g ≠ x := by
    obtain ⟨cur, hc, _⟩ := own_block hown (by omega)
    intro e; rw [e] at hc; rw [kx] at hc; cases hc
  have hKI : KInt w1 (w2.setCell ⟨x, 1, none⟩ (.slice (some ⟨g, 0, none⟩) 1 cap)) := fun y c hy => W3.2 _ _ (fun e => by subst e; have := keepB hb2 hy; rw [kx] at this; cases this) (keepB hb2 hy)
  have HE : Hid ((∃ f', LocksAt (w2.setCell ⟨x, 1, none⟩ (.slice (some ⟨g, 0, none⟩) 1 cap)) B b m (n + 1) f') ∧ KL m B w1 (w2.setCell ⟨x, 1, none⟩ (.slice (some ⟨g, 0, none⟩) 1 cap))) := Lib.hid (by
    refine ⟨⟨f, H2.1, W3.2 _ _ (Ne.symm hxb) H2.2.1, (H2.2.2.1.same ((W3.2 _ _ (Ne.symm hxm) hes).trans hes.symm)).mono (by omega), fun i hi y hy => ⟨(H2.2.2.2.1 i hi y hy).1, ?_⟩, H2.2.2.2.2⟩, ((KL.refl m B w1).below hb2).lock W3 hBx kx⟩
    by_cases e : y = x
    · subst e
      refine ⟨h, _, hh, kx3, .inr ⟨g, cap, w1.heap.size, rfl, ?_⟩⟩
      rw [HW.out]
      exact own_base (own_wrote hown W3 hgx) (by simp)
    · refine (H2.2.2.2.1 i hi y hy).2.keep (fun z c hz => W3.2 _ _ (fun e2 => by subst e2; rw [kx] at hz; cases hz) hz) (fun o ho => W3.2 _ _ e ho))
  have x1' : w2.cell? ⟨x, 1, none⟩ = some (.slice ao 0 0) := by rw [cell_at kx]; rfl
  have xf : w2.frozen? ⟨x, 1, none⟩ = false := by simp [World.frozen?, kx]
  clear hown hgrow hg1 hg2 hb2 kx H2 W3 kx3 hBx hes hxm hxb hgx hKI
  go_wp2_with fail
  go_ret
  exact ⟨⟨_, rfl⟩, HE.out.1, HE.out.2⟩
theorem take_any (B b m n who at_ : Nat) (f : Nat → Option Nat) (w : World) (H : LocksAt w B b m n f) (hw : who < 2) (ha : at_ < 2) (hn : n < 1000000) :
    Calls Try.prog 21 #[.pointer (some ⟨b, 0, none⟩), .int .i64 (who : Int), .int .i64 (at_ : Int)] w fun e w' => (∃ q, e = .returned (.bool q)) ∧ (∃ f', LocksAt w' B b m (n + 1) f') ∧ KL m B w w' := by
  have same : ∀ (e : Ending) (w' : World), ((∃ q, e = .returned (.bool q)) ∧ w' = w) → (∃ q, e = .returned (.bool q)) ∧ (∃ f', LocksAt w' B b m (n + 1) f') ∧ KL m B w w' := fun e w' ⟨h1, h2⟩ => by
    subst h2
    obtain ⟨a0, a1, a2, a3⟩ := H
    exact ⟨h1, ⟨f, a0, a1, a2.mono (by omega), a3⟩, KL.refl _ _ _⟩
  cases hf : f at_ with
  | none => exact take_none B b m n who at_ f w H hw ha hn hf
  | some x =>
    obtain ⟨h, qv, hh, hx, hq⟩ := (H.2.2.2.1 at_ ha x hf).2
    by_cases e : h = who
    · subst e
      exact (take_same B b m n x h at_ qv f w H hw ha hf hx).mono same
    · have e2 : who = 1 - h := by omega
      subst e2
      rcases hq with ⟨ao, rfl⟩ | ⟨g, cap, Bq, rfl, ho⟩
      · exact take_app B b m n x h at_ ao f w H hh ha hf hx
      · exact (take_in B b m n x h g cap Bq at_ f w H hh ha hf hx ho).mono same
end Go.Proofs.Ytdeheoaeagoidaa
