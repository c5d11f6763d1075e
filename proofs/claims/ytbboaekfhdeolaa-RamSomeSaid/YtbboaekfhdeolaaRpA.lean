/- The document's memory: bytes in a slice. New, Has. -/
import Derived.Test.YtbboaekfhdeolaaRaN
namespace Go.Proofs.Ytbboaekfhdeolaa
open Go.RowKit
set_option linter.unusedSimpArgs false
set_option linter.unusedVariables false
attribute [local simp high] sizeLL zeroLL

/-- Block c's first n cells are the bytes x. -/
def XB (w : World) (c n : Nat) (x : Nat → Nat) : Prop := c < w.heap.size ∧ ∀ i, i < n → w.cell? ⟨c, i, none⟩ = some (.int .u8 (x i : Int)) ∧ w.frozen? ⟨c, i, none⟩ = false
theorem XB.same {w w' : World} {c n : Nat} {x : Nat → Nat} (h : XB w c n x) (hs : w.heap.size ≤ w'.heap.size) (hb : w'.heap[c]? = w.heap[c]?) : XB w' c n x :=
  ⟨Nat.lt_of_lt_of_le h.1 hs, fun i hi => ⟨(World.cell?_of_block (a := ⟨c, i, none⟩) hb).trans (h.2 i hi).1, (World.frozen?_of_block (a := ⟨c, i, none⟩) hb).trans (h.2 i hi).2⟩⟩
theorem XB.keep {w w' : World} {c n : Nat} {x : Nat → Nat} (h : XB w c n x) (hb : Below w.heap.size w w') : XB w' c n x := h.same hb.size (hb.block c h.1)
theorem XB.alloc {w : World} {c n : Nat} {x : Nat → Nat} (h : XB w c n x) (o : Obj) : XB (w.alloc o) c n x := h.keep ((Below.refl _ w).alloc (Nat.le_refl _) o)
theorem XB.ext {w : World} {c n : Nat} {x y : Nat → Nat} (h : XB w c n x) (e : ∀ i, i < n → x i = y i) : XB w c n y := ⟨h.1, fun i hi => by rw [← e i hi]; exact h.2 i hi⟩
theorem XB.set {w : World} {c n : Nat} {x : Nat → Nat} (h : XB w c n x) {i : Nat} (hi : i < n) (v : Nat) : XB (w.setCell ⟨c, i, none⟩ (.int .u8 (v : Int))) c n (updL x i v) := by
  refine ⟨by simpa [World.setCell] using h.1, fun j hj => ⟨?_, by rw [World.frozen?_setCell]; exact (h.2 j hj).2⟩⟩
  unfold updL
  by_cases e : j = i
  · subst e
    rw [if_pos rfl]
    exact World.cell?_setCell_same' _ _ _ (by rw [(h.2 j hj).1]; rfl)
  · rw [if_neg e, World.cell?_setCell_other _ _ _ _ (by intro h1; apply e; injection h1 with _ h2 _; exact h2.symm)]
    exact (h.2 j hj).1
theorem XB.wrote {w w' : World} {c n m : Nat} {x : Nat → Nat} (h : XB w c n x) (hW : Wrote m w w') (hm : m < w.heap.size) (hne : c ≠ m) : XB w' c n x := by
  have hs : w.heap.size ≤ w'.heap.size := (hW.1 m w (Nat.le_refl _) ⟨Below.refl _ _, Nat.le_of_lt hm⟩).1.size
  obtain ⟨o, ho⟩ : ∃ o, w.heap[c]? = some o := ⟨_, Array.getElem?_eq_getElem h.1⟩
  exact h.same hs ((hW.2 c o hne ho).trans ho.symm)
theorem below_wrote {m : Nat} {w w' : World} (h : Below w.heap.size w w') : Wrote m w w' := (Wrote.refl m w).below h
set_option maxRecDepth 100000 in
set_option maxHeartbeats 4000000 in
theorem rhas_any (c cap L addr : Nat) (n : Int) (w : World) (ha : addr < 18446744073709551616) (hn1 : n ≤ 9223372036854775807) (hL : L ≤ 4096) :
    Calls Try.prog 56 #[.agg #[.slice (some ⟨c, 0, none⟩) (64 * L) cap], .int .u64 (addr : Int), .int .i64 n] w fun e w' => e = .returned (.bool (hasR L addr n)) ∧ Below w.heap.size w w' := by
  obtain ⟨q, hq⟩ : ∃ q, hasR L addr n = q := ⟨_, rfl⟩
  rw [hq]
  unfold hasR at hq
  obtain ⟨T, hT⟩ : ∃ T, 64 * L = T := ⟨_, rfl⟩
  rw [hT]
  have hTi : 64 * (L : Int) = (T : Int) := by omega
  rw [hTi] at hq
  have hT0 : (0 : Int) ≤ T := by omega
  have hT1 : (T : Int) ≤ 262144 := by omega
  have HQ := Lib.hid hq
  clear hq hT hTi hL
  by_cases h1 : n < 1
  · have hq0 : q = false := by rw [← HQ.out]; have : ¬ 1 ≤ n := by omega
                               simp [this]
    subst hq0
    have d1 : decide (n < 1) = true := by simp; omega
    go_enter Try.func56, Try.ntmps56
    go_wp2
    go_ret
    exact ⟨rfl, ((Fr.refl w).alloc _).1⟩
  · have d1 : decide (n < 1) = false := by simp; omega
    by_cases h2 : addr < 2147483648
    · have hq0 : q = false := by rw [← HQ.out]; have : ¬ 2147483648 ≤ addr := by omega
                                 simp [this]
      subst hq0
      have d2 : decide ((addr : Int) < 2147483648) = true := by simp; omega
      go_enter Try.func56, Try.ntmps56
      go_wp2
      go_ret
      exact ⟨rfl, ((Fr.refl w).alloc _).1⟩
    · obtain ⟨f, hf⟩ : ∃ f : Nat, (addr : Int) - 2147483648 = f := ⟨addr - 2147483648, by omega⟩
      have hf64 : f < 18446744073709551616 := by omega
      have hwr : IntKind.u64.wrap ((addr : Int) - 2147483648) = (f : Int) := by rw [IntKind.wrap_u64]; omega
      have HF := Lib.hid hf
      have d2 : decide ((addr : Int) < 2147483648) = false := by simp; omega
      have hwT : IntKind.u64.wrap (T : Int) = (T : Int) := by rw [IntKind.wrap_u64]; omega
      by_cases h3 : f < T
      · have d3 : decide ((T : Int) ≤ (f : Int)) = false := by simp; omega
        have d3' : ¬ ((T : Int) ≤ (f : Int)) := by omega
        have h4 : decide (n ≤ (T : Int) - f) = q := by
          rw [← HQ.out, HF.out]
          have a1 : decide (1 ≤ n) = true := by simp; omega
          have a2 : decide (2147483648 ≤ addr) = true := by simp; omega
          rw [a1, a2, Bool.eq_iff_iff]
          simp
          omega
        have hwf : IntKind.i64.wrap (f : Int) = (f : Int) := by rw [IntKind.wrap_i64]; omega
        have hws : IntKind.i64.wrap ((T : Int) - f) = (T : Int) - f := by rw [IntKind.wrap_i64]; omega
        clear hf ha hf64 hn1 h1 h2 h3
        go_enter Try.func56, Try.ntmps56
        go_wp2
        go_ret
        exact ⟨by simp [h4], ((Fr.refl w).alloc _).1⟩
      · have hq0 : q = false := by
          rw [← HQ.out, HF.out]
          have : ¬ ((f : Int) + n ≤ (T : Int)) := by omega
          simp [this]
        subst hq0
        have d3 : decide ((T : Int) ≤ (f : Int)) = true := by simp; omega
        have d3' : (T : Int) ≤ (f : Int) := by omega
        clear hf ha hf64 hn1 h1 h2 h3
        go_enter Try.func56, Try.ntmps56
        go_wp2
        go_ret
        exact ⟨rfl, ((Fr.refl w).alloc _).1⟩
theorem zeroU8 (w : World) : (zeroValue 5).run Try.prog w = .ok (.int .u8 0) w := by kernel_rfl
theorem mkB (T : Nat) (w : World) (h0 : 0 < T) (h1 : T ≤ 262144) : (Instr.makeSlice 22 (.int .i64 (T : Int)) (.int .i64 (T : Int))).run Try.prog w = .ok (.slice (some ⟨w.heap.size, 0, none⟩) T T) (w.alloc (.cells (Array.replicate T (.int .u8 0)) 5)) := by
  have hwf : IntKind.i64.wrap (T : Int) = (T : Int) := by rw [IntKind.wrap_i64]; omega
  have hb : (Try.t5).bytes = 1 := by kernel_rfl
  have e : ∀ (z : Value), z = .int .u8 0 → (Array.map (fun x => z.cells[x % z.cells.size]!) (Array.range T)) = Array.replicate T (.int .u8 0) := by
    rintro z rfl
    apply Array.ext
    · simp
    · intro i h1 h2
      simp [Value.cells, Nat.mod_one]
  simp only [Instr.makeSlice, run_underlying Try.underlying22, asInt, asIntOf, Result.andThen, hwf, zeroU8]
  simp [run_underlying Try.underlying22, Result.andThen, hwf, zeroU8, asIntOf]
  rw [if_neg (by rw [hb]; omega), if_neg (by omega), e _ rfl]
  simp [newRow]
theorem XB.new {w : World} {c T : Nat} {t : TypeId} (h : w.heap[c]? = some (.cells (Array.replicate T (.int .u8 0)) t)) : XB w c T (fun _ => 0) := by
  refine ⟨lt_of_at h, fun i hi => ⟨?_, by simp [World.frozen?, h]⟩⟩
  rw [cell_at h]
  simp [hi]
set_option maxRecDepth 100000 in
set_option maxHeartbeats 4000000 in
theorem rnew_any (L : Nat) (w : World) (h1 : 1 ≤ L) (hL : L ≤ 4096) :
    Calls Try.prog 32 #[.int .i64 (L : Int)] w fun e w' => ∃ c, e = .returned (.agg #[.slice (some ⟨c, 0, none⟩) (64 * L) (64 * L)]) ∧ XB w' c (64 * L) (fun _ => 0) ∧ w.heap.size ≤ c ∧ Below w.heap.size w w' := by
  obtain ⟨T, hT⟩ : ∃ T, 64 * L = T := ⟨_, rfl⟩
  have hTi : 64 * (L : Int) = (T : Int) := by omega
  have hwT : IntKind.i64.wrap (64 * (L : Int)) = (T : Int) := by rw [IntKind.wrap_i64]; omega
  have hT0 : (0 : Int) ≤ T := by omega
  have hT1 : (T : Int) ≤ 262144 := by omega
  rw [hT]
  have hmk := fun w => mkB T w (by omega) (by omega)
  clear hTi
  go_enter Try.func32, Try.ntmps32
  go_wp2
  have kx := heap_alloc_new (w.alloc (.cells #[.slice (some ⟨w.heap.size + 1, 0, none⟩) T T] 66)) (.cells (Array.replicate T (.int .u8 0)) 5)
  have km := keep_alloc (heap_alloc_new w (.cells #[.slice (some ⟨w.heap.size + 1, 0, none⟩) T T] 66)) (.cells (Array.replicate T (.int .u8 0)) 5)
  refine bodyPost_ret (results_cell_row Try.results32 _ _ w.heap.size 66 _ _ _ rfl km Try.underlying66 rfl (by kernel_rfl)) rfl ⟨w.heap.size + 1, rfl, XB.new (by simpa using kx), by omega, (((Fr.refl w).alloc _).alloc _).1⟩
end Go.Proofs.Ytbboaekfhdeolaa
