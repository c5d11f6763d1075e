/- The ram's lines in a map with a struct key. Plain laws over the kit's ownsMap. -/
import Derived.Test.YtdeheoaeagoidaaTwA
import Derived.Test.YtdeheoaeagoidaaWrote
import Derived.Maps.OwnSet
import Derived.DeepKeys4
import Derived.KernelRfl
namespace Go.Proofs.Ytdeheoaeagoidaa
open Go.RowKit
open Go.Maps (Keyed)
set_option linter.unusedSimpArgs false
set_option linter.unusedVariables false

/-- A value reads as itself. -/
def Rv (v : Value) : Option (DataW Value × List MemPlace) := some (.held v, [])
def zline : Value := .agg (cellsL fun _ => 0)
def keyV (i : Nat) : Value := .agg #[.int .i64 ((i % 16 : Nat) : Int), .int .i64 ((i / 16 : Nat) : Int)]
theorem laidOutR : laidOutB Try.prog = true := by kernel_rfl
theorem placeK : Keyed Try.prog 152 := Keyed.of_law (deep_law_laid laidOutR (m := 2) (by omega) (by decide +kernel) (by kernel_rfl) (by kernel_rfl))
theorem underM : Try.prog.underlying 88 = some (.map 152 135) := by kernel_rfl
theorem coP : Try.prog.cellsOf 152 = 2 := by kernel_rfl
theorem coI : Try.prog.cellsOf 3 = 1 := by kernel_rfl
def kl (i : Nat) : Lit := .string (keyBytes [Lit.int .i64 ((i % 16 : Nat) : Int), Lit.int .i64 ((i / 16 : Nat) : Int)])
theorem kl_some {i : Nat} (hi : i < 65536) : keyOf Try.prog 152 (keyV i) = some (kl i) := by
  have e0 : ∀ D (x : Int), -9223372036854775808 ≤ x → x ≤ 9223372036854775807 → Try.prog.keyLits (D + 1) 3 [.int .i64 x] = some [.int .i64 x] := by
    intro D x h0 h1
    have : (Lit.int .i64 x).wf = true := by
      simp only [Lit.wf, Bool.and_eq_true, decide_eq_true_eq]
      exact ⟨h0, h1⟩
    simp [Program.keyLits, Try.underlying3, this]
  have hk : Try.prog.keyType 152 = true := by kernel_rfl
  have hf : (keyV i).formed Try.prog 152 = true := by
    simp only [keyV, Value.formed, Try.underlying152, coP]
    rfl
  have hl : Try.prog.keyLits (Try.prog.types.size + 1) 152 (keyV i).cells.toList = some [Lit.int .i64 ((i % 16 : Nat) : Int), Lit.int .i64 ((i / 16 : Nat) : Int)] := by
    obtain ⟨N, hN⟩ : ∃ N, Try.prog.types.size = N + 1 := ⟨Try.prog.types.size - 1, by
      have : 0 < Try.prog.types.size := by decide +kernel
      omega⟩
    rw [hN]
    unfold Program.keyLits
    simp only [Try.underlying152]
    rw [if_pos (by rw [coP]; exact ⟨rfl, by simp⟩)]
    have c0 : ((keyV i).cells.toList.drop 0).take 1 = [.int .i64 ((i % 16 : Nat) : Int)] := rfl
    have c1 : ((keyV i).cells.toList.drop 1).take 1 = [.int .i64 ((i / 16 : Nat) : Int)] := rfl
    simp only [List.mapM_cons, List.mapM_nil, coI, c0, c1, e0 N _ (show (-9223372036854775808 : Int) ≤ ((i % 16 : Nat) : Int) by omega) (by omega), e0 N _ (show (-9223372036854775808 : Int) ≤ ((i / 16 : Nat) : Int) by omega) (by omega)]
    simp
  unfold keyOf
  simp only [Try.underlying152, hk, hf, hl]
  rfl
theorem kl_ne {i j : Nat} (hi : i < 65536) (hj : j < 65536) (h : i ≠ j) : kl i ≠ kl j := by
  intro e
  have h1 := kl_some hi
  have h2 := kl_some hj
  rw [← e] at h2
  have h3 := placeK.inj h1 h2
  simp only [keyV, Value.agg.injEq] at h3
  have h4 : (Value.int .i64 ((i % 16 : Nat) : Int)) = .int .i64 ((j % 16 : Nat) : Int) := by
    have := congrArg (fun c => c.getD 0 undef) h3; exact this
  have h5 : (Value.int .i64 ((i / 16 : Nat) : Int)) = .int .i64 ((j / 16 : Nat) : Int) := by
    have := congrArg (fun c => c.getD 1 undef) h3; exact this
  simp only [Value.int.injEq, true_and] at h4 h5
  omega
/-- Block m of w keeps the lines g (what is nought is not kept); at most n entries. -/
def KeptD (D : DataW Value) (g : Nat → Nat → Nat) : Prop := (∀ i, i < 65536 → D.atKey (kl i) (.held zline) = .held (.agg (cellsL (g i))) ∧ (Maps.has D (kl i) = true ↔ Value.agg (cellsL (g i)) ≠ zline)) ∧ ∀ k, Maps.has D k = true → ∃ i, i < 65536 ∧ k = kl i
def MemAt (w : World) (m n : Nat) (g : Nat → Nat → Nat) : Prop :=
  ∃ D, w.ownsMap Try.prog 152 Rv m n D ∧ KeptD D g
def updG (g : Nat → Nat → Nat) (i : Nat) (h : Nat → Nat) : Nat → Nat → Nat := fun j => if j = i then h else g j
theorem zeroLn (w : World) : (zeroValue 135).run Try.prog w = .ok zline w := zeroLL w
theorem mem_look {w : World} {m n : Nat} {g : Nat → Nat → Nat} (h : MemAt w m n g) {i : Nat} (hi : i < 65536) : (Instr.lookup 88 (.map (some m)) (keyV i) false).run Try.prog w = .ok (.agg (cellsL (g i))) w := by
  obtain ⟨D, ho, hD⟩ := h
  obtain ⟨v, ps, hr, hv⟩ := ho.lookup placeK underM (zeroLn w) (zd := .held zline) (zp := []) rfl (kl_some hi)
  rw [(hD.1 i hi).1] at hv
  simp only [Rv, Option.some.injEq, Prod.mk.injEq, DataW.held.injEq] at hv
  rw [← hv.1]; exact hr
theorem mem_store {w : World} {m n : Nat} {g : Nat → Nat → Nat} (h : MemAt w m n g) (hn : n < maxLen) {i : Nat} (hi : i < 65536) {l : Nat → Nat} (hl : Value.agg (cellsL l) ≠ zline) :
    ∃ w', (Instr.mapUpdate 88 (.map (some m)) (keyV i) (.agg (cellsL l))).run Try.prog w = .ok () w' ∧ MemAt w' m (n + 1) (updG g i l) ∧ w.mapTurned w' m := by
  obtain ⟨D, ho, hD⟩ := h
  obtain ⟨w', hr, ho', ht⟩ := ho.store placeK underM hn (kl_some hi) (val := .agg (cellsL l)) (d := .held (.agg (cellsL l))) (ps := []) rfl
  refine ⟨w', hr, ⟨_, ho', fun j hj => ?_, fun k hk => ?_⟩, ht⟩
  rotate_left
  · by_cases e : k = kl i
    · exact ⟨i, hi, e⟩
    · rw [Maps.has_put_other e] at hk
      exact hD.2 k hk
  unfold updG
  by_cases e : j = i
  · subst e
    rw [if_pos rfl, Maps.atKey_put_same ho.isMap (placeK.key (kl_some hj)), Maps.has_put_same ho.isMap (placeK.key (kl_some hj))]
    exact ⟨rfl, fun _ => hl, fun _ => rfl⟩
  · rw [if_neg e, Maps.atKey_put_other (kl_ne hj hi e), Maps.has_put_other (kl_ne hj hi e)]
    exact hD.1 j hj
theorem mem_drop {w : World} {m n : Nat} {g : Nat → Nat → Nat} (h : MemAt w m n g) {i : Nat} (hi : i < 65536) {l : Nat → Nat} (hl : Value.agg (cellsL l) = zline) (ty : TypeId) :
    ∃ w', (Builtin.delete_ #[88, 152] ty #[.map (some m), keyV i]).run Try.prog w = .ok (.tuple #[]) w' ∧ MemAt w' m n (updG g i l) ∧ w.mapTurned w' m := by
  obtain ⟨D, ho, hD⟩ := h
  obtain ⟨w', hr, ho', ht⟩ := ho.drop placeK underM (kl_some hi) ty
  refine ⟨w', hr, ⟨_, ho', fun j hj => ?_, fun k hk => ?_⟩, ht⟩
  rotate_left
  · by_cases e : k = kl i
    · exact ⟨i, hi, e⟩
    · rw [Maps.has_del_other e] at hk
      exact hD.2 k hk
  unfold updG
  by_cases e : j = i
  · subst e
    rw [if_pos rfl, Maps.atKey_del_same, Maps.has_del_same]
    refine ⟨by rw [← hl], fun h => (by cases h), fun h => absurd hl h⟩
  · rw [if_neg e, Maps.atKey_del_other (kl_ne hj hi e), Maps.has_del_other (kl_ne hj hi e)]
    exact hD.1 j hj
theorem mem_new (w : World) : MemAt (w.alloc (.map #[] 0)) w.heap.size 0 (fun _ _ => 0) :=
  ⟨_, World.ownsMap_made w _ _ _, fun i _ => ⟨rfl, fun h => (by cases h), fun h => absurd rfl h⟩, fun k hk => (by cases hk)⟩
theorem MemAt.same {w w' : World} {m n : Nat} {g : Nat → Nat → Nat} (h : MemAt w m n g) (hb : w'.heap[m]? = w.heap[m]?) : MemAt w' m n g := by
  obtain ⟨D, ⟨es, clock, h1, h2⟩, hD⟩ := h
  exact ⟨D, ⟨es, clock, hb.trans h1, h2⟩, hD⟩
theorem MemAt.lt {w : World} {m n : Nat} {g : Nat → Nat → Nat} (h : MemAt w m n g) : m < w.heap.size := by
  obtain ⟨D, ho, hD⟩ := h
  exact ho.lt
theorem MemAt.keep {w w' : World} {m n : Nat} {g : Nat → Nat → Nat} (h : MemAt w m n g) (hb : Below w.heap.size w w') : MemAt w' m n g := h.same (hb.block m h.lt)
theorem MemAt.mono {w : World} {m n n' : Nat} {g : Nat → Nat → Nat} (h : MemAt w m n g) (hn : n ≤ n') : MemAt w m n' g := by
  obtain ⟨D, ho, hD⟩ := h
  exact ⟨D, ho.mono hn, hD⟩
theorem turned_wrote {w w' : World} {m : Nat} (h : w.mapTurned w' m) : Wrote m w w' := by
  obtain ⟨es, clock, es', clock', hb, rfl⟩ := h
  refine ⟨fun B w0 hB hf => ⟨⟨hf.1.os, hf.1.tape, hf.1.output, by simpa [ChangeMaps.setBlock] using hf.1.size, fun j hj => ?_⟩, by simpa [ChangeMaps.setBlock] using hf.2⟩, fun b' o hne ho => ?_⟩
  · rw [← hf.1.block j hj]
    exact ChangeMaps.heap_setBlock_other hb _ (by omega)
  · rw [← ho]; exact ChangeMaps.heap_setBlock_other hb _ hne
end Go.Proofs.Ytdeheoaeagoidaa
