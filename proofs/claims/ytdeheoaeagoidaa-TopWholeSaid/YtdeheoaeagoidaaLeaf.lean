/- What a reading of a struct or an array says of each of its cells: the cell's own reading, by the type that stands at its place. Plain lemmas over any program. -/
import Derived.WalkKit
import Derived.ProofKit
import Derived.OpenShut
import Derived.ShutString
namespace Go.Proofs.Ytdeheoaeagoidaa
open Go.ChangeShapes Go.WideShapes Go.ChangeAt Go.RowKit
set_option linter.unusedVariables false

/-- The type of one cell that stands at place i of a type. -/
def leafT (P : Program) : Nat → TypeId → Nat → Option TypeId
  | 0, _, _ => none
  | d + 1, t, i => match P.underlying t with
    | some (.struct fs) => (fs.toList.find? fun f => decide (f.offset ≤ i) && decide (i < f.offset + P.cellsOf f.type)).bind fun f => if f.offset + P.cellsOf f.type ≤ P.cellsOf t then leafT P d f.type (i - f.offset) else none
    | some (.array n e) => if i < n * P.cellsOf e ∧ n * P.cellsOf e ≤ P.cellsOf t then leafT P d e (i % P.cellsOf e) else none
    | some _ => if i = 0 then some t else none
    | none => none

theorem mapM_mem {α β : Type} {f : α → Option β} : ∀ {l : List α} {r : List β}, l.mapM f = some r → ∀ a ∈ l, ∃ b, f a = some b
  | [], r, h, a, ha => by cases ha
  | x :: l, r, h, a, ha => by
    rw [List.mapM_cons] at h
    cases hx : f x with
    | none => rw [hx] at h; simp at h
    | some b =>
      rw [hx] at h
      cases hl : l.mapM f with
      | none => rw [hl] at h; simp at h
      | some r' =>
        rcases List.mem_cons.1 ha with rfl | ha
        · exact ⟨b, hx⟩
        · exact mapM_mem hl a ha

theorem take_drop_get {α : Type} (cs : List α) (o n i : Nat) (h : o ≤ i) (h2 : i < o + n) : ((cs.drop o).take n)[i - o]? = cs[i]? := by
  rw [List.getElem?_take, if_pos (by omega), List.getElem?_drop]
  congr 1
  omega

section
variable {H : Type} {enc : TypeId × Value → H} {P : Program} {w : World} {base : Nat} {spare : Nat → Bool} {held : Bool}

theorem leaf_of (d : Nat) : ∀ (fuel : Nat) (t : TypeId) (cs : List Value) (x : DataW H × List MemPlace) (i : Nat) (tl : TypeId),
    DataW.trod enc P w base spare held fuel t cs = some x → leafT P d t i = some tl → (∀ dsc, P.underlying tl = some dsc → P.cellsOf tl = 1) → cs.length = P.cellsOf t →
    ∃ v n y, cs[i]? = some v ∧ DataW.trod enc P w base spare held n tl [v] = some y := by
  induction d with
  | zero => intro _ _ _ _ _ _ _ h; simp [leafT] at h
  | succ d ih =>
    intro fuel t cs x i tl h hl h1 hlen
    cases fuel with
    | zero => simp [DataW.trod] at h
    | succ m =>
      cases hu : P.underlying t with
      | none => simp [leafT, hu] at hl
      | some dsc =>
        have leaf : ∀ (hh : (if i = 0 then some t else none) = some tl), ∃ v n y, cs[i]? = some v ∧ DataW.trod enc P w base spare held n tl [v] = some y := by
          intro hh
          by_cases h0 : i = 0
          · rw [if_pos h0] at hh
            obtain rfl : t = tl := by simpa using hh
            subst h0
            rw [h1 dsc hu] at hlen
            match cs, hlen with
            | [v], _ => exact ⟨v, m + 1, x, rfl, h⟩
          · rw [if_neg h0] at hh; cases hh
        cases dsc with
        | struct fs =>
          simp only [leafT, hu] at hl
          cases hf : fs.toList.find? (fun f => decide (f.offset ≤ i) && decide (i < f.offset + P.cellsOf f.type)) with
          | none => rw [hf] at hl; cases hl
          | some f =>
            rw [hf] at hl
            have hp := List.find?_some hf
            rw [Bool.and_eq_true, decide_eq_true_iff, decide_eq_true_iff] at hp
            have hm := List.mem_of_find?_eq_some hf
            unfold DataW.trod at h
            rw [hu] at h
            simp only at h
            rw [if_pos hlen] at h
            cases hmm : fs.toList.mapM (fun f => DataW.trod enc P w base spare held m f.type ((cs.drop f.offset).take (P.cellsOf f.type))) with
            | none => rw [hmm] at h; cases h
            | some xs =>
              obtain ⟨y, hy⟩ := mapM_mem hmm f hm
              simp only [Option.bind_some] at hl
              by_cases hsz : f.offset + P.cellsOf f.type ≤ P.cellsOf t
              · rw [if_pos hsz] at hl
                obtain ⟨v, n, y', hv, ht⟩ := ih m f.type _ y (i - f.offset) tl hy hl h1 (by rw [List.length_take, List.length_drop]; omega)
                exact ⟨v, n, y', by rw [← hv, take_drop_get _ _ _ _ hp.1 hp.2], ht⟩
              · rw [if_neg hsz] at hl; cases hl
        | array n e =>
          simp only [leafT, hu] at hl
          by_cases hi : i < n * P.cellsOf e ∧ n * P.cellsOf e ≤ P.cellsOf t
          · rw [if_pos hi] at hl
            have hpos : 0 < P.cellsOf e := by
              rcases Nat.eq_zero_or_pos (P.cellsOf e) with h0 | h0
              · rw [h0] at hi; omega
              · exact h0
            have hq : i / P.cellsOf e < n := by rw [Nat.div_lt_iff_lt_mul hpos]; exact hi.1
            have hdm := Nat.div_add_mod' i (P.cellsOf e)
            have hml := Nat.mod_lt i hpos
            have hle : i / P.cellsOf e * P.cellsOf e + P.cellsOf e ≤ n * P.cellsOf e := by rw [← Nat.succ_mul]; exact Nat.mul_le_mul_right _ hq
            unfold DataW.trod at h
            rw [hu] at h
            simp only at h
            rw [if_pos hlen] at h
            cases hmm : (List.range n).mapM (fun j => DataW.trod enc P w base spare held m e ((cs.drop (j * P.cellsOf e)).take (P.cellsOf e))) with
            | none => rw [hmm] at h; cases h
            | some xs =>
              obtain ⟨y, hy⟩ := mapM_mem hmm (i / P.cellsOf e) (List.mem_range.2 hq)
              obtain ⟨v, n', y', hv, ht⟩ := ih m e _ y (i % P.cellsOf e) tl hy hl h1 (by rw [List.length_take, List.length_drop]; omega)
              refine ⟨v, n', y', ?_, ht⟩
              rw [← hv]
              have := take_drop_get cs (i / P.cellsOf e * P.cellsOf e) (P.cellsOf e) i (by omega) (by omega)
              rw [show i - i / P.cellsOf e * P.cellsOf e = i % P.cellsOf e by omega] at this
              exact this.symm
          · rw [if_neg hi] at hl; cases hl
        | _ => simp only [leafT, hu] at hl; exact leaf hl

/-- An argument that is a struct or an array: its cells, each with its own reading. -/
theorem agg_cells {r : Reach} {b0 : Nat} {t : TypeId} {v : Value} {d : DataW H} {p : List MemPlace} (hs : (match P.underlying t with | some (.struct _) => true | some (.array _ _) => true | _ => false) = true)
    (hv : Value.okWide P w r b0 t v) (h : DataW.Trod enc P w base spare held t v d p) :
    ∃ cs : Array Value, v = .agg cs ∧ cs.size = P.cellsOf t ∧ ∀ i tl, leafT P 12 t i = some tl → P.cellsOf tl = 1 → ∃ u n y, cs[i]? = some u ∧ DataW.trod enc P w base spare held n tl [u] = some y := by
  have hok : ∃ cs, v = .agg cs ∧ cs.size = P.cellsOf t := by
    cases hu : P.underlying t with
    | none => rw [hu] at hs; cases hs
    | some dsc =>
      cases dsc with
      | struct fs => simp only [Value.okWide, hu] at hv; obtain ⟨cs, h1, h2, _⟩ := hv; exact ⟨cs, h1, h2⟩
      | array n e => simp only [Value.okWide, hu] at hv; obtain ⟨cs, h1, h2, _⟩ := hv; exact ⟨cs, h1, h2⟩
      | _ => rw [hu] at hs; cases hs
  obtain ⟨cs, rfl, hsz⟩ := hok
  refine ⟨cs, rfl, hsz, fun i tl hl h1 => ?_⟩
  obtain ⟨fuel, hf⟩ := h
  simp only [Value.cells] at hf
  obtain ⟨u, n, y, hu, ht⟩ := leaf_of 12 fuel t cs.toList _ i tl hf hl (fun _ _ => h1) (by simpa using hsz)
  exact ⟨u, n, y, by simpa using hu, ht⟩

theorem leaf_int {cs : Array Value} {t : TypeId} {k : IntKind} (tl : TypeId) (i : Nat) (hc : ∀ i tl, leafT P 12 t i = some tl → P.cellsOf tl = 1 → ∃ u n y, cs[i]? = some u ∧ DataW.trod enc P w base spare held n tl [u] = some y)
    (hl : leafT P 12 t i = some tl) (h1 : P.cellsOf tl = 1) (hk : P.underlying tl = some (.int k)) : ∃ n : Int, cs[i]? = some (.int k n) ∧ (Lit.int k n).wf = true := by
  obtain ⟨u, n, y, hu, ht⟩ := hc i tl hl h1
  obtain ⟨a, e0, _, wa⟩ := DataW.trod_int hk ht
  simp at e0
  subst e0
  exact ⟨a, hu, wa⟩
theorem leaf_bool {cs : Array Value} {t : TypeId} (tl : TypeId) (i : Nat) (hc : ∀ i tl, leafT P 12 t i = some tl → P.cellsOf tl = 1 → ∃ u n y, cs[i]? = some u ∧ DataW.trod enc P w base spare held n tl [u] = some y)
    (hl : leafT P 12 t i = some tl) (h1 : P.cellsOf tl = 1) (hk : P.underlying tl = some .bool) : ∃ b : Bool, cs[i]? = some (.bool b) := by
  obtain ⟨u, n, y, hu, ht⟩ := hc i tl hl h1
  cases n with
  | zero => simp [DataW.trod] at ht
  | succ m =>
    unfold DataW.trod at ht
    rw [hk] at ht
    cases u <;> simp at ht
    exact ⟨_, hu⟩
theorem leaf_string {cs : Array Value} {t : TypeId} (tl : TypeId) (i : Nat) (hc : ∀ i tl, leafT P 12 t i = some tl → P.cellsOf tl = 1 → ∃ u n y, cs[i]? = some u ∧ DataW.trod enc P w base spare held n tl [u] = some y)
    (hl : leafT P 12 t i = some tl) (h1 : P.cellsOf tl = 1) (hk : P.underlying tl = some .string) : ∃ s : ByteArray, cs[i]? = some (.string s) ∧ s.size ≤ maxLen := by
  obtain ⟨u, n, y, hu, ht⟩ := hc i tl hl h1
  cases n with
  | zero => simp [DataW.trod] at ht
  | succ m =>
    unfold DataW.trod at ht
    rw [hk] at ht
    cases u <;> simp at ht
    exact ⟨_, hu, ht.1⟩
end
theorem arr2 {cs : Array Value} {a b : Value} (h : cs.size = 2) (h0 : cs[0]? = some a) (h1 : cs[1]? = some b) : cs = #[a, b] := by
  apply Array.ext_getElem?
  intro i
  match i with
  | 0 => simpa using h0
  | 1 => simpa using h1
  | i + 2 => simp [Array.getElem?_eq_none (show cs.size ≤ i + 2 by omega)]
theorem arr3 {cs : Array Value} {a b c : Value} (h : cs.size = 3) (h0 : cs[0]? = some a) (h1 : cs[1]? = some b) (h2 : cs[2]? = some c) : cs = #[a, b, c] := by
  apply Array.ext_getElem?
  intro i
  match i with
  | 0 => simpa using h0
  | 1 => simpa using h1
  | 2 => simpa using h2
  | i + 3 => simp [Array.getElem?_eq_none (show cs.size ≤ i + 3 by omega)]
theorem arr5 {cs : Array Value} {a b c d e : Value} (h : cs.size = 5) (h0 : cs[0]? = some a) (h1 : cs[1]? = some b) (h2 : cs[2]? = some c) (h3 : cs[3]? = some d) (h4 : cs[4]? = some e) : cs = #[a, b, c, d, e] := by
  apply Array.ext_getElem?
  intro i
  match i with
  | 0 => simpa using h0
  | 1 => simpa using h1
  | 2 => simpa using h2
  | 3 => simpa using h3
  | 4 => simpa using h4
  | i + 5 => simp [Array.getElem?_eq_none (show cs.size ≤ i + 5 by omega)]
end Go.Proofs.Ytdeheoaeagoidaa
