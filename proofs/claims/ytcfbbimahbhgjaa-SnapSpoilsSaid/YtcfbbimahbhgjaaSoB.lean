/- Snap: a script and a log as arguments. -/
import Derived.Test.YtcfbbimahbhgjaaSnW
import Derived.Test.YtcfbbimahbhgjaaSnR
namespace Go.Proofs.Ytcfbbimahbhgjaa
open Go.RowKit Go.ChangeShapes Go.WideShapes
set_option linter.unusedSimpArgs false
set_option linter.unusedVariables false

theorem i64_I {a : Int} (h : (Lit.int .i64 a).wf = true) : I64 a := i64_bound h
theorem u64_U {a : Int} (h : (Lit.int .u64 a).wf = true) : U64 a := by
  simp [Lit.wf, IntKind.min, IntKind.max, IntKind.bits, IntKind.signed] at h
  unfold U64; omega
theorem coPart : Try.prog.cellsOf 78 = 2 := by kernel_rfl
theorem coLine : Try.prog.cellsOf 104 = 3 := by kernel_rfl
theorem coEv : Try.prog.cellsOf 92 = 65 := by kernel_rfl
theorem parts_of {H : Type} {enc : TypeId × Value → H} {w : World} {base : Nat} {spare : Nat → Bool} {held : Bool} {a : Option Addr} {len cap : Nat} {d : DataW H} {p : List MemPlace}
    (h : DataW.Trod enc Try.prog w base spare held 58 (.slice a len cap) d p) : len ≤ 9223372036854775807 ∧ ∃ pl, Parts w w.heap.size a len pl := by
  rcases slice_leafs Try.underlying58 h with ⟨-, rfl, -⟩ | ⟨ad, rfl, hb, hl, hm, hx⟩
  · exact ⟨by omega, fun _ => 0, fun i hi => by omega⟩
  · refine ⟨by unfold maxLen at hm; omega, ?_⟩
    have key : ∀ i, i < len → ∃ n, ∃ N a' c' L, PartA w w.heap.size ad i N a' n c' L := fun i hi => by
      obtain ⟨cs, hsz, hc, hlf⟩ := hx i hi
      rw [coPart] at hsz hc
      obtain ⟨n0, e0, w0⟩ := leaf_int 25 0 hlf (by kernel_rfl) (by kernel_rfl) Try.underlying25
      obtain ⟨a4, l4, k4, d4, p4, e4, t4⟩ := leaf_slice 29 1 hlf (by kernel_rfl) (by kernel_rfl) Try.underlying29
      obtain ⟨L, hL⟩ := bytesL_of t4
      have h0 := hc 0 (by omega)
      have h1 := hc 1 (by omega)
      rw [e0] at h0
      rw [e4] at h1
      have hlt := lt_of_cell h0
      rw [add_blk, add_blk] at hlt
      exact ⟨l4, n0, a4, k4, L, by simpa [Addr.add] using h0, by simpa [Addr.add] using h1, u64_U w0, hL, hlt, fun h0 x e => hL.blk h0 x e⟩
    have k2 : ∀ i, ∃ n, i < len → ∃ N a' c' L, PartA w w.heap.size ad i N a' n c' L := fun i => by
      by_cases hi : i < len
      · obtain ⟨n, hn⟩ := key i hi; exact ⟨n, fun _ => hn⟩
      · exact ⟨0, fun h => absurd h hi⟩
    refine ⟨fun i => Classical.choose (k2 i), fun i hi => ?_⟩
    obtain ⟨N, a', c', L, hp⟩ := Classical.choose_spec (k2 i) hi
    exact ⟨ad, N, a', c', L, rfl, hp⟩
theorem lines_of {H : Type} {enc : TypeId × Value → H} {w : World} {base : Nat} {spare : Nat → Bool} {held : Bool} {a : Option Addr} {len cap : Nat} {d : DataW H} {p : List MemPlace}
    (h : DataW.Trod enc Try.prog w base spare held 59 (.slice a len cap) d p) : len ≤ 9223372036854775807 ∧ LinesA w w.heap.size a len := by
  rcases slice_leafs Try.underlying59 h with ⟨-, rfl, -⟩ | ⟨ad, rfl, hb, hl, hm, hx⟩
  · exact ⟨by omega, fun i hi => by omega⟩
  · refine ⟨by unfold maxLen at hm; omega, fun i hi => ?_⟩
    obtain ⟨cs, hsz, hc, hlf⟩ := hx i hi
    rw [coLine] at hsz hc
    obtain ⟨n0, e0, w0⟩ := leaf_int 102 0 hlf (by kernel_rfl) (by kernel_rfl) Try.underlying102
    obtain ⟨n1, e1, w1⟩ := leaf_int 3 1 hlf (by kernel_rfl) (by kernel_rfl) Try.underlying3
    obtain ⟨n2, e2⟩ := leaf_bool 4 2 hlf (by kernel_rfl) (by kernel_rfl) Try.underlying4
    have h0 := hc 0 (by omega)
    have h1 := hc 1 (by omega)
    have h2 := hc 2 (by omega)
    rw [e0] at h0
    rw [e1] at h1
    rw [e2] at h2
    have hlt := lt_of_cell h0
    rw [add_blk, add_blk] at hlt
    exact ⟨ad, n0, n1, n2, rfl, by simpa [Addr.add] using h0, by simpa [Addr.add] using h1, by simpa [Addr.add] using h2, i64_I w0, i64_I w1, hlt⟩
theorem evKinds : (List.range 65).map (fun j => (leafT Try.prog 12 92 j).map fun tl => (Try.prog.underlying tl, Try.prog.cellsOf tl)) = kE.map (fun k => some (some (if k = 0 then .int .i64 else if k = 1 then .int .u64 else .bool), 1)) := by kernel_rfl
theorem evKind {j k : Nat} (hk : kE[j]? = some k) : ∃ tl, leafT Try.prog 12 92 j = some tl ∧ Try.prog.underlying tl = some (if k = 0 then .int .i64 else if k = 1 then .int .u64 else .bool) ∧ Try.prog.cellsOf tl = 1 := by
  have hj : j < 65 := (List.getElem?_eq_some_iff.1 hk).1
  have h := congrArg (fun l => l[j]?) evKinds
  simp only [List.getElem?_map, hk, List.getElem?_range hj, Option.map_some] at h
  cases hl : leafT Try.prog 12 92 j with
  | none => rw [hl] at h; simp at h
  | some tl =>
    rw [hl] at h
    simp only [Option.map_some, Option.some.injEq, Prod.mk.injEq] at h
    exact ⟨tl, rfl, h.1, h.2⟩
theorem events_of {H : Type} {enc : TypeId × Value → H} {w : World} {base : Nat} {spare : Nat → Bool} {held : Bool} {a : Option Addr} {len cap : Nat} {d : DataW H} {p : List MemPlace}
    (h : DataW.Trod enc Try.prog w base spare held 62 (.slice a len cap) d p) : len ≤ 9223372036854775807 ∧ Events w w.heap.size a len := by
  rcases slice_leafs Try.underlying62 h with ⟨-, rfl, -⟩ | ⟨ad, rfl, hb, hl, hm, hx⟩
  · exact ⟨by omega, fun i hi => by omega⟩
  · refine ⟨by unfold maxLen at hm; omega, fun i hi => ?_⟩
    obtain ⟨cs, hsz, hc, hlf⟩ := hx i hi
    rw [coEv] at hsz hc
    have kI : ∀ j, kE[j]? = some 0 → ∃ n : Int, cs[j]? = some (Value.int .i64 n) ∧ I64 n := fun j hk => by
      obtain ⟨tl, h1, h2, h3⟩ := evKind hk
      obtain ⟨n, e, w0⟩ := leaf_int tl j hlf h1 h3 h2
      exact ⟨n, e, i64_I w0⟩
    have kU : ∀ j, kE[j]? = some 1 → ∃ n : Int, cs[j]? = some (Value.int .u64 n) ∧ U64 n := fun j hk => by
      obtain ⟨tl, h1, h2, h3⟩ := evKind hk
      obtain ⟨n, e, w0⟩ := leaf_int tl j hlf h1 h3 h2
      exact ⟨n, e, u64_U w0⟩
    have kB : ∀ j, kE[j]? = some 2 → ∃ b : Bool, cs[j]? = some (Value.bool b) := fun j hk => by
      obtain ⟨tl, h1, h2, h3⟩ := evKind hk
      exact leaf_bool tl j hlf h1 h3 h2
    let s : EV := ⟨fun j => if h : kE[j]? = some 0 then Classical.choose (kI j h) else 0, fun j => if h : kE[j]? = some 1 then Classical.choose (kU j h) else 0, fun j => if h : kE[j]? = some 2 then Classical.choose (kB j h) else false⟩
    have ok : OkE s := by
      have z : I64 0 := ⟨by decide, by decide⟩
      have z2 : U64 0 := ⟨by decide, by decide⟩
      have hi : ∀ j, I64 (s.i j) := fun j => by
        show I64 (if h : kE[j]? = some 0 then Classical.choose (kI j h) else 0)
        split
        · rename_i h; exact (Classical.choose_spec (kI j h)).2
        · exact z
      have hu : ∀ j, U64 (s.u j) := fun j => by
        show U64 (if h : kE[j]? = some 1 then Classical.choose (kU j h) else 0)
        split
        · rename_i h; exact (Classical.choose_spec (kU j h)).2
        · exact z2
      exact ⟨fun j => (hi j).1, fun j => (hi j).2, fun j => (hu j).1, fun j => (hu j).2⟩
    have h12 : ∀ k ∈ kE, k = 0 ∨ k = 1 ∨ k = 2 := by decide
    have hev : ∀ j, j < 65 → w.cell? ((ad.add (i * 65)).add j) = some (evF s j) := fun j hj => by
      rw [hc j hj]
      have hkl : kE.length = 65 := rfl
      obtain ⟨kk, hk⟩ : ∃ kk, kE[j]? = some kk := ⟨_, List.getElem?_eq_getElem (by rw [hkl]; exact hj)⟩
      rcases h12 kk (List.mem_of_getElem? hk) with e | e | e
      · rw [e] at hk
        have hs : s.i j = Classical.choose (kI j hk) := dif_pos hk
        unfold evF
        rw [hk, hs]
        exact (Classical.choose_spec (kI j hk)).1
      · rw [e] at hk
        have hs : s.u j = Classical.choose (kU j hk) := dif_pos hk
        unfold evF
        rw [hk, hs]
        exact (Classical.choose_spec (kU j hk)).1
      · rw [e] at hk
        have hs : s.b j = Classical.choose (kB j hk) := dif_pos hk
        unfold evF
        rw [hk, hs]
        exact Classical.choose_spec (kB j hk)
    have hlt := lt_of_cell (hev 0 (by omega))
    rw [add_blk, add_blk] at hlt
    exact ⟨ad, s, rfl, hlt, ok, hev⟩
theorem arr14 {cs : Array Value} {v0 v1 v2 v3 v4 v5 v6 v7 v8 v9 v10 v11 v12 v13 : Value} (h : cs.size = 14) (h0 : cs[0]? = some v0) (h1 : cs[1]? = some v1) (h2 : cs[2]? = some v2) (h3 : cs[3]? = some v3) (h4 : cs[4]? = some v4) (h5 : cs[5]? = some v5) (h6 : cs[6]? = some v6) (h7 : cs[7]? = some v7) (h8 : cs[8]? = some v8) (h9 : cs[9]? = some v9) (h10 : cs[10]? = some v10) (h11 : cs[11]? = some v11) (h12 : cs[12]? = some v12) (h13 : cs[13]? = some v13) : cs = #[v0, v1, v2, v3, v4, v5, v6, v7, v8, v9, v10, v11, v12, v13] := by
  apply Array.ext
  · exact h
  · intro i g1 g2
    have e : ∀ (j : Nat) (v : Value) (hj : cs[j]? = some v) (hs : j < cs.size), cs[j] = v := fun j v hj hs => (Array.getElem?_eq_some_iff.1 hj).2
    have hi : i < 14 := by omega
    match i, hi with
    | 0, _ => exact e 0 _ h0 (by omega)
    | 1, _ => exact e 1 _ h1 (by omega)
    | 2, _ => exact e 2 _ h2 (by omega)
    | 3, _ => exact e 3 _ h3 (by omega)
    | 4, _ => exact e 4 _ h4 (by omega)
    | 5, _ => exact e 5 _ h5 (by omega)
    | 6, _ => exact e 6 _ h6 (by omega)
    | 7, _ => exact e 7 _ h7 (by omega)
    | 8, _ => exact e 8 _ h8 (by omega)
    | 9, _ => exact e 9 _ h9 (by omega)
    | 10, _ => exact e 10 _ h10 (by omega)
    | 11, _ => exact e 11 _ h11 (by omega)
    | 12, _ => exact e 12 _ h12 (by omega)
    | 13, _ => exact e 13 _ h13 (by omega)
end Go.Proofs.Ytcfbbimahbhgjaa
