/- Equality of two whole files: a file is equal to itself. -/
import Derived.Test.YthkkfdhgpaonjaaCfA
import Derived.DeepKeys
namespace Go.Proofs.Ythkkfdhgpaonjaa
open Go.RowKit
set_option linter.unusedSimpArgs false
set_option linter.unusedVariables false

theorem mapMK {α β : Type} (f : α → Option β) (g : α → β) : ∀ l : List α, (∀ a ∈ l, f a = some (g a)) → l.mapM f = some (l.map g)
  | [], _ => rfl
  | a :: l, h => by
      rw [List.mapM_cons, h a (by simp), mapMK f g l (fun b hb => h b (by simp [hb]))]
      rfl
theorem kl_int {P : Program} {t : TypeId} {q : IntKind} (hu : P.underlying t = some (.int q)) (D : Nat) (n : Int) (h : (Lit.int q n).wf = true) : P.keyLits (D + 1) t [.int q n] = some [.int q n] := by
  simp [Program.keyLits, hu, h]
theorem kl_bool {P : Program} {t : TypeId} (hu : P.underlying t = some .bool) (D : Nat) (b : Bool) : P.keyLits (D + 1) t [.bool b] = some [.bool b] := by
  simp [Program.keyLits, hu]
theorem wf64 (x : Nat) (h : x < 18446744073709551616) : (Lit.int .u64 (x : Int)).wf = true := by
  simp only [Lit.wf, Bool.and_eq_true, decide_eq_true_eq]
  constructor
  · show (0 : Int) ≤ _; omega
  · show (x : Int) ≤ 18446744073709551615; omega
theorem wfi (x : Int) (h0 : -9223372036854775808 ≤ x) (h1 : x ≤ 9223372036854775807) : (Lit.int .i64 x).wf = true := by
  simp only [Lit.wf, Bool.and_eq_true, decide_eq_true_eq]
  exact ⟨h0, h1⟩
def wordCells (s : FS) : List Value := ((cellsF s).toList.drop 1).take 22
theorem wordCells_at (s : FS) {i : Nat} (hi : i < 22) : ((wordCells s).drop (i * 1)).take 1 = [.int .u64 (s.g i : Int)] := by
  rcases lt22 hi with rfl | rfl | rfl | rfl | rfl | rfl | rfl | rfl | rfl | rfl | rfl | rfl | rfl | rfl | rfl | rfl | rfl | rfl | rfl | rfl | rfl | rfl <;> rfl
theorem co_arr : Try.prog.cellsOf 29 = 22 := by kernel_rfl
theorem co_u64 : Try.prog.cellsOf 25 = 1 := by kernel_rfl
theorem co_int : Try.prog.cellsOf 3 = 1 := by kernel_rfl
theorem co_bool : Try.prog.cellsOf 4 = 1 := by kernel_rfl
theorem co_F : Try.prog.cellsOf 31 = 25 := by kernel_rfl
theorem kl_words (s : FS) (ok : OkF s) (D : Nat) : ∃ l, Try.prog.keyLits (D + 2) 29 (wordCells s) = some l := by
  refine ⟨((List.range 22).map fun i => [Lit.int .u64 (s.g i : Int)]).flatten, ?_⟩
  unfold Program.keyLits
  simp only [Try.underlying29]
  rw [if_pos (by rw [co_arr]; rfl), co_u64]
  rw [mapMK _ (fun i => [Lit.int .u64 (s.g i : Int)])]
  · rfl
  · intro i hi
    rw [wordCells_at s (List.mem_range.1 hi)]
    exact kl_int Try.underlying25 D _ (wf64 _ (ok.g i))
theorem kl_F (s : FS) (ok : OkF s) (D : Nat) : ∃ l, Try.prog.keyLits (D + 3) 31 (cellsF s).toList = some l := by
  obtain ⟨l, hl⟩ := kl_words s ok D
  have e0 := kl_int (P := Try.prog) Try.underlying3 (D + 1) s.hart (wfi _ ok.h0 ok.h1)
  have e1 := kl_bool (P := Try.prog) Try.underlying4 (D + 1) s.cy
  have e2 := kl_bool (P := Try.prog) Try.underlying4 (D + 1) s.il
  refine ⟨[Lit.int .i64 s.hart] ++ l ++ [Lit.bool s.cy] ++ [Lit.bool s.il], ?_⟩
  unfold Program.keyLits
  simp only [Try.underlying31]
  rw [if_pos (by rw [co_F]; exact ⟨rfl, by simp⟩)]
  simp only [List.mapM_cons, List.mapM_nil, co_int, co_arr, co_bool]
  have c0 : ((cellsF s).toList.drop 0).take 1 = [.int .i64 s.hart] := rfl
  have c1 : ((cellsF s).toList.drop 1).take 22 = wordCells s := rfl
  have c2 : ((cellsF s).toList.drop 23).take 1 = [.bool s.cy] := rfl
  have c3 : ((cellsF s).toList.drop 24).take 1 = [.bool s.il] := rfl
  simp only [c0, c1, c2, c3, e0, e1, e2, hl]
  simp
theorem ktF : Try.prog.keyTypeAt 4 31 = true := by kernel_rfl
theorem fmF (s : FS) : (Value.agg (cellsF s)).formed Try.prog 31 = true := by
  simp only [Value.formed, Try.underlying31, co_F]
  rfl
theorem eqF (s : FS) (ok : OkF s) (w : World) : (Op.equalIn 10000 31 (.agg (cellsF s)) (.agg (cellsF s))).run Try.prog w = .ok true w := by
  obtain ⟨l, hl⟩ := kl_F s ok 1
  obtain ⟨r, hr, hi⟩ := run_equalIn_deep (P := Try.prog) 9996 4 31 ktF w 4 4 _ _ l l (fmF s) (fmF s) hl hl
  rw [hi.2 rfl] at hr
  exact hr
end Go.Proofs.Ythkkfdhgpaonjaa
