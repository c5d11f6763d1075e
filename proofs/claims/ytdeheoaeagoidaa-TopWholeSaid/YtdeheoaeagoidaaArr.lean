/- Laws of arrays as values: an element of one cell is read by its place. No condition. -/
import Derived.Test.YtdeheoaeagoidaaProg
import Derived.WalkKit
import Derived.WalkSpells
import Derived.WalkLawsBesides
import Derived.KernelRfl
namespace Go.Proofs.Ytdeheoaeagoidaa
open Go.RowKit

/-- A type of one cell that is no struct and no array. -/
def one1 (P : Program) (e : TypeId) : Bool :=
  (match P.info? e with | some i => decide (i.size = 1) | none => false) && (match P.underlying e with | some (.struct _) => false | some (.array _ _) => false | some _ => true | none => false)

theorem run_part_one {P : Program} {e : TypeId} (h1 : one1 P e = true) {cs : Array Value} {off : Nat} (h : off < cs.size) (w : World) : (part e cs off).run P w = .ok (cs.getD off undef) w := by
  unfold one1 at h1
  rw [Bool.and_eq_true] at h1
  have hagg : (isAgg e).run P w = .ok false w := by
    cases hu : P.underlying e with
    | none => rw [hu] at h1; simp at h1
    | some d => rw [hu] at h1; cases d <;> simp [isAgg, run_underlying hu] at h1 ⊢
  simp [part, hagg, h]

theorem run_index_arr {P : Program} {t e : TypeId} {n : Nat} (ht : P.underlying t = some (.array n e)) (h1 : one1 P e = true) {cs : Array Value} (hc : cs.size = n) (k : IntKind) (i : Int) (h0 : 0 ≤ i) (hn : i < n) (w : World) :
    (Instr.index t (.agg cs) (.int k i)).run P w = .ok (cs.getD i.toNat undef) w := by
  have hlt : i.toNat < cs.size := by omega
  have h2 := h1
  unfold one1 at h2
  rw [Bool.and_eq_true] at h2
  cases hi : P.info? e with
  | none => rw [hi] at h2; simp at h2
  | some inf =>
    rw [hi] at h2
    have hs : inf.size = 1 := by simpa using h2.1
    simp [Instr.index, asIntOf, run_underlying ht, h0, hn, sizeOf, typeInfo, hi, hs]
    rw [run_part_one h1 hlt]
    simp [hlt]

end Go.Proofs.Ytdeheoaeagoidaa
