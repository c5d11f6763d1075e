/- RamPlays: every way. -/
import Derived.Test.YtbboaekfhdeolaaRpN
namespace Go.Proofs.Ytbboaekfhdeolaa
open Go.RowKit
set_option linter.unusedVariables false
theorem rplays_any (lines : Int) (a : Option Addr) (len cap : Nat) (kd : Int) (addr : Nat) (n : Int) (v : Nat) (a' : Option Addr) (l' c' : Nat) (w : World) (hl : len ≤ 9223372036854775807) (hD : RDeeds w a len)
    (ho : addr < 18446744073709551616 ∧ v < 18446744073709551616 ∧ n ≤ 9223372036854775807) (hob : BytesOk w a' l' c') :
    Calls Try.prog 7 #[.int .i64 lines, .slice a len cap, .agg #[.int .i64 kd, .int .u64 (addr : Int), .int .i64 n, .int .u64 (v : Int), .slice a' l' c']] w fun e w' => e = .returned (.bool true) ∧ Below w.heap.size w w' := by
  by_cases hn : 1 ≤ lines ∧ lines ≤ 4096
  · obtain ⟨L, rfl⟩ : ∃ L : Nat, lines = (L : Int) := ⟨lines.toNat, by omega⟩
    by_cases hq : 30 < L ∨ 60 < len ∨ ¬ Few w a len ∨ 500 < l'
    · exact rplays_many L a len cap kd addr n v a' l' c' w (by omega) (by omega) hl hob.ll hD hq
    · have h3 : Few w a len := Classical.byContradiction fun h => hq (.inr (.inr (.inl h)))
      exact rplays_yes L a len cap kd addr n v a' l' c' w (by omega) (by omega) (by omega) (by omega) hD h3 ho hob
  · exact rplays_no lines a len cap kd addr n v a' l' c' w hn
end Go.Proofs.Ytbboaekfhdeolaa
