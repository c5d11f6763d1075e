/- The table of CSRs. Plain. -/
import Derived.Test.YthkkfdhgpaonjaaMHeld
import Derived.Lib.Hide
namespace Go.Proofs.Ythkkfdhgpaonjaa
open Go.RowKit
set_option linter.unusedSimpArgs false
set_option linter.unusedVariables false

def tab19 : List (Int × ByteArray × Nat) := [(256, ⟨#[115, 115, 116, 97, 116, 117, 115]⟩, 786722), (260, ⟨#[115, 105, 101]⟩, 546), (261, ⟨#[115, 116, 118, 101, 99]⟩, 18446744073709551613), (262, ⟨#[115, 99, 111, 117, 110, 116, 101, 114, 101, 110]⟩, 7), (320, ⟨#[115, 115, 99, 114, 97, 116, 99, 104]⟩, 18446744073709551615), (321, ⟨#[115, 101, 112, 99]⟩, 18446744073709551612), (322, ⟨#[115, 99, 97, 117, 115, 101]⟩, 18446744073709551615), (323, ⟨#[115, 116, 118, 97, 108]⟩, 18446744073709551615), (324, ⟨#[115, 105, 112]⟩, 2), (384, ⟨#[115, 97, 116, 112]⟩, 18446744073709551615), (768, ⟨#[109, 115, 116, 97, 116, 117, 115]⟩, 8264106), (769, ⟨#[109, 105, 115, 97]⟩, 0), (770, ⟨#[109, 101, 100, 101, 108, 101, 103]⟩, 46079), (771, ⟨#[109, 105, 100, 101, 108, 101, 103]⟩, 546), (772, ⟨#[109, 105, 101]⟩, 2730), (773, ⟨#[109, 116, 118, 101, 99]⟩, 18446744073709551613), (774, ⟨#[109, 99, 111, 117, 110, 116, 101, 114, 101, 110]⟩, 7), (832, ⟨#[109, 115, 99, 114, 97, 116, 99, 104]⟩, 18446744073709551615), (833, ⟨#[109, 101, 112, 99]⟩, 18446744073709551612), (834, ⟨#[109, 99, 97, 117, 115, 101]⟩, 18446744073709551615), (835, ⟨#[109, 116, 118, 97, 108]⟩, 18446744073709551615), (836, ⟨#[109, 105, 112]⟩, 546), (1472, ⟨#[115, 104, 111, 111, 116, 118, 97]⟩, 18446744073709551615), (1473, ⟨#[115, 104, 111, 111, 116, 97, 115, 105, 100]⟩, 65535), (1474, ⟨#[115, 104, 111, 111, 116]⟩, 1023), (2816, ⟨#[109, 99, 121, 99, 108, 101]⟩, 18446744073709551615), (2818, ⟨#[109, 105, 110, 115, 116, 114, 101, 116]⟩, 18446744073709551615), (3072, ⟨#[99, 121, 99, 108, 101]⟩, 0), (3073, ⟨#[116, 105, 109, 101]⟩, 0), (3074, ⟨#[105, 110, 115, 116, 114, 101, 116]⟩, 0), (3857, ⟨#[109, 118, 101, 110, 100, 111, 114, 105, 100]⟩, 0), (3858, ⟨#[109, 97, 114, 99, 104, 105, 100]⟩, 0), (3859, ⟨#[109, 105, 109, 112, 105, 100]⟩, 0), (3860, ⟨#[109, 104, 97, 114, 116, 105, 100]⟩, 0)]

def cells19 : Array Value := (tab19.flatMap fun r => [.int .i64 r.1, .string r.2.1, .int .u64 r.2.2]).toArray

theorem flat19 {l : List (Int × ByteArray × Nat)} (k : Nat) {r : Int × ByteArray × Nat} (h : l[k]? = some r) :
    (l.flatMap fun r => [Value.int .i64 r.1, .string r.2.1, .int .u64 r.2.2])[3 * k]? = some (.int .i64 r.1) ∧
    (l.flatMap fun r => [Value.int .i64 r.1, .string r.2.1, .int .u64 r.2.2])[3 * k + 1]? = some (.string r.2.1) ∧
    (l.flatMap fun r => [Value.int .i64 r.1, .string r.2.1, .int .u64 r.2.2])[3 * k + 2]? = some (.int .u64 r.2.2) := by
  induction l generalizing k with
  | nil => simp at h
  | cons a l ih =>
    cases k with
    | zero => simp at h; subst h; simp
    | succ k =>
      have := ih k (by simpa using h)
      have e : 3 * (k + 1) = 3 * k + 3 := by omega
      simp [e, this]

theorem cells19_get (k : Nat) (hk : k < 34) :
    cells19[k * 3]? = some (.int .i64 (tab19.getD k default).1) ∧ cells19[k * 3 + 1]? = some (.string (tab19.getD k default).2.1) ∧ cells19[k * 3 + 2]? = some (.int .u64 (tab19.getD k default).2.2) := by
  have hr : tab19[k]? = some (tab19.getD k default) := by
    have : k < tab19.length := hk
    simp [this]
  have := flat19 k hr
  rw [Nat.mul_comm 3 k] at this
  simpa [cells19] using this

theorem cells19_at {w : World} {b : Nat} {t : TypeId} (h : w.heap[b]? = some (.cells cells19 t)) (k : Nat) (hk : k < 34) :
    w.cell? ⟨b, k * 3, none⟩ = some (.int .i64 (tab19.getD k default).1) ∧ w.cell? ⟨b, k * 3 + 1, none⟩ = some (.string (tab19.getD k default).2.1) ∧ w.cell? ⟨b, k * 3 + 2, none⟩ = some (.int .u64 (tab19.getD k default).2.2) := by
  rw [cell_at h, cell_at h, cell_at h]
  exact cells19_get k hk

theorem step19 (p : Int × ByteArray × Nat → Bool) (k : Nat) (hk : k < 34) : (tab19.drop k).find? p = if p (tab19.getD k default) then some (tab19.getD k default) else (tab19.drop (k + 1)).find? p := by
  have : k < tab19.length := hk
  rw [List.drop_eq_getElem_cons this, List.find?_cons]
  simp only [List.getD_eq_getElem?_getD, List.getElem?_eq_getElem this, Option.getD_some]
  split <;> simp_all

/-- The row of a number; of a name. -/
def row19 (n : Int) : Option (Int × ByteArray × Nat) := tab19.find? fun r => r.1 == n
def name19 (s : List UInt8) : Option (Int × ByteArray × Nat) := tab19.find? fun r => r.2.1.toList == s
def mask19 (n : Int) : Nat := match row19 n with | some r => r.2.2 | none => 0
theorem mask_all : ∀ r ∈ tab19, r.2.2 < 18446744073709551616 := by decide
theorem mask19_lt (n : Int) : mask19 n < 18446744073709551616 := by
  unfold mask19
  cases h : row19 n with
  | none => decide
  | some r => exact mask_all r (List.mem_of_find?_eq_some h)
end Go.Proofs.Ythkkfdhgpaonjaa
