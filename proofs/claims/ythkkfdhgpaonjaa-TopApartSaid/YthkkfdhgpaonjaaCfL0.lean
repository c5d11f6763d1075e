/- The document's names of ops: they lie in a new block. -/
import Derived.Test.YthkkfdhgpaonjaaProg
import Derived.WalkSpells
import Derived.WalkLawsBesides
import Derived.Test.YthkkfdhgpaonjaaCsrT
namespace Go.Proofs.Ythkkfdhgpaonjaa
open Go.RowKit
set_option linter.unusedSimpArgs false
set_option linter.unusedVariables false
def names04 : List ByteArray := [⟨#[]⟩, ⟨#[108, 117, 105]⟩, ⟨#[97, 117, 105, 112, 99]⟩, ⟨#[106, 97, 108]⟩, ⟨#[106, 97, 108, 114]⟩, ⟨#[98, 101, 113]⟩, ⟨#[98, 110, 101]⟩, ⟨#[98, 108, 116]⟩, ⟨#[98, 103, 101]⟩, ⟨#[98, 108, 116, 117]⟩, ⟨#[98, 103, 101, 117]⟩, ⟨#[108, 98]⟩, ⟨#[108, 104]⟩, ⟨#[108, 119]⟩, ⟨#[108, 100]⟩, ⟨#[108, 98, 117]⟩, ⟨#[108, 104, 117]⟩, ⟨#[108, 119, 117]⟩, ⟨#[115, 98]⟩, ⟨#[115, 104]⟩, ⟨#[115, 119]⟩, ⟨#[115, 100]⟩, ⟨#[97, 100, 100, 105]⟩, ⟨#[115, 108, 116, 105]⟩, ⟨#[115, 108, 116, 105, 117]⟩, ⟨#[120, 111, 114, 105]⟩, ⟨#[111, 114, 105]⟩, ⟨#[97, 110, 100, 105]⟩, ⟨#[115, 108, 108, 105]⟩, ⟨#[115, 114, 108, 105]⟩, ⟨#[115, 114, 97, 105]⟩, ⟨#[97, 100, 100]⟩, ⟨#[115, 117, 98]⟩, ⟨#[115, 108, 108]⟩, ⟨#[115, 108, 116]⟩, ⟨#[115, 108, 116, 117]⟩, ⟨#[120, 111, 114]⟩, ⟨#[115, 114, 108]⟩, ⟨#[115, 114, 97]⟩, ⟨#[111, 114]⟩, ⟨#[97, 110, 100]⟩, ⟨#[97, 100, 100, 105, 119]⟩, ⟨#[115, 108, 108, 105, 119]⟩, ⟨#[115, 114, 108, 105, 119]⟩, ⟨#[115, 114, 97, 105, 119]⟩, ⟨#[97, 100, 100, 119]⟩, ⟨#[115, 117, 98, 119]⟩, ⟨#[115, 108, 108, 119]⟩, ⟨#[115, 114, 108, 119]⟩, ⟨#[115, 114, 97, 119]⟩, ⟨#[102, 101, 110, 99, 101]⟩, ⟨#[102, 101, 110, 99, 101, 46, 105]⟩, ⟨#[101, 99, 97, 108, 108]⟩, ⟨#[101, 98, 114, 101, 97, 107]⟩, ⟨#[109, 117, 108]⟩, ⟨#[109, 117, 108, 104]⟩, ⟨#[109, 117, 108, 104, 115, 117]⟩, ⟨#[109, 117, 108, 104, 117]⟩, ⟨#[100, 105, 118]⟩, ⟨#[100, 105, 118, 117]⟩, ⟨#[114, 101, 109]⟩, ⟨#[114, 101, 109, 117]⟩, ⟨#[109, 117, 108, 119]⟩, ⟨#[100, 105, 118, 119]⟩, ⟨#[100, 105, 118, 117, 119]⟩, ⟨#[114, 101, 109, 119]⟩, ⟨#[114, 101, 109, 117, 119]⟩, ⟨#[108, 114, 46, 119]⟩, ⟨#[115, 99, 46, 119]⟩, ⟨#[97, 109, 111, 115, 119, 97, 112, 46, 119]⟩, ⟨#[97, 109, 111, 97, 100, 100, 46, 119]⟩, ⟨#[97, 109, 111, 120, 111, 114, 46, 119]⟩, ⟨#[97, 109, 111, 97, 110, 100, 46, 119]⟩, ⟨#[97, 109, 111, 111, 114, 46, 119]⟩, ⟨#[97, 109, 111, 109, 105, 110, 46, 119]⟩, ⟨#[97, 109, 111, 109, 97, 120, 46, 119]⟩, ⟨#[97, 109, 111, 109, 105, 110, 117, 46, 119]⟩, ⟨#[97, 109, 111, 109, 97, 120, 117, 46, 119]⟩, ⟨#[108, 114, 46, 100]⟩, ⟨#[115, 99, 46, 100]⟩, ⟨#[97, 109, 111, 115, 119, 97, 112, 46, 100]⟩, ⟨#[97, 109, 111, 97, 100, 100, 46, 100]⟩, ⟨#[97, 109, 111, 120, 111, 114, 46, 100]⟩, ⟨#[97, 109, 111, 97, 110, 100, 46, 100]⟩, ⟨#[97, 109, 111, 111, 114, 46, 100]⟩, ⟨#[97, 109, 111, 109, 105, 110, 46, 100]⟩, ⟨#[97, 109, 111, 109, 97, 120, 46, 100]⟩, ⟨#[97, 109, 111, 109, 105, 110, 117, 46, 100]⟩, ⟨#[97, 109, 111, 109, 97, 120, 117, 46, 100]⟩, ⟨#[99, 115, 114, 114, 119]⟩, ⟨#[99, 115, 114, 114, 115]⟩, ⟨#[99, 115, 114, 114, 99]⟩, ⟨#[99, 115, 114, 114, 119, 105]⟩, ⟨#[99, 115, 114, 114, 115, 105]⟩, ⟨#[99, 115, 114, 114, 99, 105]⟩, ⟨#[109, 114, 101, 116]⟩, ⟨#[115, 114, 101, 116]⟩, ⟨#[119, 102, 105]⟩, ⟨#[115, 102, 101, 110, 99, 101, 46, 118, 109, 97]⟩]
def cells04 : Array Value := (names04.map Value.string).toArray
def nameAt (op : Nat) : ByteArray := names04.getD op ⟨#[]⟩
theorem cells04_get (k : Nat) (hk : k < 99) : cells04[k]? = some (.string (nameAt k)) := by
  have hl : k < names04.length := hk
  unfold cells04 nameAt
  simp [List.getD_eq_getElem?_getD, List.getElem?_eq_getElem hl]
theorem cells04_at {w : World} {b : Nat} {t : TypeId} (h : w.heap[b]? = some (.cells cells04 t)) (k : Nat) (hk : k < 99) : w.cell? ⟨b, k, none⟩ = some (.string (nameAt k)) := by
  rw [cell_at h]; exact cells04_get k hk
theorem wp_buildSlice_as {P : Program} {o : Oper} {a : Act} {w : World} {K : Act → World → Prop} {Q : Exit → Act → World → Prop} (t : TypeId) (n : Nat) (parts : Array (Nat × Operand)) (ho : o.op = .buildSlice t n parts)
    (v : Value) (w' : World) (hr : (Instr.buildSlice t n (parts.map fun (i, x) => (i, a.eval x))).run P w = .ok v w') (h : K (a.put o.dst v) w') : o.wp P a w K Q := by
  unfold Oper.wp execOp
  simp only [ho, Sem.run_bind, hr, Sem.run_pure, Result.andThen_ok]
  exact h
set_option maxRecDepth 100000 in
set_option maxHeartbeats 4000000 in
theorem names_any (w : World) :
    Calls Try.prog 89 #[] w fun e w' => e = .returned (.slice (some ⟨w.heap.size, 0, none⟩) 99 99) ∧ w' = w.alloc (.cells cells04 9) := by
  go_enter Try.func89, Try.ntmps89
  go_wp2
  with_reducible refine wp_buildSlice_as 142 99 _ (by rfl) (.slice (some ⟨w.heap.size, 0, none⟩) 99 99) (w.alloc (.cells cells04 9)) ?hr ?_
  case hr => kernel_rfl
  go_wp2
  go_ret
  exact ⟨rfl, rfl⟩
end Go.Proofs.Ythkkfdhgpaonjaa
