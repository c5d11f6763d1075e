/-
  No cell of these rows narrows 'for every input' (looked for: loops, veiled, ifaces, maps, wideKeys, modest, calm, conditions, laid).
  DERIVED. THE GIVEN ROWS OF THIS SEAT. 11 by the template 'for every input the law returns true; each argument reads behind the call as it read before'; 0 by the template 'total and deterministic' (their statements: YthkkfdhgpaonjaaTotals.lean).
  GIVEN WITH THE SEED: the statements are not yours to turn. If you find one false, say at which input.
  Laid BY PROGRAM, IN A SANDBOX (cutbox-rows.mjs): the forced cells as the released guide's own fill.sh prints them over the translation f33239f925ebf026… (all of the seat's roots in one cut). By AI agents, Wed Nov 11 2026. No macro, syntax, notation, axiom, sorry.
-/
import Derived.Test.YthkkfdhgpaonjaaChecked
import GoSem.Claim
import GoSem.ClaimJoined
import GoSem.ClaimMapViews
import Derived.JoinedTies
import Derived.KernelRfl
namespace Go.Proofs.Ythkkfdhgpaonjaa
/- THE CELL 'sum', in the pinned program and in every row, IS THE sha256 OF THE DUMP (.gsa) THAT YthkkfdhgpaonjaaProg.lean LOADS. Nothing in Lean hashes anything: it is a label: what it is worth is what the hold of that sum in a sandbox is worth. -/
noncomputable def Try.pinned : Pinned := { name := "ythkkfdhgpaonjaa", sum := "f33239f925ebf026b59293d5fb3f94798baea7e9a7c567c2793acb642fbd7817", checked := Try.checked }
namespace Rows
def none {H : Type} : Left H := { results := [], args := [] }

/-- 'roebucktop.TopApart': WHATEVER THE INPUT: true; the input reads as it did. -/
def topApartSpec : ChangeSpec := { name := "topApart", fn := fun _ => fun
  | [d1, d2, d3] => { results := [.lit (.bool true)], args := [d1, d2, d3] }
  | _ => none }
def topApartRow : OpenClaim := { program := "ythkkfdhgpaonjaa", sum := "f33239f925ebf026b59293d5fb3f94798baea7e9a7c567c2793acb642fbd7817", func := "roebuck/roebucktop.TopApart", spec := "topApart", unfollowed := true, recurses := true, apart := false }
def TopApartSaid : Prop := topApartRow.holds Try.pinned (OpenSpec.ofChange topApartSpec)

/-- ITS FALSE NEIGHBOUR: 'it returns false'. Refute it at one input. -/
def topApartWrong : ChangeSpec := { name := "topApart", fn := fun _ => fun
  | [d1, d2, d3] => { results := [.lit (.bool false)], args := [d1, d2, d3] }
  | _ => none }
def TopApartWrongFalsely : Prop := topApartRow.holds Try.pinned (OpenSpec.ofChange topApartWrong)

/-- 'roebucklaw19.CsrBecomes': WHATEVER THE INPUT: true; the input reads as it did. -/
def csrBecomesSpec : ChangeSpec := { name := "csrBecomes", fn := fun _ => fun
  | [d1, d2, d3] => { results := [.lit (.bool true)], args := [d1, d2, d3] }
  | _ => none }
def csrBecomesRow : OpenClaim := { program := "ythkkfdhgpaonjaa", sum := "f33239f925ebf026b59293d5fb3f94798baea7e9a7c567c2793acb642fbd7817", func := "roebuck/roebucklaw19.CsrBecomes", spec := "csrBecomes", unfollowed := true, recurses := true, apart := false }
def CsrBecomesSaid : Prop := csrBecomesRow.holds Try.pinned (OpenSpec.ofChange csrBecomesSpec)

/-- ITS FALSE NEIGHBOUR: 'it returns false'. Refute it at one input. -/
def csrBecomesWrong : ChangeSpec := { name := "csrBecomes", fn := fun _ => fun
  | [d1, d2, d3] => { results := [.lit (.bool false)], args := [d1, d2, d3] }
  | _ => none }
def CsrBecomesWrongFalsely : Prop := csrBecomesRow.holds Try.pinned (OpenSpec.ofChange csrBecomesWrong)

/-- 'roebucklaw19.CsrTells': WHATEVER THE INPUT: true; the input reads as it did. -/
def csrTellsSpec : ChangeSpec := { name := "csrTells", fn := fun _ => fun
  | [d1, d2, d3] => { results := [.lit (.bool true)], args := [d1, d2, d3] }
  | _ => none }
def csrTellsRow : OpenClaim := { program := "ythkkfdhgpaonjaa", sum := "f33239f925ebf026b59293d5fb3f94798baea7e9a7c567c2793acb642fbd7817", func := "roebuck/roebucklaw19.CsrTells", spec := "csrTells", unfollowed := true, recurses := true, apart := false }
def CsrTellsSaid : Prop := csrTellsRow.holds Try.pinned (OpenSpec.ofChange csrTellsSpec)

/-- ITS FALSE NEIGHBOUR: 'it returns false'. Refute it at one input. -/
def csrTellsWrong : ChangeSpec := { name := "csrTells", fn := fun _ => fun
  | [d1, d2, d3] => { results := [.lit (.bool false)], args := [d1, d2, d3] }
  | _ => none }
def CsrTellsWrongFalsely : Prop := csrTellsRow.holds Try.pinned (OpenSpec.ofChange csrTellsWrong)

/-- 'roebucklaw19.CsrAll': WHATEVER THE INPUT: true; the input reads as it did. -/
def csrAllSpec : ChangeSpec := { name := "csrAll", fn := fun _ => fun
  | [d] => { results := [.lit (.bool true)], args := [d] }
  | _ => none }
def csrAllRow : OpenClaim := { program := "ythkkfdhgpaonjaa", sum := "f33239f925ebf026b59293d5fb3f94798baea7e9a7c567c2793acb642fbd7817", func := "roebuck/roebucklaw19.CsrAll", spec := "csrAll", unfollowed := true, recurses := true, apart := false }
def CsrAllSaid : Prop := csrAllRow.holds Try.pinned (OpenSpec.ofChange csrAllSpec)

/-- ITS FALSE NEIGHBOUR: 'it returns false'. Refute it at one input. -/
def csrAllWrong : ChangeSpec := { name := "csrAll", fn := fun _ => fun
  | [d] => { results := [.lit (.bool false)], args := [d] }
  | _ => none }
def CsrAllWrongFalsely : Prop := csrAllRow.holds Try.pinned (OpenSpec.ofChange csrAllWrong)

/-- 'roebucklaw22.CsrfilePlays': WHATEVER THE INPUT: true; the input reads as it did. -/
def csrfilePlaysSpec : ChangeSpec := { name := "csrfilePlays", fn := fun _ => fun
  | [d1, d2, d3] => { results := [.lit (.bool true)], args := [d1, d2, d3] }
  | _ => none }
def csrfilePlaysRow : OpenClaim := { program := "ythkkfdhgpaonjaa", sum := "f33239f925ebf026b59293d5fb3f94798baea7e9a7c567c2793acb642fbd7817", func := "roebuck/roebucklaw22.CsrfilePlays", spec := "csrfilePlays", unfollowed := true, recurses := true, apart := false }
def CsrfilePlaysSaid : Prop := csrfilePlaysRow.holds Try.pinned (OpenSpec.ofChange csrfilePlaysSpec)

/-- ITS FALSE NEIGHBOUR: 'it returns false'. Refute it at one input. -/
def csrfilePlaysWrong : ChangeSpec := { name := "csrfilePlays", fn := fun _ => fun
  | [d1, d2, d3] => { results := [.lit (.bool false)], args := [d1, d2, d3] }
  | _ => none }
def CsrfilePlaysWrongFalsely : Prop := csrfilePlaysRow.holds Try.pinned (OpenSpec.ofChange csrfilePlaysWrong)

/-- 'roebucklaw22.CsrfileHides': WHATEVER THE INPUT: true; the input reads as it did. -/
def csrfileHidesSpec : ChangeSpec := { name := "csrfileHides", fn := fun _ => fun
  | [d1, d2, d3] => { results := [.lit (.bool true)], args := [d1, d2, d3] }
  | _ => none }
def csrfileHidesRow : OpenClaim := { program := "ythkkfdhgpaonjaa", sum := "f33239f925ebf026b59293d5fb3f94798baea7e9a7c567c2793acb642fbd7817", func := "roebuck/roebucklaw22.CsrfileHides", spec := "csrfileHides", unfollowed := true, recurses := true, apart := false }
def CsrfileHidesSaid : Prop := csrfileHidesRow.holds Try.pinned (OpenSpec.ofChange csrfileHidesSpec)

/-- ITS FALSE NEIGHBOUR: 'it returns false'. Refute it at one input. -/
def csrfileHidesWrong : ChangeSpec := { name := "csrfileHides", fn := fun _ => fun
  | [d1, d2, d3] => { results := [.lit (.bool false)], args := [d1, d2, d3] }
  | _ => none }
def CsrfileHidesWrongFalsely : Prop := csrfileHidesRow.holds Try.pinned (OpenSpec.ofChange csrfileHidesWrong)

/-- 'roebucklaw24.IrqNext': WHATEVER THE INPUT: true; the input reads as it did. -/
def irqNextSpec : ChangeSpec := { name := "irqNext", fn := fun _ => fun
  | [d1, d2, d3] => { results := [.lit (.bool true)], args := [d1, d2, d3] }
  | _ => none }
def irqNextRow : OpenClaim := { program := "ythkkfdhgpaonjaa", sum := "f33239f925ebf026b59293d5fb3f94798baea7e9a7c567c2793acb642fbd7817", func := "roebuck/roebucklaw24.IrqNext", spec := "irqNext", unfollowed := true, recurses := true, apart := false }
def IrqNextSaid : Prop := irqNextRow.holds Try.pinned (OpenSpec.ofChange irqNextSpec)

/-- ITS FALSE NEIGHBOUR: 'it returns false'. Refute it at one input. -/
def irqNextWrong : ChangeSpec := { name := "irqNext", fn := fun _ => fun
  | [d1, d2, d3] => { results := [.lit (.bool false)], args := [d1, d2, d3] }
  | _ => none }
def IrqNextWrongFalsely : Prop := irqNextRow.holds Try.pinned (OpenSpec.ofChange irqNextWrong)

/-- 'roebucklaw24.IrqRises': WHATEVER THE INPUT: true; the input reads as it did. -/
def irqRisesSpec : ChangeSpec := { name := "irqRises", fn := fun _ => fun
  | [d1, d2, d3] => { results := [.lit (.bool true)], args := [d1, d2, d3] }
  | _ => none }
def irqRisesRow : OpenClaim := { program := "ythkkfdhgpaonjaa", sum := "f33239f925ebf026b59293d5fb3f94798baea7e9a7c567c2793acb642fbd7817", func := "roebuck/roebucklaw24.IrqRises", spec := "irqRises", unfollowed := true, recurses := true, apart := false }
def IrqRisesSaid : Prop := irqRisesRow.holds Try.pinned (OpenSpec.ofChange irqRisesSpec)

/-- ITS FALSE NEIGHBOUR: 'it returns false'. Refute it at one input. -/
def irqRisesWrong : ChangeSpec := { name := "irqRises", fn := fun _ => fun
  | [d1, d2, d3] => { results := [.lit (.bool false)], args := [d1, d2, d3] }
  | _ => none }
def IrqRisesWrongFalsely : Prop := irqRisesRow.holds Try.pinned (OpenSpec.ofChange irqRisesWrong)

/-- 'roebucklaw22.CsrfileMays': WHATEVER THE INPUT: true; the input reads as it did. -/
def csrfileMaysSpec : ChangeSpec := { name := "csrfileMays", fn := fun _ => fun
  | [d1, d2, d3] => { results := [.lit (.bool true)], args := [d1, d2, d3] }
  | _ => none }
def csrfileMaysRow : OpenClaim := { program := "ythkkfdhgpaonjaa", sum := "f33239f925ebf026b59293d5fb3f94798baea7e9a7c567c2793acb642fbd7817", func := "roebuck/roebucklaw22.CsrfileMays", spec := "csrfileMays", unfollowed := true, recurses := true, apart := false }
def CsrfileMaysSaid : Prop := csrfileMaysRow.holds Try.pinned (OpenSpec.ofChange csrfileMaysSpec)

/-- ITS FALSE NEIGHBOUR: 'it returns false'. Refute it at one input. -/
def csrfileMaysWrong : ChangeSpec := { name := "csrfileMays", fn := fun _ => fun
  | [d1, d2, d3] => { results := [.lit (.bool false)], args := [d1, d2, d3] }
  | _ => none }
def CsrfileMaysWrongFalsely : Prop := csrfileMaysRow.holds Try.pinned (OpenSpec.ofChange csrfileMaysWrong)

/-- 'roebucklaw23.TrapEnters': WHATEVER THE INPUT: true; the input reads as it did. -/
def trapEntersSpec : ChangeSpec := { name := "trapEnters", fn := fun _ => fun
  | [d1, d2, d3] => { results := [.lit (.bool true)], args := [d1, d2, d3] }
  | _ => none }
def trapEntersRow : OpenClaim := { program := "ythkkfdhgpaonjaa", sum := "f33239f925ebf026b59293d5fb3f94798baea7e9a7c567c2793acb642fbd7817", func := "roebuck/roebucklaw23.TrapEnters", spec := "trapEnters", unfollowed := true, recurses := true, apart := false }
def TrapEntersSaid : Prop := trapEntersRow.holds Try.pinned (OpenSpec.ofChange trapEntersSpec)

/-- ITS FALSE NEIGHBOUR: 'it returns false'. Refute it at one input. -/
def trapEntersWrong : ChangeSpec := { name := "trapEnters", fn := fun _ => fun
  | [d1, d2, d3] => { results := [.lit (.bool false)], args := [d1, d2, d3] }
  | _ => none }
def TrapEntersWrongFalsely : Prop := trapEntersRow.holds Try.pinned (OpenSpec.ofChange trapEntersWrong)

/-- 'roebucklaw23.TrapBack': WHATEVER THE INPUT: true; the input reads as it did. -/
def trapBackSpec : ChangeSpec := { name := "trapBack", fn := fun _ => fun
  | [d1, d2] => { results := [.lit (.bool true)], args := [d1, d2] }
  | _ => none }
def trapBackRow : OpenClaim := { program := "ythkkfdhgpaonjaa", sum := "f33239f925ebf026b59293d5fb3f94798baea7e9a7c567c2793acb642fbd7817", func := "roebuck/roebucklaw23.TrapBack", spec := "trapBack", unfollowed := true, recurses := true, apart := false }
def TrapBackSaid : Prop := trapBackRow.holds Try.pinned (OpenSpec.ofChange trapBackSpec)

/-- ITS FALSE NEIGHBOUR: 'it returns false'. Refute it at one input. -/
def trapBackWrong : ChangeSpec := { name := "trapBack", fn := fun _ => fun
  | [d1, d2] => { results := [.lit (.bool false)], args := [d1, d2] }
  | _ => none }
def TrapBackWrongFalsely : Prop := trapBackRow.holds Try.pinned (OpenSpec.ofChange trapBackWrong)

/- THE SECOND FORM. 'bulk': how many values and letters a reading holds, each counted each time it is reached (what is shared counts as often as it is met; a slice's spare places count too). A statement '..UptoSaid' is the law's where the arguments, and the package variables that the reading takes, are together of bulk at most 1048576: NARROWER than '..Said'. Prove '..Said' where nothing that the law and all that it calls make is longer than what came in: it says more and counts as full. Else prove '..UptoSaid'. A law counts once. -/
mutual
def uptoBulk {H : Type} : DataW H → Nat
  | .lit (.string bytes) => bytes.length + 1
  | .lit _ => 1
  | .nil => 1
  | .ptr d => uptoBulk d + 1
  | .slice elems spare => uptoBulkAll elems + uptoBulkAll spare + 1
  | .agg parts => uptoBulkAll parts + 1
  | .iface _ d => uptoBulk d + 1
  | .map entries => uptoBulkEntries entries + 1
  | .held _ => 1
def uptoBulkAll {H : Type} : List (DataW H) → Nat
  | [] => 0
  | d :: r => uptoBulk d + uptoBulkAll r
def uptoBulkEntries {H : Type} : List (Lit × DataW H) → Nat
  | [] => 0
  | x :: r => uptoBulkEntry x + uptoBulkEntries r
def uptoBulkEntry {H : Type} : Lit × DataW H → Nat
  | (.string bytes, d) => bytes.length + uptoBulk d + 1
  | (_, d) => uptoBulk d + 1
 end
def uptoSmall : (H : Type) → List (DataW H) → Bool := fun _ ds => decide (uptoBulkAll ds ≤ 1048576)
def OpenSpec.upto (s : _root_.Go.ChangeSpec) : _root_.Go.OpenSpec := { _root_.Go.OpenSpec.ofChange s with cond := some uptoSmall }

/-- 'roebucktop.TopApart', WHERE WHAT IT READS IS OF BULK AT MOST 1048576: true; the input reads as it did. -/
def topApartUptoRow : OpenClaim := { program := "ythkkfdhgpaonjaa", sum := "f33239f925ebf026b59293d5fb3f94798baea7e9a7c567c2793acb642fbd7817", func := "roebuck/roebucktop.TopApart", spec := "topApart", unfollowed := true, recurses := true, apart := false, narrowed := true }
def TopApartUptoSaid : Prop := topApartUptoRow.holds Try.pinned (OpenSpec.upto topApartSpec)

/-- 'roebucklaw19.CsrBecomes', WHERE WHAT IT READS IS OF BULK AT MOST 1048576: true; the input reads as it did. -/
def csrBecomesUptoRow : OpenClaim := { program := "ythkkfdhgpaonjaa", sum := "f33239f925ebf026b59293d5fb3f94798baea7e9a7c567c2793acb642fbd7817", func := "roebuck/roebucklaw19.CsrBecomes", spec := "csrBecomes", unfollowed := true, recurses := true, apart := false, narrowed := true }
def CsrBecomesUptoSaid : Prop := csrBecomesUptoRow.holds Try.pinned (OpenSpec.upto csrBecomesSpec)

/-- 'roebucklaw19.CsrTells', WHERE WHAT IT READS IS OF BULK AT MOST 1048576: true; the input reads as it did. -/
def csrTellsUptoRow : OpenClaim := { program := "ythkkfdhgpaonjaa", sum := "f33239f925ebf026b59293d5fb3f94798baea7e9a7c567c2793acb642fbd7817", func := "roebuck/roebucklaw19.CsrTells", spec := "csrTells", unfollowed := true, recurses := true, apart := false, narrowed := true }
def CsrTellsUptoSaid : Prop := csrTellsUptoRow.holds Try.pinned (OpenSpec.upto csrTellsSpec)

/-- 'roebucklaw19.CsrAll', WHERE WHAT IT READS IS OF BULK AT MOST 1048576: true; the input reads as it did. -/
def csrAllUptoRow : OpenClaim := { program := "ythkkfdhgpaonjaa", sum := "f33239f925ebf026b59293d5fb3f94798baea7e9a7c567c2793acb642fbd7817", func := "roebuck/roebucklaw19.CsrAll", spec := "csrAll", unfollowed := true, recurses := true, apart := false, narrowed := true }
def CsrAllUptoSaid : Prop := csrAllUptoRow.holds Try.pinned (OpenSpec.upto csrAllSpec)

/-- 'roebucklaw22.CsrfilePlays', WHERE WHAT IT READS IS OF BULK AT MOST 1048576: true; the input reads as it did. -/
def csrfilePlaysUptoRow : OpenClaim := { program := "ythkkfdhgpaonjaa", sum := "f33239f925ebf026b59293d5fb3f94798baea7e9a7c567c2793acb642fbd7817", func := "roebuck/roebucklaw22.CsrfilePlays", spec := "csrfilePlays", unfollowed := true, recurses := true, apart := false, narrowed := true }
def CsrfilePlaysUptoSaid : Prop := csrfilePlaysUptoRow.holds Try.pinned (OpenSpec.upto csrfilePlaysSpec)

/-- 'roebucklaw22.CsrfileHides', WHERE WHAT IT READS IS OF BULK AT MOST 1048576: true; the input reads as it did. -/
def csrfileHidesUptoRow : OpenClaim := { program := "ythkkfdhgpaonjaa", sum := "f33239f925ebf026b59293d5fb3f94798baea7e9a7c567c2793acb642fbd7817", func := "roebuck/roebucklaw22.CsrfileHides", spec := "csrfileHides", unfollowed := true, recurses := true, apart := false, narrowed := true }
def CsrfileHidesUptoSaid : Prop := csrfileHidesUptoRow.holds Try.pinned (OpenSpec.upto csrfileHidesSpec)

/-- 'roebucklaw24.IrqNext', WHERE WHAT IT READS IS OF BULK AT MOST 1048576: true; the input reads as it did. -/
def irqNextUptoRow : OpenClaim := { program := "ythkkfdhgpaonjaa", sum := "f33239f925ebf026b59293d5fb3f94798baea7e9a7c567c2793acb642fbd7817", func := "roebuck/roebucklaw24.IrqNext", spec := "irqNext", unfollowed := true, recurses := true, apart := false, narrowed := true }
def IrqNextUptoSaid : Prop := irqNextUptoRow.holds Try.pinned (OpenSpec.upto irqNextSpec)

/-- 'roebucklaw24.IrqRises', WHERE WHAT IT READS IS OF BULK AT MOST 1048576: true; the input reads as it did. -/
def irqRisesUptoRow : OpenClaim := { program := "ythkkfdhgpaonjaa", sum := "f33239f925ebf026b59293d5fb3f94798baea7e9a7c567c2793acb642fbd7817", func := "roebuck/roebucklaw24.IrqRises", spec := "irqRises", unfollowed := true, recurses := true, apart := false, narrowed := true }
def IrqRisesUptoSaid : Prop := irqRisesUptoRow.holds Try.pinned (OpenSpec.upto irqRisesSpec)

/-- 'roebucklaw22.CsrfileMays', WHERE WHAT IT READS IS OF BULK AT MOST 1048576: true; the input reads as it did. -/
def csrfileMaysUptoRow : OpenClaim := { program := "ythkkfdhgpaonjaa", sum := "f33239f925ebf026b59293d5fb3f94798baea7e9a7c567c2793acb642fbd7817", func := "roebuck/roebucklaw22.CsrfileMays", spec := "csrfileMays", unfollowed := true, recurses := true, apart := false, narrowed := true }
def CsrfileMaysUptoSaid : Prop := csrfileMaysUptoRow.holds Try.pinned (OpenSpec.upto csrfileMaysSpec)

/-- 'roebucklaw23.TrapEnters', WHERE WHAT IT READS IS OF BULK AT MOST 1048576: true; the input reads as it did. -/
def trapEntersUptoRow : OpenClaim := { program := "ythkkfdhgpaonjaa", sum := "f33239f925ebf026b59293d5fb3f94798baea7e9a7c567c2793acb642fbd7817", func := "roebuck/roebucklaw23.TrapEnters", spec := "trapEnters", unfollowed := true, recurses := true, apart := false, narrowed := true }
def TrapEntersUptoSaid : Prop := trapEntersUptoRow.holds Try.pinned (OpenSpec.upto trapEntersSpec)

/-- 'roebucklaw23.TrapBack', WHERE WHAT IT READS IS OF BULK AT MOST 1048576: true; the input reads as it did. -/
def trapBackUptoRow : OpenClaim := { program := "ythkkfdhgpaonjaa", sum := "f33239f925ebf026b59293d5fb3f94798baea7e9a7c567c2793acb642fbd7817", func := "roebuck/roebucklaw23.TrapBack", spec := "trapBack", unfollowed := true, recurses := true, apart := false, narrowed := true }
def TrapBackUptoSaid : Prop := trapBackUptoRow.holds Try.pinned (OpenSpec.upto trapBackSpec)

end Rows
end Go.Proofs.Ythkkfdhgpaonjaa
