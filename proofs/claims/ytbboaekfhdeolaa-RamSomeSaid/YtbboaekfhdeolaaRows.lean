/-
  No cell of these rows narrows 'for every input' (looked for: loops, veiled, ifaces, maps, wideKeys, modest, calm, conditions, laid).
  DERIVED. THE GIVEN ROWS OF THIS SEAT. 6 by the template 'for every input the law returns true; each argument reads behind the call as it read before'; 0 by the template 'total and deterministic' (their statements: YtbboaekfhdeolaaTotals.lean).
  GIVEN WITH THE SEED: the statements are not yours to turn. If you find one false, say at which input.
  Laid BY PROGRAM, IN A SANDBOX (cutbox-rows.mjs): the forced cells as the released guide's own fill.sh prints them over the translation e73c61d462b8a822… (all of the seat's roots in one cut). By AI agents, Wed Nov 11 2026. No macro, syntax, notation, axiom, sorry.
-/
import Derived.Test.YtbboaekfhdeolaaChecked
import GoSem.Claim
import GoSem.ClaimJoined
import GoSem.ClaimMapViews
import Derived.JoinedTies
import Derived.KernelRfl
namespace Go.Proofs.Ytbboaekfhdeolaa
/- THE CELL 'sum', in the pinned program and in every row, IS THE sha256 OF THE DUMP (.gsa) THAT YtbboaekfhdeolaaProg.lean LOADS. Nothing in Lean hashes anything: it is a label: what it is worth is what the hold of that sum in a sandbox is worth. -/
noncomputable def Try.pinned : Pinned := { name := "ytbboaekfhdeolaa", sum := "e73c61d462b8a822851e1f8a20d888db9274f99d736bd5a8e773b585595cf144", checked := Try.checked }
namespace Rows
def none {H : Type} : Left H := { results := [], args := [] }

/-- 'roebucklaw09.LinePlaces': WHATEVER THE INPUT: true; the input reads as it did. -/
def linePlacesSpec : ChangeSpec := { name := "linePlaces", fn := fun _ => fun
  | [d1, d2, d3] => { results := [.lit (.bool true)], args := [d1, d2, d3] }
  | _ => none }
def linePlacesRow : OpenClaim := { program := "ytbboaekfhdeolaa", sum := "e73c61d462b8a822851e1f8a20d888db9274f99d736bd5a8e773b585595cf144", func := "roebuck/roebucklaw09.LinePlaces", spec := "linePlaces", plainKeys := false, apart := false }
def LinePlacesSaid : Prop := linePlacesRow.holds Try.pinned (OpenSpec.ofChange linePlacesSpec)

/-- ITS FALSE NEIGHBOUR: 'it returns false'. Refute it at one input. -/
def linePlacesWrong : ChangeSpec := { name := "linePlaces", fn := fun _ => fun
  | [d1, d2, d3] => { results := [.lit (.bool false)], args := [d1, d2, d3] }
  | _ => none }
def LinePlacesWrongFalsely : Prop := linePlacesRow.holds Try.pinned (OpenSpec.ofChange linePlacesWrong)

/-- 'roebucklaw09.LineBlends': WHATEVER THE INPUT: true; the input reads as it did. -/
def lineBlendsSpec : ChangeSpec := { name := "lineBlends", fn := fun _ => fun
  | [d1, d2, d3] => { results := [.lit (.bool true)], args := [d1, d2, d3] }
  | _ => none }
def lineBlendsRow : OpenClaim := { program := "ytbboaekfhdeolaa", sum := "e73c61d462b8a822851e1f8a20d888db9274f99d736bd5a8e773b585595cf144", func := "roebuck/roebucklaw09.LineBlends", spec := "lineBlends", plainKeys := false, apart := false }
def LineBlendsSaid : Prop := lineBlendsRow.holds Try.pinned (OpenSpec.ofChange lineBlendsSpec)

/-- ITS FALSE NEIGHBOUR: 'it returns false'. Refute it at one input. -/
def lineBlendsWrong : ChangeSpec := { name := "lineBlends", fn := fun _ => fun
  | [d1, d2, d3] => { results := [.lit (.bool false)], args := [d1, d2, d3] }
  | _ => none }
def LineBlendsWrongFalsely : Prop := lineBlendsRow.holds Try.pinned (OpenSpec.ofChange lineBlendsWrong)

/-- 'roebucklaw09.LineKeeps': WHATEVER THE INPUT: true; the input reads as it did. -/
def lineKeepsSpec : ChangeSpec := { name := "lineKeeps", fn := fun _ => fun
  | [d1, d2, d3] => { results := [.lit (.bool true)], args := [d1, d2, d3] }
  | _ => none }
def lineKeepsRow : OpenClaim := { program := "ytbboaekfhdeolaa", sum := "e73c61d462b8a822851e1f8a20d888db9274f99d736bd5a8e773b585595cf144", func := "roebuck/roebucklaw09.LineKeeps", spec := "lineKeeps", plainKeys := false, apart := false }
def LineKeepsSaid : Prop := lineKeepsRow.holds Try.pinned (OpenSpec.ofChange lineKeepsSpec)

/-- ITS FALSE NEIGHBOUR: 'it returns false'. Refute it at one input. -/
def lineKeepsWrong : ChangeSpec := { name := "lineKeeps", fn := fun _ => fun
  | [d1, d2, d3] => { results := [.lit (.bool false)], args := [d1, d2, d3] }
  | _ => none }
def LineKeepsWrongFalsely : Prop := lineKeepsRow.holds Try.pinned (OpenSpec.ofChange lineKeepsWrong)

/-- 'roebucklaw10.RamKeeps': WHATEVER THE INPUT: true; the input reads as it did. -/
def ramKeepsSpec : ChangeSpec := { name := "ramKeeps", fn := fun _ => fun
  | [d1, d2, d3, d4, d5] => { results := [.lit (.bool true)], args := [d1, d2, d3, d4, d5] }
  | _ => none }
def ramKeepsRow : OpenClaim := { program := "ytbboaekfhdeolaa", sum := "e73c61d462b8a822851e1f8a20d888db9274f99d736bd5a8e773b585595cf144", func := "roebuck/roebucklaw10.RamKeeps", spec := "ramKeeps", unfollowed := true, recurses := true, plainKeys := false, apart := false }
def RamKeepsSaid : Prop := ramKeepsRow.holds Try.pinned (OpenSpec.ofChange ramKeepsSpec)

/-- ITS FALSE NEIGHBOUR: 'it returns false'. Refute it at one input. -/
def ramKeepsWrong : ChangeSpec := { name := "ramKeeps", fn := fun _ => fun
  | [d1, d2, d3, d4, d5] => { results := [.lit (.bool false)], args := [d1, d2, d3, d4, d5] }
  | _ => none }
def RamKeepsWrongFalsely : Prop := ramKeepsRow.holds Try.pinned (OpenSpec.ofChange ramKeepsWrong)

/-- 'roebucklaw10.RamPlays': WHATEVER THE INPUT: true; the input reads as it did. -/
def ramPlaysSpec : ChangeSpec := { name := "ramPlays", fn := fun _ => fun
  | [d1, d2, d3] => { results := [.lit (.bool true)], args := [d1, d2, d3] }
  | _ => none }
def ramPlaysRow : OpenClaim := { program := "ytbboaekfhdeolaa", sum := "e73c61d462b8a822851e1f8a20d888db9274f99d736bd5a8e773b585595cf144", func := "roebuck/roebucklaw10.RamPlays", spec := "ramPlays", unfollowed := true, recurses := true, plainKeys := false, apart := false }
def RamPlaysSaid : Prop := ramPlaysRow.holds Try.pinned (OpenSpec.ofChange ramPlaysSpec)

/-- ITS FALSE NEIGHBOUR: 'it returns false'. Refute it at one input. -/
def ramPlaysWrong : ChangeSpec := { name := "ramPlays", fn := fun _ => fun
  | [d1, d2, d3] => { results := [.lit (.bool false)], args := [d1, d2, d3] }
  | _ => none }
def RamPlaysWrongFalsely : Prop := ramPlaysRow.holds Try.pinned (OpenSpec.ofChange ramPlaysWrong)

/-- 'roebucklaw10.RamSome': WHATEVER THE INPUT: true; the input reads as it did. -/
def ramSomeSpec : ChangeSpec := { name := "ramSome", fn := fun _ => fun
  | [d1, d2] => { results := [.lit (.bool true)], args := [d1, d2] }
  | _ => none }
def ramSomeRow : OpenClaim := { program := "ytbboaekfhdeolaa", sum := "e73c61d462b8a822851e1f8a20d888db9274f99d736bd5a8e773b585595cf144", func := "roebuck/roebucklaw10.RamSome", spec := "ramSome", unfollowed := true, recurses := true, plainKeys := false, apart := false }
def RamSomeSaid : Prop := ramSomeRow.holds Try.pinned (OpenSpec.ofChange ramSomeSpec)

/-- ITS FALSE NEIGHBOUR: 'it returns false'. Refute it at one input. -/
def ramSomeWrong : ChangeSpec := { name := "ramSome", fn := fun _ => fun
  | [d1, d2] => { results := [.lit (.bool false)], args := [d1, d2] }
  | _ => none }
def RamSomeWrongFalsely : Prop := ramSomeRow.holds Try.pinned (OpenSpec.ofChange ramSomeWrong)

/- THE SECOND FORM. 'bulk': how many values and letters a reading holds, each counted each time it is reached (what is shared counts as often as it is met; a slice's spare places count too). A statement '..UptoSaid' is the law's where the arguments, and the package variables that the reading takes, are together of bulk at most 1048576: NARROWER than '..Said'. Prove '..Said' where nothing that the law and all that it calls make is longer than what came in: it says more and counts as full. Else prove '..UptoSaid'. A law counts once. -/
mutual
def uptoBulk {H : Type} : DataW H → Nat
  | .lit (.string bytes) => bytes.length + 1
  | .lit _ => 1
  | .nil => 1
  | .ptr d => uptoBulk d + 1
  | .slice elems spare => uptoBulkAll elems + uptoBulkAll spare + 1
  | .agg parts => uptoBulkAll parts + 1
  | .iface _ d => uptoBulk d + 1
  | .map entries => uptoBulkEntries entries + 1
  | .held _ => 1
def uptoBulkAll {H : Type} : List (DataW H) → Nat
  | [] => 0
  | d :: r => uptoBulk d + uptoBulkAll r
def uptoBulkEntries {H : Type} : List (Lit × DataW H) → Nat
  | [] => 0
  | x :: r => uptoBulkEntry x + uptoBulkEntries r
def uptoBulkEntry {H : Type} : Lit × DataW H → Nat
  | (.string bytes, d) => bytes.length + uptoBulk d + 1
  | (_, d) => uptoBulk d + 1
 end
def uptoSmall : (H : Type) → List (DataW H) → Bool := fun _ ds => decide (uptoBulkAll ds ≤ 1048576)
def OpenSpec.upto (s : _root_.Go.ChangeSpec) : _root_.Go.OpenSpec := { _root_.Go.OpenSpec.ofChange s with cond := some uptoSmall }

/-- 'roebucklaw09.LinePlaces', WHERE WHAT IT READS IS OF BULK AT MOST 1048576: true; the input reads as it did. -/
def linePlacesUptoRow : OpenClaim := { program := "ytbboaekfhdeolaa", sum := "e73c61d462b8a822851e1f8a20d888db9274f99d736bd5a8e773b585595cf144", func := "roebuck/roebucklaw09.LinePlaces", spec := "linePlaces", plainKeys := false, apart := false, narrowed := true }
def LinePlacesUptoSaid : Prop := linePlacesUptoRow.holds Try.pinned (OpenSpec.upto linePlacesSpec)

/-- 'roebucklaw09.LineBlends', WHERE WHAT IT READS IS OF BULK AT MOST 1048576: true; the input reads as it did. -/
def lineBlendsUptoRow : OpenClaim := { program := "ytbboaekfhdeolaa", sum := "e73c61d462b8a822851e1f8a20d888db9274f99d736bd5a8e773b585595cf144", func := "roebuck/roebucklaw09.LineBlends", spec := "lineBlends", plainKeys := false, apart := false, narrowed := true }
def LineBlendsUptoSaid : Prop := lineBlendsUptoRow.holds Try.pinned (OpenSpec.upto lineBlendsSpec)

/-- 'roebucklaw09.LineKeeps', WHERE WHAT IT READS IS OF BULK AT MOST 1048576: true; the input reads as it did. -/
def lineKeepsUptoRow : OpenClaim := { program := "ytbboaekfhdeolaa", sum := "e73c61d462b8a822851e1f8a20d888db9274f99d736bd5a8e773b585595cf144", func := "roebuck/roebucklaw09.LineKeeps", spec := "lineKeeps", plainKeys := false, apart := false, narrowed := true }
def LineKeepsUptoSaid : Prop := lineKeepsUptoRow.holds Try.pinned (OpenSpec.upto lineKeepsSpec)

/-- 'roebucklaw10.RamKeeps', WHERE WHAT IT READS IS OF BULK AT MOST 1048576: true; the input reads as it did. -/
def ramKeepsUptoRow : OpenClaim := { program := "ytbboaekfhdeolaa", sum := "e73c61d462b8a822851e1f8a20d888db9274f99d736bd5a8e773b585595cf144", func := "roebuck/roebucklaw10.RamKeeps", spec := "ramKeeps", unfollowed := true, recurses := true, plainKeys := false, apart := false, narrowed := true }
def RamKeepsUptoSaid : Prop := ramKeepsUptoRow.holds Try.pinned (OpenSpec.upto ramKeepsSpec)

/-- 'roebucklaw10.RamPlays', WHERE WHAT IT READS IS OF BULK AT MOST 1048576: true; the input reads as it did. -/
def ramPlaysUptoRow : OpenClaim := { program := "ytbboaekfhdeolaa", sum := "e73c61d462b8a822851e1f8a20d888db9274f99d736bd5a8e773b585595cf144", func := "roebuck/roebucklaw10.RamPlays", spec := "ramPlays", unfollowed := true, recurses := true, plainKeys := false, apart := false, narrowed := true }
def RamPlaysUptoSaid : Prop := ramPlaysUptoRow.holds Try.pinned (OpenSpec.upto ramPlaysSpec)

/-- 'roebucklaw10.RamSome', WHERE WHAT IT READS IS OF BULK AT MOST 1048576: true; the input reads as it did. -/
def ramSomeUptoRow : OpenClaim := { program := "ytbboaekfhdeolaa", sum := "e73c61d462b8a822851e1f8a20d888db9274f99d736bd5a8e773b585595cf144", func := "roebuck/roebucklaw10.RamSome", spec := "ramSome", unfollowed := true, recurses := true, plainKeys := false, apart := false, narrowed := true }
def RamSomeUptoSaid : Prop := ramSomeUptoRow.holds Try.pinned (OpenSpec.upto ramSomeSpec)

end Rows
end Go.Proofs.Ytbboaekfhdeolaa
