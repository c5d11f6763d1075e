/-
  No cell of these rows narrows 'for every input' (looked for: loops, veiled, ifaces, maps, wideKeys, modest, calm, conditions, laid).
  DERIVED. THE GIVEN ROWS OF THIS SEAT. 6 by the template 'for every input the law returns true; each argument reads behind the call as it read before'; 0 by the template 'total and deterministic' (their statements: YtaogccjihbbdcaaTotals.lean).
  GIVEN WITH THE SEED: the statements are not yours to turn. If you find one false, say at which input.
  Laid BY PROGRAM, IN A SANDBOX (cutbox-rows.mjs): the forced cells as the released guide's own fill.sh prints them over the translation f6d84f5f0cfeb68b… (all of the seat's roots in one cut). By AI agents, Wed Nov 11 2026. No macro, syntax, notation, axiom, sorry.
-/
import Derived.Test.YtaogccjihbbdcaaChecked
import GoSem.Claim
import GoSem.ClaimJoined
import GoSem.ClaimMapViews
import Derived.JoinedTies
import Derived.KernelRfl
namespace Go.Proofs.Ytaogccjihbbdcaa
/- THE CELL 'sum', in the pinned program and in every row, IS THE sha256 OF THE DUMP (.gsa) THAT YtaogccjihbbdcaaProg.lean LOADS. Nothing in Lean hashes anything: it is a label: what it is worth is what the hold of that sum in a sandbox is worth. -/
noncomputable def Try.pinned : Pinned := { name := "ytaogccjihbbdcaa", sum := "f6d84f5f0cfeb68bb57aeba12f17fe72238a2077035b42fec20b8f7cf986cf4f", checked := Try.checked }
namespace Rows
def none {H : Type} : Left H := { results := [], args := [] }

/-- 'roebucklaw21.CauseFirst': WHATEVER THE INPUT: true; the input reads as it did. -/
def causeFirstSpec : ChangeSpec := { name := "causeFirst", fn := fun _ => fun
  | [d] => { results := [.lit (.bool true)], args := [d] }
  | _ => none }
def causeFirstRow : OpenClaim := { program := "ytaogccjihbbdcaa", sum := "f6d84f5f0cfeb68bb57aeba12f17fe72238a2077035b42fec20b8f7cf986cf4f", func := "roebuck/roebucklaw21.CauseFirst", spec := "causeFirst", apart := false }
def CauseFirstSaid : Prop := causeFirstRow.holds Try.pinned (OpenSpec.ofChange causeFirstSpec)

/-- ITS FALSE NEIGHBOUR: 'it returns false'. Refute it at one input. -/
def causeFirstWrong : ChangeSpec := { name := "causeFirst", fn := fun _ => fun
  | [d] => { results := [.lit (.bool false)], args := [d] }
  | _ => none }
def CauseFirstWrongFalsely : Prop := causeFirstRow.holds Try.pinned (OpenSpec.ofChange causeFirstWrong)

/-- 'roebucklaw21.CauseTakes': WHATEVER THE INPUT: true; the input reads as it did. -/
def causeTakesSpec : ChangeSpec := { name := "causeTakes", fn := fun _ => fun
  | [d1, d2, d3] => { results := [.lit (.bool true)], args := [d1, d2, d3] }
  | _ => none }
def causeTakesRow : OpenClaim := { program := "ytaogccjihbbdcaa", sum := "f6d84f5f0cfeb68bb57aeba12f17fe72238a2077035b42fec20b8f7cf986cf4f", func := "roebuck/roebucklaw21.CauseTakes", spec := "causeTakes", apart := false }
def CauseTakesSaid : Prop := causeTakesRow.holds Try.pinned (OpenSpec.ofChange causeTakesSpec)

/-- ITS FALSE NEIGHBOUR: 'it returns false'. Refute it at one input. -/
def causeTakesWrong : ChangeSpec := { name := "causeTakes", fn := fun _ => fun
  | [d1, d2, d3] => { results := [.lit (.bool false)], args := [d1, d2, d3] }
  | _ => none }
def CauseTakesWrongFalsely : Prop := causeTakesRow.holds Try.pinned (OpenSpec.ofChange causeTakesWrong)

/-- 'roebucklaw20.StatusTraps': WHATEVER THE INPUT: true; the input reads as it did. -/
def statusTrapsSpec : ChangeSpec := { name := "statusTraps", fn := fun _ => fun
  | [d1, d2, d3] => { results := [.lit (.bool true)], args := [d1, d2, d3] }
  | _ => none }
def statusTrapsRow : OpenClaim := { program := "ytaogccjihbbdcaa", sum := "f6d84f5f0cfeb68bb57aeba12f17fe72238a2077035b42fec20b8f7cf986cf4f", func := "roebuck/roebucklaw20.StatusTraps", spec := "statusTraps", apart := false }
def StatusTrapsSaid : Prop := statusTrapsRow.holds Try.pinned (OpenSpec.ofChange statusTrapsSpec)

/-- ITS FALSE NEIGHBOUR: 'it returns false'. Refute it at one input. -/
def statusTrapsWrong : ChangeSpec := { name := "statusTraps", fn := fun _ => fun
  | [d1, d2, d3] => { results := [.lit (.bool false)], args := [d1, d2, d3] }
  | _ => none }
def StatusTrapsWrongFalsely : Prop := statusTrapsRow.holds Try.pinned (OpenSpec.ofChange statusTrapsWrong)

/-- 'roebucklaw21.CauseNames': WHATEVER THE INPUT: true; the input reads as it did. -/
def causeNamesSpec : ChangeSpec := { name := "causeNames", fn := fun _ => fun
  | [d1, d2, d3] => { results := [.lit (.bool true)], args := [d1, d2, d3] }
  | _ => none }
def causeNamesRow : OpenClaim := { program := "ytaogccjihbbdcaa", sum := "f6d84f5f0cfeb68bb57aeba12f17fe72238a2077035b42fec20b8f7cf986cf4f", func := "roebuck/roebucklaw21.CauseNames", spec := "causeNames", unfollowed := true, recurses := true, apart := false }
def CauseNamesSaid : Prop := causeNamesRow.holds Try.pinned (OpenSpec.ofChange causeNamesSpec)

/-- ITS FALSE NEIGHBOUR: 'it returns false'. Refute it at one input. -/
def causeNamesWrong : ChangeSpec := { name := "causeNames", fn := fun _ => fun
  | [d1, d2, d3] => { results := [.lit (.bool false)], args := [d1, d2, d3] }
  | _ => none }
def CauseNamesWrongFalsely : Prop := causeNamesRow.holds Try.pinned (OpenSpec.ofChange causeNamesWrong)

/-- 'roebucklaw20.StatusBack': WHATEVER THE INPUT: true; the input reads as it did. -/
def statusBackSpec : ChangeSpec := { name := "statusBack", fn := fun _ => fun
  | [d1, d2, d3] => { results := [.lit (.bool true)], args := [d1, d2, d3] }
  | _ => none }
def statusBackRow : OpenClaim := { program := "ytaogccjihbbdcaa", sum := "f6d84f5f0cfeb68bb57aeba12f17fe72238a2077035b42fec20b8f7cf986cf4f", func := "roebuck/roebucklaw20.StatusBack", spec := "statusBack", unfollowed := true, recurses := true, apart := false }
def StatusBackSaid : Prop := statusBackRow.holds Try.pinned (OpenSpec.ofChange statusBackSpec)

/-- ITS FALSE NEIGHBOUR: 'it returns false'. Refute it at one input. -/
def statusBackWrong : ChangeSpec := { name := "statusBack", fn := fun _ => fun
  | [d1, d2, d3] => { results := [.lit (.bool false)], args := [d1, d2, d3] }
  | _ => none }
def StatusBackWrongFalsely : Prop := statusBackRow.holds Try.pinned (OpenSpec.ofChange statusBackWrong)

/-- 'roebucklaw20.StatusViews': WHATEVER THE INPUT: true; the input reads as it did. -/
def statusViewsSpec : ChangeSpec := { name := "statusViews", fn := fun _ => fun
  | [d1, d2, d3] => { results := [.lit (.bool true)], args := [d1, d2, d3] }
  | _ => none }
def statusViewsRow : OpenClaim := { program := "ytaogccjihbbdcaa", sum := "f6d84f5f0cfeb68bb57aeba12f17fe72238a2077035b42fec20b8f7cf986cf4f", func := "roebuck/roebucklaw20.StatusViews", spec := "statusViews", unfollowed := true, recurses := true, apart := false }
def StatusViewsSaid : Prop := statusViewsRow.holds Try.pinned (OpenSpec.ofChange statusViewsSpec)

/-- ITS FALSE NEIGHBOUR: 'it returns false'. Refute it at one input. -/
def statusViewsWrong : ChangeSpec := { name := "statusViews", fn := fun _ => fun
  | [d1, d2, d3] => { results := [.lit (.bool false)], args := [d1, d2, d3] }
  | _ => none }
def StatusViewsWrongFalsely : Prop := statusViewsRow.holds Try.pinned (OpenSpec.ofChange statusViewsWrong)

/- THE SECOND FORM. 'bulk': how many values and letters a reading holds, each counted each time it is reached (what is shared counts as often as it is met; a slice's spare places count too). A statement '..UptoSaid' is the law's where the arguments, and the package variables that the reading takes, are together of bulk at most 1048576: NARROWER than '..Said'. Prove '..Said' where nothing that the law and all that it calls make is longer than what came in: it says more and counts as full. Else prove '..UptoSaid'. A law counts once. -/
mutual
def uptoBulk {H : Type} : DataW H → Nat
  | .lit (.string bytes) => bytes.length + 1
  | .lit _ => 1
  | .nil => 1
  | .ptr d => uptoBulk d + 1
  | .slice elems spare => uptoBulkAll elems + uptoBulkAll spare + 1
  | .agg parts => uptoBulkAll parts + 1
  | .iface _ d => uptoBulk d + 1
  | .map entries => uptoBulkEntries entries + 1
  | .held _ => 1
def uptoBulkAll {H : Type} : List (DataW H) → Nat
  | [] => 0
  | d :: r => uptoBulk d + uptoBulkAll r
def uptoBulkEntries {H : Type} : List (Lit × DataW H) → Nat
  | [] => 0
  | x :: r => uptoBulkEntry x + uptoBulkEntries r
def uptoBulkEntry {H : Type} : Lit × DataW H → Nat
  | (.string bytes, d) => bytes.length + uptoBulk d + 1
  | (_, d) => uptoBulk d + 1
 end
def uptoSmall : (H : Type) → List (DataW H) → Bool := fun _ ds => decide (uptoBulkAll ds ≤ 1048576)
def OpenSpec.upto (s : _root_.Go.ChangeSpec) : _root_.Go.OpenSpec := { _root_.Go.OpenSpec.ofChange s with cond := some uptoSmall }

/-- 'roebucklaw21.CauseFirst', WHERE WHAT IT READS IS OF BULK AT MOST 1048576: true; the input reads as it did. -/
def causeFirstUptoRow : OpenClaim := { program := "ytaogccjihbbdcaa", sum := "f6d84f5f0cfeb68bb57aeba12f17fe72238a2077035b42fec20b8f7cf986cf4f", func := "roebuck/roebucklaw21.CauseFirst", spec := "causeFirst", apart := false, narrowed := true }
def CauseFirstUptoSaid : Prop := causeFirstUptoRow.holds Try.pinned (OpenSpec.upto causeFirstSpec)

/-- 'roebucklaw21.CauseTakes', WHERE WHAT IT READS IS OF BULK AT MOST 1048576: true; the input reads as it did. -/
def causeTakesUptoRow : OpenClaim := { program := "ytaogccjihbbdcaa", sum := "f6d84f5f0cfeb68bb57aeba12f17fe72238a2077035b42fec20b8f7cf986cf4f", func := "roebuck/roebucklaw21.CauseTakes", spec := "causeTakes", apart := false, narrowed := true }
def CauseTakesUptoSaid : Prop := causeTakesUptoRow.holds Try.pinned (OpenSpec.upto causeTakesSpec)

/-- 'roebucklaw20.StatusTraps', WHERE WHAT IT READS IS OF BULK AT MOST 1048576: true; the input reads as it did. -/
def statusTrapsUptoRow : OpenClaim := { program := "ytaogccjihbbdcaa", sum := "f6d84f5f0cfeb68bb57aeba12f17fe72238a2077035b42fec20b8f7cf986cf4f", func := "roebuck/roebucklaw20.StatusTraps", spec := "statusTraps", apart := false, narrowed := true }
def StatusTrapsUptoSaid : Prop := statusTrapsUptoRow.holds Try.pinned (OpenSpec.upto statusTrapsSpec)

/-- 'roebucklaw21.CauseNames', WHERE WHAT IT READS IS OF BULK AT MOST 1048576: true; the input reads as it did. -/
def causeNamesUptoRow : OpenClaim := { program := "ytaogccjihbbdcaa", sum := "f6d84f5f0cfeb68bb57aeba12f17fe72238a2077035b42fec20b8f7cf986cf4f", func := "roebuck/roebucklaw21.CauseNames", spec := "causeNames", unfollowed := true, recurses := true, apart := false, narrowed := true }
def CauseNamesUptoSaid : Prop := causeNamesUptoRow.holds Try.pinned (OpenSpec.upto causeNamesSpec)

/-- 'roebucklaw20.StatusBack', WHERE WHAT IT READS IS OF BULK AT MOST 1048576: true; the input reads as it did. -/
def statusBackUptoRow : OpenClaim := { program := "ytaogccjihbbdcaa", sum := "f6d84f5f0cfeb68bb57aeba12f17fe72238a2077035b42fec20b8f7cf986cf4f", func := "roebuck/roebucklaw20.StatusBack", spec := "statusBack", unfollowed := true, recurses := true, apart := false, narrowed := true }
def StatusBackUptoSaid : Prop := statusBackUptoRow.holds Try.pinned (OpenSpec.upto statusBackSpec)

/-- 'roebucklaw20.StatusViews', WHERE WHAT IT READS IS OF BULK AT MOST 1048576: true; the input reads as it did. -/
def statusViewsUptoRow : OpenClaim := { program := "ytaogccjihbbdcaa", sum := "f6d84f5f0cfeb68bb57aeba12f17fe72238a2077035b42fec20b8f7cf986cf4f", func := "roebuck/roebucklaw20.StatusViews", spec := "statusViews", unfollowed := true, recurses := true, apart := false, narrowed := true }
def StatusViewsUptoSaid : Prop := statusViewsUptoRow.holds Try.pinned (OpenSpec.upto statusViewsSpec)

end Rows
end Go.Proofs.Ytaogccjihbbdcaa
