/-
  No cell of these rows narrows 'for every input' (looked for: loops, veiled, ifaces, maps, wideKeys, modest, calm, conditions, laid).
  DERIVED. THE GIVEN ROWS OF THIS SEAT. 8 by the template 'for every input the law returns true; each argument reads behind the call as it read before'; 0 by the template 'total and deterministic' (their statements: YtochhjimahcamaaTotals.lean).
  GIVEN WITH THE SEED: the statements are not yours to turn. If you find one false, say at which input.
  Laid BY PROGRAM, IN A SANDBOX (cutbox-rows.mjs): the forced cells as the released guide's own fill.sh prints them over the translation f3a94bac9d4694c0… (all of the seat's roots in one cut). By AI agents, Wed Nov 11 2026. No macro, syntax, notation, axiom, sorry.
-/
import Derived.Test.YtochhjimahcamaaChecked
import GoSem.Claim
import GoSem.ClaimJoined
import GoSem.ClaimMapViews
import Derived.JoinedTies
import Derived.KernelRfl
namespace Go.Proofs.Ytochhjimahcamaa
/- THE CELL 'sum', in the pinned program and in every row, IS THE sha256 OF THE DUMP (.gsa) THAT YtochhjimahcamaaProg.lean LOADS. Nothing in Lean hashes anything: it is a label: what it is worth is what the hold of that sum in a sandbox is worth. -/
noncomputable def Try.pinned : Pinned := { name := "ytochhjimahcamaa", sum := "f3a94bac9d4694c02ea9c8674235d43c22c85085a30fe7b2ff637a807f624190", checked := Try.checked }
namespace Rows
def none {H : Type} : Left H := { results := [], args := [] }

/-- 'cellarlaw05.RecordEncodes': WHATEVER THE INPUT: true; the input reads as it did. -/
def recordEncodesSpec : ChangeSpec := { name := "recordEncodes", fn := fun _ => fun
  | [d1, d2, d3] => { results := [.lit (.bool true)], args := [d1, d2, d3] }
  | _ => none }
def recordEncodesRow : OpenClaim := { program := "ytochhjimahcamaa", sum := "f3a94bac9d4694c02ea9c8674235d43c22c85085a30fe7b2ff637a807f624190", func := "cellar/cellarlaw05.RecordEncodes", spec := "recordEncodes", apart := false }
def RecordEncodesSaid : Prop := recordEncodesRow.holds Try.pinned (OpenSpec.ofChange recordEncodesSpec)

/-- ITS FALSE NEIGHBOUR: 'it returns false'. Refute it at one input. -/
def recordEncodesWrong : ChangeSpec := { name := "recordEncodes", fn := fun _ => fun
  | [d1, d2, d3] => { results := [.lit (.bool false)], args := [d1, d2, d3] }
  | _ => none }
def RecordEncodesWrongFalsely : Prop := recordEncodesRow.holds Try.pinned (OpenSpec.ofChange recordEncodesWrong)

/-- 'cellarlaw05.RecordDecodes': WHATEVER THE INPUT: true; the input reads as it did. -/
def recordDecodesSpec : ChangeSpec := { name := "recordDecodes", fn := fun _ => fun
  | [d1, d2, d3, d4] => { results := [.lit (.bool true)], args := [d1, d2, d3, d4] }
  | _ => none }
def recordDecodesRow : OpenClaim := { program := "ytochhjimahcamaa", sum := "f3a94bac9d4694c02ea9c8674235d43c22c85085a30fe7b2ff637a807f624190", func := "cellar/cellarlaw05.RecordDecodes", spec := "recordDecodes", apart := false }
def RecordDecodesSaid : Prop := recordDecodesRow.holds Try.pinned (OpenSpec.ofChange recordDecodesSpec)

/-- ITS FALSE NEIGHBOUR: 'it returns false'. Refute it at one input. -/
def recordDecodesWrong : ChangeSpec := { name := "recordDecodes", fn := fun _ => fun
  | [d1, d2, d3, d4] => { results := [.lit (.bool false)], args := [d1, d2, d3, d4] }
  | _ => none }
def RecordDecodesWrongFalsely : Prop := recordDecodesRow.holds Try.pinned (OpenSpec.ofChange recordDecodesWrong)

/-- 'cellarlaw05.RecordBack': WHATEVER THE INPUT: true; the input reads as it did. -/
def recordBackSpec : ChangeSpec := { name := "recordBack", fn := fun _ => fun
  | [d1, d2, d3, d4, d5] => { results := [.lit (.bool true)], args := [d1, d2, d3, d4, d5] }
  | _ => none }
def recordBackRow : OpenClaim := { program := "ytochhjimahcamaa", sum := "f3a94bac9d4694c02ea9c8674235d43c22c85085a30fe7b2ff637a807f624190", func := "cellar/cellarlaw05.RecordBack", spec := "recordBack", apart := false }
def RecordBackSaid : Prop := recordBackRow.holds Try.pinned (OpenSpec.ofChange recordBackSpec)

/-- ITS FALSE NEIGHBOUR: 'it returns false'. Refute it at one input. -/
def recordBackWrong : ChangeSpec := { name := "recordBack", fn := fun _ => fun
  | [d1, d2, d3, d4, d5] => { results := [.lit (.bool false)], args := [d1, d2, d3, d4, d5] }
  | _ => none }
def RecordBackWrongFalsely : Prop := recordBackRow.holds Try.pinned (OpenSpec.ofChange recordBackWrong)

/-- 'cellarlaw05.RecordTurned': WHATEVER THE INPUT: true; the input reads as it did. -/
def recordTurnedSpec : ChangeSpec := { name := "recordTurned", fn := fun _ => fun
  | [d1, d2, d3, d4, d5, d6] => { results := [.lit (.bool true)], args := [d1, d2, d3, d4, d5, d6] }
  | _ => none }
def recordTurnedRow : OpenClaim := { program := "ytochhjimahcamaa", sum := "f3a94bac9d4694c02ea9c8674235d43c22c85085a30fe7b2ff637a807f624190", func := "cellar/cellarlaw05.RecordTurned", spec := "recordTurned", apart := false }
def RecordTurnedSaid : Prop := recordTurnedRow.holds Try.pinned (OpenSpec.ofChange recordTurnedSpec)

/-- ITS FALSE NEIGHBOUR: 'it returns false'. Refute it at one input. -/
def recordTurnedWrong : ChangeSpec := { name := "recordTurned", fn := fun _ => fun
  | [d1, d2, d3, d4, d5, d6] => { results := [.lit (.bool false)], args := [d1, d2, d3, d4, d5, d6] }
  | _ => none }
def RecordTurnedWrongFalsely : Prop := recordTurnedRow.holds Try.pinned (OpenSpec.ofChange recordTurnedWrong)

/-- 'cellarlaw05.RecordSizes': WHATEVER THE INPUT: true; the input reads as it did. -/
def recordSizesSpec : ChangeSpec := { name := "recordSizes", fn := fun _ => fun
  | [d1, d2, d3, d4] => { results := [.lit (.bool true)], args := [d1, d2, d3, d4] }
  | _ => none }
def recordSizesRow : OpenClaim := { program := "ytochhjimahcamaa", sum := "f3a94bac9d4694c02ea9c8674235d43c22c85085a30fe7b2ff637a807f624190", func := "cellar/cellarlaw05.RecordSizes", spec := "recordSizes", apart := false }
def RecordSizesSaid : Prop := recordSizesRow.holds Try.pinned (OpenSpec.ofChange recordSizesSpec)

/-- ITS FALSE NEIGHBOUR: 'it returns false'. Refute it at one input. -/
def recordSizesWrong : ChangeSpec := { name := "recordSizes", fn := fun _ => fun
  | [d1, d2, d3, d4] => { results := [.lit (.bool false)], args := [d1, d2, d3, d4] }
  | _ => none }
def RecordSizesWrongFalsely : Prop := recordSizesRow.holds Try.pinned (OpenSpec.ofChange recordSizesWrong)

/-- 'cellarlaw05.RecordFoots': WHATEVER THE INPUT: true; the input reads as it did. -/
def recordFootsSpec : ChangeSpec := { name := "recordFoots", fn := fun _ => fun
  | [d1, d2] => { results := [.lit (.bool true)], args := [d1, d2] }
  | _ => none }
def recordFootsRow : OpenClaim := { program := "ytochhjimahcamaa", sum := "f3a94bac9d4694c02ea9c8674235d43c22c85085a30fe7b2ff637a807f624190", func := "cellar/cellarlaw05.RecordFoots", spec := "recordFoots", apart := false }
def RecordFootsSaid : Prop := recordFootsRow.holds Try.pinned (OpenSpec.ofChange recordFootsSpec)

/-- ITS FALSE NEIGHBOUR: 'it returns false'. Refute it at one input. -/
def recordFootsWrong : ChangeSpec := { name := "recordFoots", fn := fun _ => fun
  | [d1, d2] => { results := [.lit (.bool false)], args := [d1, d2] }
  | _ => none }
def RecordFootsWrongFalsely : Prop := recordFootsRow.holds Try.pinned (OpenSpec.ofChange recordFootsWrong)

/-- 'cellarlaw05.RecordFootOf': WHATEVER THE INPUT: true; the input reads as it did. -/
def recordFootOfSpec : ChangeSpec := { name := "recordFootOf", fn := fun _ => fun
  | [d1, d2] => { results := [.lit (.bool true)], args := [d1, d2] }
  | _ => none }
def recordFootOfRow : OpenClaim := { program := "ytochhjimahcamaa", sum := "f3a94bac9d4694c02ea9c8674235d43c22c85085a30fe7b2ff637a807f624190", func := "cellar/cellarlaw05.RecordFootOf", spec := "recordFootOf", unfollowed := true, recurses := true, apart := false }
def RecordFootOfSaid : Prop := recordFootOfRow.holds Try.pinned (OpenSpec.ofChange recordFootOfSpec)

/-- ITS FALSE NEIGHBOUR: 'it returns false'. Refute it at one input. -/
def recordFootOfWrong : ChangeSpec := { name := "recordFootOf", fn := fun _ => fun
  | [d1, d2] => { results := [.lit (.bool false)], args := [d1, d2] }
  | _ => none }
def RecordFootOfWrongFalsely : Prop := recordFootOfRow.holds Try.pinned (OpenSpec.ofChange recordFootOfWrong)

/-- 'cellarlaw05.RecordFootBack': WHATEVER THE INPUT: true; the input reads as it did. -/
def recordFootBackSpec : ChangeSpec := { name := "recordFootBack", fn := fun _ => fun
  | [d1, d2, d3, d4, d5, d6] => { results := [.lit (.bool true)], args := [d1, d2, d3, d4, d5, d6] }
  | _ => none }
def recordFootBackRow : OpenClaim := { program := "ytochhjimahcamaa", sum := "f3a94bac9d4694c02ea9c8674235d43c22c85085a30fe7b2ff637a807f624190", func := "cellar/cellarlaw05.RecordFootBack", spec := "recordFootBack", unfollowed := true, recurses := true, apart := false }
def RecordFootBackSaid : Prop := recordFootBackRow.holds Try.pinned (OpenSpec.ofChange recordFootBackSpec)

/-- ITS FALSE NEIGHBOUR: 'it returns false'. Refute it at one input. -/
def recordFootBackWrong : ChangeSpec := { name := "recordFootBack", fn := fun _ => fun
  | [d1, d2, d3, d4, d5, d6] => { results := [.lit (.bool false)], args := [d1, d2, d3, d4, d5, d6] }
  | _ => none }
def RecordFootBackWrongFalsely : Prop := recordFootBackRow.holds Try.pinned (OpenSpec.ofChange recordFootBackWrong)

/- THE SECOND FORM. 'bulk': how many values and letters a reading holds, each counted each time it is reached (what is shared counts as often as it is met; a slice's spare places count too). A statement '..UptoSaid' is the law's where the arguments, and the package variables that the reading takes, are together of bulk at most 1048576: NARROWER than '..Said'. Prove '..Said' where nothing that the law and all that it calls make is longer than what came in: it says more and counts as full. Else prove '..UptoSaid'. A law counts once. -/
mutual
def uptoBulk {H : Type} : DataW H → Nat
  | .lit (.string bytes) => bytes.length + 1
  | .lit _ => 1
  | .nil => 1
  | .ptr d => uptoBulk d + 1
  | .slice elems spare => uptoBulkAll elems + uptoBulkAll spare + 1
  | .agg parts => uptoBulkAll parts + 1
  | .iface _ d => uptoBulk d + 1
  | .map entries => uptoBulkEntries entries + 1
  | .held _ => 1
def uptoBulkAll {H : Type} : List (DataW H) → Nat
  | [] => 0
  | d :: r => uptoBulk d + uptoBulkAll r
def uptoBulkEntries {H : Type} : List (Lit × DataW H) → Nat
  | [] => 0
  | x :: r => uptoBulkEntry x + uptoBulkEntries r
def uptoBulkEntry {H : Type} : Lit × DataW H → Nat
  | (.string bytes, d) => bytes.length + uptoBulk d + 1
  | (_, d) => uptoBulk d + 1
 end
def uptoSmall : (H : Type) → List (DataW H) → Bool := fun _ ds => decide (uptoBulkAll ds ≤ 1048576)
def OpenSpec.upto (s : _root_.Go.ChangeSpec) : _root_.Go.OpenSpec := { _root_.Go.OpenSpec.ofChange s with cond := some uptoSmall }

/-- 'cellarlaw05.RecordEncodes', WHERE WHAT IT READS IS OF BULK AT MOST 1048576: true; the input reads as it did. -/
def recordEncodesUptoRow : OpenClaim := { program := "ytochhjimahcamaa", sum := "f3a94bac9d4694c02ea9c8674235d43c22c85085a30fe7b2ff637a807f624190", func := "cellar/cellarlaw05.RecordEncodes", spec := "recordEncodes", apart := false, narrowed := true }
def RecordEncodesUptoSaid : Prop := recordEncodesUptoRow.holds Try.pinned (OpenSpec.upto recordEncodesSpec)

/-- 'cellarlaw05.RecordDecodes', WHERE WHAT IT READS IS OF BULK AT MOST 1048576: true; the input reads as it did. -/
def recordDecodesUptoRow : OpenClaim := { program := "ytochhjimahcamaa", sum := "f3a94bac9d4694c02ea9c8674235d43c22c85085a30fe7b2ff637a807f624190", func := "cellar/cellarlaw05.RecordDecodes", spec := "recordDecodes", apart := false, narrowed := true }
def RecordDecodesUptoSaid : Prop := recordDecodesUptoRow.holds Try.pinned (OpenSpec.upto recordDecodesSpec)

/-- 'cellarlaw05.RecordBack', WHERE WHAT IT READS IS OF BULK AT MOST 1048576: true; the input reads as it did. -/
def recordBackUptoRow : OpenClaim := { program := "ytochhjimahcamaa", sum := "f3a94bac9d4694c02ea9c8674235d43c22c85085a30fe7b2ff637a807f624190", func := "cellar/cellarlaw05.RecordBack", spec := "recordBack", apart := false, narrowed := true }
def RecordBackUptoSaid : Prop := recordBackUptoRow.holds Try.pinned (OpenSpec.upto recordBackSpec)

/-- 'cellarlaw05.RecordTurned', WHERE WHAT IT READS IS OF BULK AT MOST 1048576: true; the input reads as it did. -/
def recordTurnedUptoRow : OpenClaim := { program := "ytochhjimahcamaa", sum := "f3a94bac9d4694c02ea9c8674235d43c22c85085a30fe7b2ff637a807f624190", func := "cellar/cellarlaw05.RecordTurned", spec := "recordTurned", apart := false, narrowed := true }
def RecordTurnedUptoSaid : Prop := recordTurnedUptoRow.holds Try.pinned (OpenSpec.upto recordTurnedSpec)

/-- 'cellarlaw05.RecordSizes', WHERE WHAT IT READS IS OF BULK AT MOST 1048576: true; the input reads as it did. -/
def recordSizesUptoRow : OpenClaim := { program := "ytochhjimahcamaa", sum := "f3a94bac9d4694c02ea9c8674235d43c22c85085a30fe7b2ff637a807f624190", func := "cellar/cellarlaw05.RecordSizes", spec := "recordSizes", apart := false, narrowed := true }
def RecordSizesUptoSaid : Prop := recordSizesUptoRow.holds Try.pinned (OpenSpec.upto recordSizesSpec)

/-- 'cellarlaw05.RecordFoots', WHERE WHAT IT READS IS OF BULK AT MOST 1048576: true; the input reads as it did. -/
def recordFootsUptoRow : OpenClaim := { program := "ytochhjimahcamaa", sum := "f3a94bac9d4694c02ea9c8674235d43c22c85085a30fe7b2ff637a807f624190", func := "cellar/cellarlaw05.RecordFoots", spec := "recordFoots", apart := false, narrowed := true }
def RecordFootsUptoSaid : Prop := recordFootsUptoRow.holds Try.pinned (OpenSpec.upto recordFootsSpec)

/-- 'cellarlaw05.RecordFootOf', WHERE WHAT IT READS IS OF BULK AT MOST 1048576: true; the input reads as it did. -/
def recordFootOfUptoRow : OpenClaim := { program := "ytochhjimahcamaa", sum := "f3a94bac9d4694c02ea9c8674235d43c22c85085a30fe7b2ff637a807f624190", func := "cellar/cellarlaw05.RecordFootOf", spec := "recordFootOf", unfollowed := true, recurses := true, apart := false, narrowed := true }
def RecordFootOfUptoSaid : Prop := recordFootOfUptoRow.holds Try.pinned (OpenSpec.upto recordFootOfSpec)

/-- 'cellarlaw05.RecordFootBack', WHERE WHAT IT READS IS OF BULK AT MOST 1048576: true; the input reads as it did. -/
def recordFootBackUptoRow : OpenClaim := { program := "ytochhjimahcamaa", sum := "f3a94bac9d4694c02ea9c8674235d43c22c85085a30fe7b2ff637a807f624190", func := "cellar/cellarlaw05.RecordFootBack", spec := "recordFootBack", unfollowed := true, recurses := true, apart := false, narrowed := true }
def RecordFootBackUptoSaid : Prop := recordFootBackUptoRow.holds Try.pinned (OpenSpec.upto recordFootBackSpec)

end Rows
end Go.Proofs.Ytochhjimahcamaa
