/-
  No cell of these rows narrows 'for every input' (looked for: loops, veiled, ifaces, maps, wideKeys, modest, calm, conditions, laid).
  DERIVED. THE GIVEN ROWS OF THIS SEAT. 8 by the template 'for every input the law returns true; each argument reads behind the call as it read before'; 0 by the template 'total and deterministic' (their statements: YtnkbebdgkidbjaaTotals.lean).
  GIVEN WITH THE SEED: the statements are not yours to turn. If you find one false, say at which input.
  Laid BY PROGRAM, IN A SANDBOX (cutbox-rows.mjs): the forced cells as the released guide's own fill.sh prints them over the translation b6e037aefd51be3e… (all of the seat's roots in one cut). By AI agents, Wed Nov 11 2026. No macro, syntax, notation, axiom, sorry.
-/
import Derived.Test.YtnkbebdgkidbjaaChecked
import GoSem.Claim
import GoSem.ClaimJoined
import GoSem.ClaimMapViews
import Derived.JoinedTies
import Derived.KernelRfl
namespace Go.Proofs.Ytnkbebdgkidbjaa
/- THE CELL 'sum', in the pinned program and in every row, IS THE sha256 OF THE DUMP (.gsa) THAT YtnkbebdgkidbjaaProg.lean LOADS. Nothing in Lean hashes anything: it is a label: what it is worth is what the hold of that sum in a sandbox is worth. -/
noncomputable def Try.pinned : Pinned := { name := "ytnkbebdgkidbjaa", sum := "b6e037aefd51be3e20fa3f2da325cdff767911bd0f0acf42112d20825554c17a", checked := Try.checked }
namespace Rows
def none {H : Type} : Left H := { results := [], args := [] }

/-- 'cellarlaw03.FlashMakes': WHATEVER THE INPUT: true; the input reads as it did. -/
def flashMakesSpec : ChangeSpec := { name := "flashMakes", fn := fun _ => fun
  | [d1, d2] => { results := [.lit (.bool true)], args := [d1, d2] }
  | _ => none }
def flashMakesRow : OpenClaim := { program := "ytnkbebdgkidbjaa", sum := "b6e037aefd51be3e20fa3f2da325cdff767911bd0f0acf42112d20825554c17a", func := "cellar/cellarlaw03.FlashMakes", spec := "flashMakes", inPlace := ["internal/bytealg.MakeNoZero"], unfollowed := true, recurses := true, apart := false }
def FlashMakesSaid : Prop := flashMakesRow.holds Try.pinned (OpenSpec.ofChange flashMakesSpec)

/-- ITS FALSE NEIGHBOUR: 'it returns false'. Refute it at one input. -/
def flashMakesWrong : ChangeSpec := { name := "flashMakes", fn := fun _ => fun
  | [d1, d2] => { results := [.lit (.bool false)], args := [d1, d2] }
  | _ => none }
def FlashMakesWrongFalsely : Prop := flashMakesRow.holds Try.pinned (OpenSpec.ofChange flashMakesWrong)

/-- 'cellarlaw03.FlashOnce': WHATEVER THE INPUT: true; the input reads as it did. -/
def flashOnceSpec : ChangeSpec := { name := "flashOnce", fn := fun _ => fun
  | [d1, d2] => { results := [.lit (.bool true)], args := [d1, d2] }
  | _ => none }
def flashOnceRow : OpenClaim := { program := "ytnkbebdgkidbjaa", sum := "b6e037aefd51be3e20fa3f2da325cdff767911bd0f0acf42112d20825554c17a", func := "cellar/cellarlaw03.FlashOnce", spec := "flashOnce", inPlace := ["internal/bytealg.MakeNoZero"], unfollowed := true, recurses := true, apart := false }
def FlashOnceSaid : Prop := flashOnceRow.holds Try.pinned (OpenSpec.ofChange flashOnceSpec)

/-- ITS FALSE NEIGHBOUR: 'it returns false'. Refute it at one input. -/
def flashOnceWrong : ChangeSpec := { name := "flashOnce", fn := fun _ => fun
  | [d1, d2] => { results := [.lit (.bool false)], args := [d1, d2] }
  | _ => none }
def FlashOnceWrongFalsely : Prop := flashOnceRow.holds Try.pinned (OpenSpec.ofChange flashOnceWrong)

/-- 'cellarlaw03.FlashKeeps': WHATEVER THE INPUT: true; the input reads as it did. -/
def flashKeepsSpec : ChangeSpec := { name := "flashKeeps", fn := fun _ => fun
  | [d1, d2, d3] => { results := [.lit (.bool true)], args := [d1, d2, d3] }
  | _ => none }
def flashKeepsRow : OpenClaim := { program := "ytnkbebdgkidbjaa", sum := "b6e037aefd51be3e20fa3f2da325cdff767911bd0f0acf42112d20825554c17a", func := "cellar/cellarlaw03.FlashKeeps", spec := "flashKeeps", inPlace := ["internal/bytealg.MakeNoZero"], unfollowed := true, recurses := true, apart := false }
def FlashKeepsSaid : Prop := flashKeepsRow.holds Try.pinned (OpenSpec.ofChange flashKeepsSpec)

/-- ITS FALSE NEIGHBOUR: 'it returns false'. Refute it at one input. -/
def flashKeepsWrong : ChangeSpec := { name := "flashKeeps", fn := fun _ => fun
  | [d1, d2, d3] => { results := [.lit (.bool false)], args := [d1, d2, d3] }
  | _ => none }
def FlashKeepsWrongFalsely : Prop := flashKeepsRow.holds Try.pinned (OpenSpec.ofChange flashKeepsWrong)

/-- 'cellarlaw03.FlashLoses': WHATEVER THE INPUT: true; the input reads as it did. -/
def flashLosesSpec : ChangeSpec := { name := "flashLoses", fn := fun _ => fun
  | [d1, d2] => { results := [.lit (.bool true)], args := [d1, d2] }
  | _ => none }
def flashLosesRow : OpenClaim := { program := "ytnkbebdgkidbjaa", sum := "b6e037aefd51be3e20fa3f2da325cdff767911bd0f0acf42112d20825554c17a", func := "cellar/cellarlaw03.FlashLoses", spec := "flashLoses", inPlace := ["internal/bytealg.MakeNoZero"], unfollowed := true, recurses := true, apart := false }
def FlashLosesSaid : Prop := flashLosesRow.holds Try.pinned (OpenSpec.ofChange flashLosesSpec)

/-- ITS FALSE NEIGHBOUR: 'it returns false'. Refute it at one input. -/
def flashLosesWrong : ChangeSpec := { name := "flashLoses", fn := fun _ => fun
  | [d1, d2] => { results := [.lit (.bool false)], args := [d1, d2] }
  | _ => none }
def FlashLosesWrongFalsely : Prop := flashLosesRow.holds Try.pinned (OpenSpec.ofChange flashLosesWrong)

/-- 'cellarlaw03.FlashLoads': WHATEVER THE INPUT: true; the input reads as it did. -/
def flashLoadsSpec : ChangeSpec := { name := "flashLoads", fn := fun _ => fun
  | [d1, d2, d3] => { results := [.lit (.bool true)], args := [d1, d2, d3] }
  | _ => none }
def flashLoadsRow : OpenClaim := { program := "ytnkbebdgkidbjaa", sum := "b6e037aefd51be3e20fa3f2da325cdff767911bd0f0acf42112d20825554c17a", func := "cellar/cellarlaw03.FlashLoads", spec := "flashLoads", inPlace := ["internal/bytealg.MakeNoZero"], unfollowed := true, recurses := true, apart := false }
def FlashLoadsSaid : Prop := flashLoadsRow.holds Try.pinned (OpenSpec.ofChange flashLoadsSpec)

/-- ITS FALSE NEIGHBOUR: 'it returns false'. Refute it at one input. -/
def flashLoadsWrong : ChangeSpec := { name := "flashLoads", fn := fun _ => fun
  | [d1, d2, d3] => { results := [.lit (.bool false)], args := [d1, d2, d3] }
  | _ => none }
def FlashLoadsWrongFalsely : Prop := flashLoadsRow.holds Try.pinned (OpenSpec.ofChange flashLoadsWrong)

/-- 'cellarlaw03.FlashPlays': WHATEVER THE INPUT: true; the input reads as it did. -/
def flashPlaysSpec : ChangeSpec := { name := "flashPlays", fn := fun _ => fun
  | [d1, d2] => { results := [.lit (.bool true)], args := [d1, d2] }
  | _ => none }
def flashPlaysRow : OpenClaim := { program := "ytnkbebdgkidbjaa", sum := "b6e037aefd51be3e20fa3f2da325cdff767911bd0f0acf42112d20825554c17a", func := "cellar/cellarlaw03.FlashPlays", spec := "flashPlays", inPlace := ["internal/bytealg.MakeNoZero"], unfollowed := true, recurses := true, apart := false }
def FlashPlaysSaid : Prop := flashPlaysRow.holds Try.pinned (OpenSpec.ofChange flashPlaysSpec)

/-- ITS FALSE NEIGHBOUR: 'it returns false'. Refute it at one input. -/
def flashPlaysWrong : ChangeSpec := { name := "flashPlays", fn := fun _ => fun
  | [d1, d2] => { results := [.lit (.bool false)], args := [d1, d2] }
  | _ => none }
def FlashPlaysWrongFalsely : Prop := flashPlaysRow.holds Try.pinned (OpenSpec.ofChange flashPlaysWrong)

/-- 'cellarlaw03.FlashApart': WHATEVER THE INPUT: true; the input reads as it did. -/
def flashApartSpec : ChangeSpec := { name := "flashApart", fn := fun _ => fun
  | [d1, d2, d3] => { results := [.lit (.bool true)], args := [d1, d2, d3] }
  | _ => none }
def flashApartRow : OpenClaim := { program := "ytnkbebdgkidbjaa", sum := "b6e037aefd51be3e20fa3f2da325cdff767911bd0f0acf42112d20825554c17a", func := "cellar/cellarlaw03.FlashApart", spec := "flashApart", inPlace := ["internal/bytealg.MakeNoZero"], unfollowed := true, recurses := true, apart := false }
def FlashApartSaid : Prop := flashApartRow.holds Try.pinned (OpenSpec.ofChange flashApartSpec)

/-- ITS FALSE NEIGHBOUR: 'it returns false'. Refute it at one input. -/
def flashApartWrong : ChangeSpec := { name := "flashApart", fn := fun _ => fun
  | [d1, d2, d3] => { results := [.lit (.bool false)], args := [d1, d2, d3] }
  | _ => none }
def FlashApartWrongFalsely : Prop := flashApartRow.holds Try.pinned (OpenSpec.ofChange flashApartWrong)

/-- 'cellarlaw03.FlashNobody': WHATEVER THE INPUT: true; the input reads as it did. -/
def flashNobodySpec : ChangeSpec := { name := "flashNobody", fn := fun _ => fun
  | [d1, d2, d3] => { results := [.lit (.bool true)], args := [d1, d2, d3] }
  | _ => none }
def flashNobodyRow : OpenClaim := { program := "ytnkbebdgkidbjaa", sum := "b6e037aefd51be3e20fa3f2da325cdff767911bd0f0acf42112d20825554c17a", func := "cellar/cellarlaw03.FlashNobody", spec := "flashNobody", inPlace := ["internal/bytealg.MakeNoZero"], unfollowed := true, recurses := true, apart := false }
def FlashNobodySaid : Prop := flashNobodyRow.holds Try.pinned (OpenSpec.ofChange flashNobodySpec)

/-- ITS FALSE NEIGHBOUR: 'it returns false'. Refute it at one input. -/
def flashNobodyWrong : ChangeSpec := { name := "flashNobody", fn := fun _ => fun
  | [d1, d2, d3] => { results := [.lit (.bool false)], args := [d1, d2, d3] }
  | _ => none }
def FlashNobodyWrongFalsely : Prop := flashNobodyRow.holds Try.pinned (OpenSpec.ofChange flashNobodyWrong)

/- THE SECOND FORM. 'bulk': how many values and letters a reading holds, each counted each time it is reached (what is shared counts as often as it is met; a slice's spare places count too). A statement '..UptoSaid' is the law's where the arguments, and the package variables that the reading takes, are together of bulk at most 1048576: NARROWER than '..Said'. Prove '..Said' where nothing that the law and all that it calls make is longer than what came in: it says more and counts as full. Else prove '..UptoSaid'. A law counts once. -/
mutual
def uptoBulk {H : Type} : DataW H → Nat
  | .lit (.string bytes) => bytes.length + 1
  | .lit _ => 1
  | .nil => 1
  | .ptr d => uptoBulk d + 1
  | .slice elems spare => uptoBulkAll elems + uptoBulkAll spare + 1
  | .agg parts => uptoBulkAll parts + 1
  | .iface _ d => uptoBulk d + 1
  | .map entries => uptoBulkEntries entries + 1
  | .held _ => 1
def uptoBulkAll {H : Type} : List (DataW H) → Nat
  | [] => 0
  | d :: r => uptoBulk d + uptoBulkAll r
def uptoBulkEntries {H : Type} : List (Lit × DataW H) → Nat
  | [] => 0
  | x :: r => uptoBulkEntry x + uptoBulkEntries r
def uptoBulkEntry {H : Type} : Lit × DataW H → Nat
  | (.string bytes, d) => bytes.length + uptoBulk d + 1
  | (_, d) => uptoBulk d + 1
 end
def uptoSmall : (H : Type) → List (DataW H) → Bool := fun _ ds => decide (uptoBulkAll ds ≤ 1048576)
def OpenSpec.upto (s : _root_.Go.ChangeSpec) : _root_.Go.OpenSpec := { _root_.Go.OpenSpec.ofChange s with cond := some uptoSmall }

/-- 'cellarlaw03.FlashMakes', WHERE WHAT IT READS IS OF BULK AT MOST 1048576: true; the input reads as it did. -/
def flashMakesUptoRow : OpenClaim := { program := "ytnkbebdgkidbjaa", sum := "b6e037aefd51be3e20fa3f2da325cdff767911bd0f0acf42112d20825554c17a", func := "cellar/cellarlaw03.FlashMakes", spec := "flashMakes", inPlace := ["internal/bytealg.MakeNoZero"], unfollowed := true, recurses := true, apart := false, narrowed := true }
def FlashMakesUptoSaid : Prop := flashMakesUptoRow.holds Try.pinned (OpenSpec.upto flashMakesSpec)

/-- 'cellarlaw03.FlashOnce', WHERE WHAT IT READS IS OF BULK AT MOST 1048576: true; the input reads as it did. -/
def flashOnceUptoRow : OpenClaim := { program := "ytnkbebdgkidbjaa", sum := "b6e037aefd51be3e20fa3f2da325cdff767911bd0f0acf42112d20825554c17a", func := "cellar/cellarlaw03.FlashOnce", spec := "flashOnce", inPlace := ["internal/bytealg.MakeNoZero"], unfollowed := true, recurses := true, apart := false, narrowed := true }
def FlashOnceUptoSaid : Prop := flashOnceUptoRow.holds Try.pinned (OpenSpec.upto flashOnceSpec)

/-- 'cellarlaw03.FlashKeeps', WHERE WHAT IT READS IS OF BULK AT MOST 1048576: true; the input reads as it did. -/
def flashKeepsUptoRow : OpenClaim := { program := "ytnkbebdgkidbjaa", sum := "b6e037aefd51be3e20fa3f2da325cdff767911bd0f0acf42112d20825554c17a", func := "cellar/cellarlaw03.FlashKeeps", spec := "flashKeeps", inPlace := ["internal/bytealg.MakeNoZero"], unfollowed := true, recurses := true, apart := false, narrowed := true }
def FlashKeepsUptoSaid : Prop := flashKeepsUptoRow.holds Try.pinned (OpenSpec.upto flashKeepsSpec)

/-- 'cellarlaw03.FlashLoses', WHERE WHAT IT READS IS OF BULK AT MOST 1048576: true; the input reads as it did. -/
def flashLosesUptoRow : OpenClaim := { program := "ytnkbebdgkidbjaa", sum := "b6e037aefd51be3e20fa3f2da325cdff767911bd0f0acf42112d20825554c17a", func := "cellar/cellarlaw03.FlashLoses", spec := "flashLoses", inPlace := ["internal/bytealg.MakeNoZero"], unfollowed := true, recurses := true, apart := false, narrowed := true }
def FlashLosesUptoSaid : Prop := flashLosesUptoRow.holds Try.pinned (OpenSpec.upto flashLosesSpec)

/-- 'cellarlaw03.FlashLoads', WHERE WHAT IT READS IS OF BULK AT MOST 1048576: true; the input reads as it did. -/
def flashLoadsUptoRow : OpenClaim := { program := "ytnkbebdgkidbjaa", sum := "b6e037aefd51be3e20fa3f2da325cdff767911bd0f0acf42112d20825554c17a", func := "cellar/cellarlaw03.FlashLoads", spec := "flashLoads", inPlace := ["internal/bytealg.MakeNoZero"], unfollowed := true, recurses := true, apart := false, narrowed := true }
def FlashLoadsUptoSaid : Prop := flashLoadsUptoRow.holds Try.pinned (OpenSpec.upto flashLoadsSpec)

/-- 'cellarlaw03.FlashPlays', WHERE WHAT IT READS IS OF BULK AT MOST 1048576: true; the input reads as it did. -/
def flashPlaysUptoRow : OpenClaim := { program := "ytnkbebdgkidbjaa", sum := "b6e037aefd51be3e20fa3f2da325cdff767911bd0f0acf42112d20825554c17a", func := "cellar/cellarlaw03.FlashPlays", spec := "flashPlays", inPlace := ["internal/bytealg.MakeNoZero"], unfollowed := true, recurses := true, apart := false, narrowed := true }
def FlashPlaysUptoSaid : Prop := flashPlaysUptoRow.holds Try.pinned (OpenSpec.upto flashPlaysSpec)

/-- 'cellarlaw03.FlashApart', WHERE WHAT IT READS IS OF BULK AT MOST 1048576: true; the input reads as it did. -/
def flashApartUptoRow : OpenClaim := { program := "ytnkbebdgkidbjaa", sum := "b6e037aefd51be3e20fa3f2da325cdff767911bd0f0acf42112d20825554c17a", func := "cellar/cellarlaw03.FlashApart", spec := "flashApart", inPlace := ["internal/bytealg.MakeNoZero"], unfollowed := true, recurses := true, apart := false, narrowed := true }
def FlashApartUptoSaid : Prop := flashApartUptoRow.holds Try.pinned (OpenSpec.upto flashApartSpec)

/-- 'cellarlaw03.FlashNobody', WHERE WHAT IT READS IS OF BULK AT MOST 1048576: true; the input reads as it did. -/
def flashNobodyUptoRow : OpenClaim := { program := "ytnkbebdgkidbjaa", sum := "b6e037aefd51be3e20fa3f2da325cdff767911bd0f0acf42112d20825554c17a", func := "cellar/cellarlaw03.FlashNobody", spec := "flashNobody", inPlace := ["internal/bytealg.MakeNoZero"], unfollowed := true, recurses := true, apart := false, narrowed := true }
def FlashNobodyUptoSaid : Prop := flashNobodyUptoRow.holds Try.pinned (OpenSpec.upto flashNobodySpec)

end Rows
end Go.Proofs.Ytnkbebdgkidbjaa
