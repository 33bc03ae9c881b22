/-
  No cell of these rows narrows 'for every input' (looked for: loops, veiled, ifaces, maps, wideKeys, modest, calm, conditions, laid).
  DERIVED. THE GIVEN ROWS OF THIS SEAT. 14 by the template 'for every input the law returns true; each argument reads behind the call as it read before'; 0 by the template 'total and deterministic' (their statements: YtbnbpnnpbnpidaaTotals.lean).
  GIVEN WITH THE SEED: the statements are not yours to turn. If you find one false, say at which input.
  Laid BY PROGRAM, IN A SANDBOX (cutbox-rows.mjs): the forced cells as the released guide's own fill.sh prints them over the translation 42fd60cbdb2cbbeb… (all of the seat's roots in one cut). By AI agents, Wed Nov 11 2026. No macro, syntax, notation, axiom, sorry.
-/
import Derived.Test.YtbnbpnnpbnpidaaChecked
import GoSem.Claim
import GoSem.ClaimJoined
import GoSem.ClaimMapViews
import Derived.JoinedTies
import Derived.KernelRfl
namespace Go.Proofs.Ytbnbpnnpbnpidaa
/- THE CELL 'sum', in the pinned program and in every row, IS THE sha256 OF THE DUMP (.gsa) THAT YtbnbpnnpbnpidaaProg.lean LOADS. Nothing in Lean hashes anything: it is a label: what it is worth is what the hold of that sum in a sandbox is worth. -/
noncomputable def Try.pinned : Pinned := { name := "ytbnbpnnpbnpidaa", sum := "42fd60cbdb2cbbebe4f3b8b02c3d32e27271773c3b06db32668b687402c2302f", checked := Try.checked }
namespace Rows
def none {H : Type} : Left H := { results := [], args := [] }

/-- 'cellarlaw01.SumCrcs': WHATEVER THE INPUT: true; the input reads as it did. -/
def sumCrcsSpec : ChangeSpec := { name := "sumCrcs", fn := fun _ => fun
  | [d1, d2] => { results := [.lit (.bool true)], args := [d1, d2] }
  | _ => none }
def sumCrcsRow : OpenClaim := { program := "ytbnbpnnpbnpidaa", sum := "42fd60cbdb2cbbebe4f3b8b02c3d32e27271773c3b06db32668b687402c2302f", func := "cellar/cellarlaw01.SumCrcs", spec := "sumCrcs", apart := false }
def SumCrcsSaid : Prop := sumCrcsRow.holds Try.pinned (OpenSpec.ofChange sumCrcsSpec)

/-- ITS FALSE NEIGHBOUR: 'it returns false'. Refute it at one input. -/
def sumCrcsWrong : ChangeSpec := { name := "sumCrcs", fn := fun _ => fun
  | [d1, d2] => { results := [.lit (.bool false)], args := [d1, d2] }
  | _ => none }
def SumCrcsWrongFalsely : Prop := sumCrcsRow.holds Try.pinned (OpenSpec.ofChange sumCrcsWrong)

/-- 'cellarlaw01.SumExtends': WHATEVER THE INPUT: true; the input reads as it did. -/
def sumExtendsSpec : ChangeSpec := { name := "sumExtends", fn := fun _ => fun
  | [d1, d2] => { results := [.lit (.bool true)], args := [d1, d2] }
  | _ => none }
def sumExtendsRow : OpenClaim := { program := "ytbnbpnnpbnpidaa", sum := "42fd60cbdb2cbbebe4f3b8b02c3d32e27271773c3b06db32668b687402c2302f", func := "cellar/cellarlaw01.SumExtends", spec := "sumExtends", apart := false }
def SumExtendsSaid : Prop := sumExtendsRow.holds Try.pinned (OpenSpec.ofChange sumExtendsSpec)

/-- ITS FALSE NEIGHBOUR: 'it returns false'. Refute it at one input. -/
def sumExtendsWrong : ChangeSpec := { name := "sumExtends", fn := fun _ => fun
  | [d1, d2] => { results := [.lit (.bool false)], args := [d1, d2] }
  | _ => none }
def SumExtendsWrongFalsely : Prop := sumExtendsRow.holds Try.pinned (OpenSpec.ofChange sumExtendsWrong)

/-- 'cellarlaw01.SumBursts': WHATEVER THE INPUT: true; the input reads as it did. -/
def sumBurstsSpec : ChangeSpec := { name := "sumBursts", fn := fun _ => fun
  | [d1, d2, d3] => { results := [.lit (.bool true)], args := [d1, d2, d3] }
  | _ => none }
def sumBurstsRow : OpenClaim := { program := "ytbnbpnnpbnpidaa", sum := "42fd60cbdb2cbbebe4f3b8b02c3d32e27271773c3b06db32668b687402c2302f", func := "cellar/cellarlaw01.SumBursts", spec := "sumBursts", apart := false }
def SumBurstsSaid : Prop := sumBurstsRow.holds Try.pinned (OpenSpec.ofChange sumBurstsSpec)

/-- ITS FALSE NEIGHBOUR: 'it returns false'. Refute it at one input. -/
def sumBurstsWrong : ChangeSpec := { name := "sumBursts", fn := fun _ => fun
  | [d1, d2, d3] => { results := [.lit (.bool false)], args := [d1, d2, d3] }
  | _ => none }
def SumBurstsWrongFalsely : Prop := sumBurstsRow.holds Try.pinned (OpenSpec.ofChange sumBurstsWrong)

/-- 'cellarlaw01.SumLinear': WHATEVER THE INPUT: true; the input reads as it did. -/
def sumLinearSpec : ChangeSpec := { name := "sumLinear", fn := fun _ => fun
  | [d1, d2, d3] => { results := [.lit (.bool true)], args := [d1, d2, d3] }
  | _ => none }
def sumLinearRow : OpenClaim := { program := "ytbnbpnnpbnpidaa", sum := "42fd60cbdb2cbbebe4f3b8b02c3d32e27271773c3b06db32668b687402c2302f", func := "cellar/cellarlaw01.SumLinear", spec := "sumLinear", apart := false }
def SumLinearSaid : Prop := sumLinearRow.holds Try.pinned (OpenSpec.ofChange sumLinearSpec)

/-- ITS FALSE NEIGHBOUR: 'it returns false'. Refute it at one input. -/
def sumLinearWrong : ChangeSpec := { name := "sumLinear", fn := fun _ => fun
  | [d1, d2, d3] => { results := [.lit (.bool false)], args := [d1, d2, d3] }
  | _ => none }
def SumLinearWrongFalsely : Prop := sumLinearRow.holds Try.pinned (OpenSpec.ofChange sumLinearWrong)

/-- 'cellarlaw01.SumHashes': WHATEVER THE INPUT: true; the input reads as it did. -/
def sumHashesSpec : ChangeSpec := { name := "sumHashes", fn := fun _ => fun
  | [d1, d2] => { results := [.lit (.bool true)], args := [d1, d2] }
  | _ => none }
def sumHashesRow : OpenClaim := { program := "ytbnbpnnpbnpidaa", sum := "42fd60cbdb2cbbebe4f3b8b02c3d32e27271773c3b06db32668b687402c2302f", func := "cellar/cellarlaw01.SumHashes", spec := "sumHashes", apart := false }
def SumHashesSaid : Prop := sumHashesRow.holds Try.pinned (OpenSpec.ofChange sumHashesSpec)

/-- ITS FALSE NEIGHBOUR: 'it returns false'. Refute it at one input. -/
def sumHashesWrong : ChangeSpec := { name := "sumHashes", fn := fun _ => fun
  | [d1, d2] => { results := [.lit (.bool false)], args := [d1, d2] }
  | _ => none }
def SumHashesWrongFalsely : Prop := sumHashesRow.holds Try.pinned (OpenSpec.ofChange sumHashesWrong)

/-- 'cellarlaw01.SumMasks': WHATEVER THE INPUT: true; the input reads as it did. -/
def sumMasksSpec : ChangeSpec := { name := "sumMasks", fn := fun _ => fun
  | [d] => { results := [.lit (.bool true)], args := [d] }
  | _ => none }
def sumMasksRow : OpenClaim := { program := "ytbnbpnnpbnpidaa", sum := "42fd60cbdb2cbbebe4f3b8b02c3d32e27271773c3b06db32668b687402c2302f", func := "cellar/cellarlaw01.SumMasks", spec := "sumMasks", apart := false }
def SumMasksSaid : Prop := sumMasksRow.holds Try.pinned (OpenSpec.ofChange sumMasksSpec)

/-- ITS FALSE NEIGHBOUR: 'it returns false'. Refute it at one input. -/
def sumMasksWrong : ChangeSpec := { name := "sumMasks", fn := fun _ => fun
  | [d] => { results := [.lit (.bool false)], args := [d] }
  | _ => none }
def SumMasksWrongFalsely : Prop := sumMasksRow.holds Try.pinned (OpenSpec.ofChange sumMasksWrong)

/-- 'cellarlaw01.SumStreams': WHATEVER THE INPUT: true; the input reads as it did. -/
def sumStreamsSpec : ChangeSpec := { name := "sumStreams", fn := fun _ => fun
  | [d1, d2] => { results := [.lit (.bool true)], args := [d1, d2] }
  | _ => none }
def sumStreamsRow : OpenClaim := { program := "ytbnbpnnpbnpidaa", sum := "42fd60cbdb2cbbebe4f3b8b02c3d32e27271773c3b06db32668b687402c2302f", func := "cellar/cellarlaw01.SumStreams", spec := "sumStreams", apart := false }
def SumStreamsSaid : Prop := sumStreamsRow.holds Try.pinned (OpenSpec.ofChange sumStreamsSpec)

/-- ITS FALSE NEIGHBOUR: 'it returns false'. Refute it at one input. -/
def sumStreamsWrong : ChangeSpec := { name := "sumStreams", fn := fun _ => fun
  | [d1, d2] => { results := [.lit (.bool false)], args := [d1, d2] }
  | _ => none }
def SumStreamsWrongFalsely : Prop := sumStreamsRow.holds Try.pinned (OpenSpec.ofChange sumStreamsWrong)

/-- 'cellarlaw01.SumNobody': WHATEVER THE INPUT: true; the input reads as it did. -/
def sumNobodySpec : ChangeSpec := { name := "sumNobody", fn := fun _ => fun
  | [d] => { results := [.lit (.bool true)], args := [d] }
  | _ => none }
def sumNobodyRow : OpenClaim := { program := "ytbnbpnnpbnpidaa", sum := "42fd60cbdb2cbbebe4f3b8b02c3d32e27271773c3b06db32668b687402c2302f", func := "cellar/cellarlaw01.SumNobody", spec := "sumNobody", apart := false }
def SumNobodySaid : Prop := sumNobodyRow.holds Try.pinned (OpenSpec.ofChange sumNobodySpec)

/-- ITS FALSE NEIGHBOUR: 'it returns false'. Refute it at one input. -/
def sumNobodyWrong : ChangeSpec := { name := "sumNobody", fn := fun _ => fun
  | [d] => { results := [.lit (.bool false)], args := [d] }
  | _ => none }
def SumNobodyWrongFalsely : Prop := sumNobodyRow.holds Try.pinned (OpenSpec.ofChange sumNobodyWrong)

/-- 'cellarlaw01.SumTails': WHATEVER THE INPUT: true; the input reads as it did. -/
def sumTailsSpec : ChangeSpec := { name := "sumTails", fn := fun _ => fun
  | [d1, d2, d3] => { results := [.lit (.bool true)], args := [d1, d2, d3] }
  | _ => none }
def sumTailsRow : OpenClaim := { program := "ytbnbpnnpbnpidaa", sum := "42fd60cbdb2cbbebe4f3b8b02c3d32e27271773c3b06db32668b687402c2302f", func := "cellar/cellarlaw01.SumTails", spec := "sumTails", apart := false }
def SumTailsSaid : Prop := sumTailsRow.holds Try.pinned (OpenSpec.ofChange sumTailsSpec)

/-- ITS FALSE NEIGHBOUR: 'it returns false'. Refute it at one input. -/
def sumTailsWrong : ChangeSpec := { name := "sumTails", fn := fun _ => fun
  | [d1, d2, d3] => { results := [.lit (.bool false)], args := [d1, d2, d3] }
  | _ => none }
def SumTailsWrongFalsely : Prop := sumTailsRow.holds Try.pinned (OpenSpec.ofChange sumTailsWrong)

/-- 'cellarlaw01.SumMixes': WHATEVER THE INPUT: true; the input reads as it did. -/
def sumMixesSpec : ChangeSpec := { name := "sumMixes", fn := fun _ => fun
  | [d] => { results := [.lit (.bool true)], args := [d] }
  | _ => none }
def sumMixesRow : OpenClaim := { program := "ytbnbpnnpbnpidaa", sum := "42fd60cbdb2cbbebe4f3b8b02c3d32e27271773c3b06db32668b687402c2302f", func := "cellar/cellarlaw01.SumMixes", spec := "sumMixes", apart := false }
def SumMixesSaid : Prop := sumMixesRow.holds Try.pinned (OpenSpec.ofChange sumMixesSpec)

/-- ITS FALSE NEIGHBOUR: 'it returns false'. Refute it at one input. -/
def sumMixesWrong : ChangeSpec := { name := "sumMixes", fn := fun _ => fun
  | [d] => { results := [.lit (.bool false)], args := [d] }
  | _ => none }
def SumMixesWrongFalsely : Prop := sumMixesRow.holds Try.pinned (OpenSpec.ofChange sumMixesWrong)

/-- 'cellarlaw01.SumZeros': WHATEVER THE INPUT: true; the input reads as it did. -/
def sumZerosSpec : ChangeSpec := { name := "sumZeros", fn := fun _ => fun
  | [d1, d2] => { results := [.lit (.bool true)], args := [d1, d2] }
  | _ => none }
def sumZerosRow : OpenClaim := { program := "ytbnbpnnpbnpidaa", sum := "42fd60cbdb2cbbebe4f3b8b02c3d32e27271773c3b06db32668b687402c2302f", func := "cellar/cellarlaw01.SumZeros", spec := "sumZeros", apart := false }
def SumZerosSaid : Prop := sumZerosRow.holds Try.pinned (OpenSpec.ofChange sumZerosSpec)

/-- ITS FALSE NEIGHBOUR: 'it returns false'. Refute it at one input. -/
def sumZerosWrong : ChangeSpec := { name := "sumZeros", fn := fun _ => fun
  | [d1, d2] => { results := [.lit (.bool false)], args := [d1, d2] }
  | _ => none }
def SumZerosWrongFalsely : Prop := sumZerosRow.holds Try.pinned (OpenSpec.ofChange sumZerosWrong)

/-- 'cellarlaw01.SumZerosAre': WHATEVER THE INPUT: true; the input reads as it did. -/
def sumZerosAreSpec : ChangeSpec := { name := "sumZerosAre", fn := fun _ => fun
  | [d1, d2] => { results := [.lit (.bool true)], args := [d1, d2] }
  | _ => none }
def sumZerosAreRow : OpenClaim := { program := "ytbnbpnnpbnpidaa", sum := "42fd60cbdb2cbbebe4f3b8b02c3d32e27271773c3b06db32668b687402c2302f", func := "cellar/cellarlaw01.SumZerosAre", spec := "sumZerosAre", apart := false }
def SumZerosAreSaid : Prop := sumZerosAreRow.holds Try.pinned (OpenSpec.ofChange sumZerosAreSpec)

/-- ITS FALSE NEIGHBOUR: 'it returns false'. Refute it at one input. -/
def sumZerosAreWrong : ChangeSpec := { name := "sumZerosAre", fn := fun _ => fun
  | [d1, d2] => { results := [.lit (.bool false)], args := [d1, d2] }
  | _ => none }
def SumZerosAreWrongFalsely : Prop := sumZerosAreRow.holds Try.pinned (OpenSpec.ofChange sumZerosAreWrong)

/-- 'cellarlaw01.SumCombines': WHATEVER THE INPUT: true; the input reads as it did. -/
def sumCombinesSpec : ChangeSpec := { name := "sumCombines", fn := fun _ => fun
  | [d1, d2] => { results := [.lit (.bool true)], args := [d1, d2] }
  | _ => none }
def sumCombinesRow : OpenClaim := { program := "ytbnbpnnpbnpidaa", sum := "42fd60cbdb2cbbebe4f3b8b02c3d32e27271773c3b06db32668b687402c2302f", func := "cellar/cellarlaw01.SumCombines", spec := "sumCombines", apart := false }
def SumCombinesSaid : Prop := sumCombinesRow.holds Try.pinned (OpenSpec.ofChange sumCombinesSpec)

/-- ITS FALSE NEIGHBOUR: 'it returns false'. Refute it at one input. -/
def sumCombinesWrong : ChangeSpec := { name := "sumCombines", fn := fun _ => fun
  | [d1, d2] => { results := [.lit (.bool false)], args := [d1, d2] }
  | _ => none }
def SumCombinesWrongFalsely : Prop := sumCombinesRow.holds Try.pinned (OpenSpec.ofChange sumCombinesWrong)

/-- 'cellarlaw01.SumJoins': WHATEVER THE INPUT: true; the input reads as it did. -/
def sumJoinsSpec : ChangeSpec := { name := "sumJoins", fn := fun _ => fun
  | [d1, d2, d3] => { results := [.lit (.bool true)], args := [d1, d2, d3] }
  | _ => none }
def sumJoinsRow : OpenClaim := { program := "ytbnbpnnpbnpidaa", sum := "42fd60cbdb2cbbebe4f3b8b02c3d32e27271773c3b06db32668b687402c2302f", func := "cellar/cellarlaw01.SumJoins", spec := "sumJoins", apart := false }
def SumJoinsSaid : Prop := sumJoinsRow.holds Try.pinned (OpenSpec.ofChange sumJoinsSpec)

/-- ITS FALSE NEIGHBOUR: 'it returns false'. Refute it at one input. -/
def sumJoinsWrong : ChangeSpec := { name := "sumJoins", fn := fun _ => fun
  | [d1, d2, d3] => { results := [.lit (.bool false)], args := [d1, d2, d3] }
  | _ => none }
def SumJoinsWrongFalsely : Prop := sumJoinsRow.holds Try.pinned (OpenSpec.ofChange sumJoinsWrong)

/- THE SECOND FORM. 'bulk': how many values and letters a reading holds, each counted each time it is reached (what is shared counts as often as it is met; a slice's spare places count too). A statement '..UptoSaid' is the law's where the arguments, and the package variables that the reading takes, are together of bulk at most 1048576: NARROWER than '..Said'. Prove '..Said' where nothing that the law and all that it calls make is longer than what came in: it says more and counts as full. Else prove '..UptoSaid'. A law counts once. -/
mutual
def uptoBulk {H : Type} : DataW H → Nat
  | .lit (.string bytes) => bytes.length + 1
  | .lit _ => 1
  | .nil => 1
  | .ptr d => uptoBulk d + 1
  | .slice elems spare => uptoBulkAll elems + uptoBulkAll spare + 1
  | .agg parts => uptoBulkAll parts + 1
  | .iface _ d => uptoBulk d + 1
  | .map entries => uptoBulkEntries entries + 1
  | .held _ => 1
def uptoBulkAll {H : Type} : List (DataW H) → Nat
  | [] => 0
  | d :: r => uptoBulk d + uptoBulkAll r
def uptoBulkEntries {H : Type} : List (Lit × DataW H) → Nat
  | [] => 0
  | x :: r => uptoBulkEntry x + uptoBulkEntries r
def uptoBulkEntry {H : Type} : Lit × DataW H → Nat
  | (.string bytes, d) => bytes.length + uptoBulk d + 1
  | (_, d) => uptoBulk d + 1
 end
def uptoSmall : (H : Type) → List (DataW H) → Bool := fun _ ds => decide (uptoBulkAll ds ≤ 1048576)
def OpenSpec.upto (s : _root_.Go.ChangeSpec) : _root_.Go.OpenSpec := { _root_.Go.OpenSpec.ofChange s with cond := some uptoSmall }

/-- 'cellarlaw01.SumCrcs', WHERE WHAT IT READS IS OF BULK AT MOST 1048576: true; the input reads as it did. -/
def sumCrcsUptoRow : OpenClaim := { program := "ytbnbpnnpbnpidaa", sum := "42fd60cbdb2cbbebe4f3b8b02c3d32e27271773c3b06db32668b687402c2302f", func := "cellar/cellarlaw01.SumCrcs", spec := "sumCrcs", apart := false, narrowed := true }
def SumCrcsUptoSaid : Prop := sumCrcsUptoRow.holds Try.pinned (OpenSpec.upto sumCrcsSpec)

/-- 'cellarlaw01.SumExtends', WHERE WHAT IT READS IS OF BULK AT MOST 1048576: true; the input reads as it did. -/
def sumExtendsUptoRow : OpenClaim := { program := "ytbnbpnnpbnpidaa", sum := "42fd60cbdb2cbbebe4f3b8b02c3d32e27271773c3b06db32668b687402c2302f", func := "cellar/cellarlaw01.SumExtends", spec := "sumExtends", apart := false, narrowed := true }
def SumExtendsUptoSaid : Prop := sumExtendsUptoRow.holds Try.pinned (OpenSpec.upto sumExtendsSpec)

/-- 'cellarlaw01.SumBursts', WHERE WHAT IT READS IS OF BULK AT MOST 1048576: true; the input reads as it did. -/
def sumBurstsUptoRow : OpenClaim := { program := "ytbnbpnnpbnpidaa", sum := "42fd60cbdb2cbbebe4f3b8b02c3d32e27271773c3b06db32668b687402c2302f", func := "cellar/cellarlaw01.SumBursts", spec := "sumBursts", apart := false, narrowed := true }
def SumBurstsUptoSaid : Prop := sumBurstsUptoRow.holds Try.pinned (OpenSpec.upto sumBurstsSpec)

/-- 'cellarlaw01.SumLinear', WHERE WHAT IT READS IS OF BULK AT MOST 1048576: true; the input reads as it did. -/
def sumLinearUptoRow : OpenClaim := { program := "ytbnbpnnpbnpidaa", sum := "42fd60cbdb2cbbebe4f3b8b02c3d32e27271773c3b06db32668b687402c2302f", func := "cellar/cellarlaw01.SumLinear", spec := "sumLinear", apart := false, narrowed := true }
def SumLinearUptoSaid : Prop := sumLinearUptoRow.holds Try.pinned (OpenSpec.upto sumLinearSpec)

/-- 'cellarlaw01.SumHashes', WHERE WHAT IT READS IS OF BULK AT MOST 1048576: true; the input reads as it did. -/
def sumHashesUptoRow : OpenClaim := { program := "ytbnbpnnpbnpidaa", sum := "42fd60cbdb2cbbebe4f3b8b02c3d32e27271773c3b06db32668b687402c2302f", func := "cellar/cellarlaw01.SumHashes", spec := "sumHashes", apart := false, narrowed := true }
def SumHashesUptoSaid : Prop := sumHashesUptoRow.holds Try.pinned (OpenSpec.upto sumHashesSpec)

/-- 'cellarlaw01.SumMasks', WHERE WHAT IT READS IS OF BULK AT MOST 1048576: true; the input reads as it did. -/
def sumMasksUptoRow : OpenClaim := { program := "ytbnbpnnpbnpidaa", sum := "42fd60cbdb2cbbebe4f3b8b02c3d32e27271773c3b06db32668b687402c2302f", func := "cellar/cellarlaw01.SumMasks", spec := "sumMasks", apart := false, narrowed := true }
def SumMasksUptoSaid : Prop := sumMasksUptoRow.holds Try.pinned (OpenSpec.upto sumMasksSpec)

/-- 'cellarlaw01.SumStreams', WHERE WHAT IT READS IS OF BULK AT MOST 1048576: true; the input reads as it did. -/
def sumStreamsUptoRow : OpenClaim := { program := "ytbnbpnnpbnpidaa", sum := "42fd60cbdb2cbbebe4f3b8b02c3d32e27271773c3b06db32668b687402c2302f", func := "cellar/cellarlaw01.SumStreams", spec := "sumStreams", apart := false, narrowed := true }
def SumStreamsUptoSaid : Prop := sumStreamsUptoRow.holds Try.pinned (OpenSpec.upto sumStreamsSpec)

/-- 'cellarlaw01.SumNobody', WHERE WHAT IT READS IS OF BULK AT MOST 1048576: true; the input reads as it did. -/
def sumNobodyUptoRow : OpenClaim := { program := "ytbnbpnnpbnpidaa", sum := "42fd60cbdb2cbbebe4f3b8b02c3d32e27271773c3b06db32668b687402c2302f", func := "cellar/cellarlaw01.SumNobody", spec := "sumNobody", apart := false, narrowed := true }
def SumNobodyUptoSaid : Prop := sumNobodyUptoRow.holds Try.pinned (OpenSpec.upto sumNobodySpec)

/-- 'cellarlaw01.SumTails', WHERE WHAT IT READS IS OF BULK AT MOST 1048576: true; the input reads as it did. -/
def sumTailsUptoRow : OpenClaim := { program := "ytbnbpnnpbnpidaa", sum := "42fd60cbdb2cbbebe4f3b8b02c3d32e27271773c3b06db32668b687402c2302f", func := "cellar/cellarlaw01.SumTails", spec := "sumTails", apart := false, narrowed := true }
def SumTailsUptoSaid : Prop := sumTailsUptoRow.holds Try.pinned (OpenSpec.upto sumTailsSpec)

/-- 'cellarlaw01.SumMixes', WHERE WHAT IT READS IS OF BULK AT MOST 1048576: true; the input reads as it did. -/
def sumMixesUptoRow : OpenClaim := { program := "ytbnbpnnpbnpidaa", sum := "42fd60cbdb2cbbebe4f3b8b02c3d32e27271773c3b06db32668b687402c2302f", func := "cellar/cellarlaw01.SumMixes", spec := "sumMixes", apart := false, narrowed := true }
def SumMixesUptoSaid : Prop := sumMixesUptoRow.holds Try.pinned (OpenSpec.upto sumMixesSpec)

/-- 'cellarlaw01.SumZeros', WHERE WHAT IT READS IS OF BULK AT MOST 1048576: true; the input reads as it did. -/
def sumZerosUptoRow : OpenClaim := { program := "ytbnbpnnpbnpidaa", sum := "42fd60cbdb2cbbebe4f3b8b02c3d32e27271773c3b06db32668b687402c2302f", func := "cellar/cellarlaw01.SumZeros", spec := "sumZeros", apart := false, narrowed := true }
def SumZerosUptoSaid : Prop := sumZerosUptoRow.holds Try.pinned (OpenSpec.upto sumZerosSpec)

/-- 'cellarlaw01.SumZerosAre', WHERE WHAT IT READS IS OF BULK AT MOST 1048576: true; the input reads as it did. -/
def sumZerosAreUptoRow : OpenClaim := { program := "ytbnbpnnpbnpidaa", sum := "42fd60cbdb2cbbebe4f3b8b02c3d32e27271773c3b06db32668b687402c2302f", func := "cellar/cellarlaw01.SumZerosAre", spec := "sumZerosAre", apart := false, narrowed := true }
def SumZerosAreUptoSaid : Prop := sumZerosAreUptoRow.holds Try.pinned (OpenSpec.upto sumZerosAreSpec)

/-- 'cellarlaw01.SumCombines', WHERE WHAT IT READS IS OF BULK AT MOST 1048576: true; the input reads as it did. -/
def sumCombinesUptoRow : OpenClaim := { program := "ytbnbpnnpbnpidaa", sum := "42fd60cbdb2cbbebe4f3b8b02c3d32e27271773c3b06db32668b687402c2302f", func := "cellar/cellarlaw01.SumCombines", spec := "sumCombines", apart := false, narrowed := true }
def SumCombinesUptoSaid : Prop := sumCombinesUptoRow.holds Try.pinned (OpenSpec.upto sumCombinesSpec)

/-- 'cellarlaw01.SumJoins', WHERE WHAT IT READS IS OF BULK AT MOST 1048576: true; the input reads as it did. -/
def sumJoinsUptoRow : OpenClaim := { program := "ytbnbpnnpbnpidaa", sum := "42fd60cbdb2cbbebe4f3b8b02c3d32e27271773c3b06db32668b687402c2302f", func := "cellar/cellarlaw01.SumJoins", spec := "sumJoins", apart := false, narrowed := true }
def SumJoinsUptoSaid : Prop := sumJoinsUptoRow.holds Try.pinned (OpenSpec.upto sumJoinsSpec)

end Rows
end Go.Proofs.Ytbnbpnnpbnpidaa
