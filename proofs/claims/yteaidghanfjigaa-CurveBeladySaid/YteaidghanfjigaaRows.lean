/-
  No cell of these rows narrows 'for every input' (looked for: loops, veiled, ifaces, maps, wideKeys, modest, calm, conditions, laid).
  DERIVED. THE GIVEN ROWS OF THIS SEAT. 8 by the template 'for every input the law returns true; each argument reads behind the call as it read before'; 0 by the template 'total and deterministic' (their statements: YteaidghanfjigaaTotals.lean).
  GIVEN WITH THE SEED: the statements are not yours to turn. If you find one false, say at which input.
  Laid BY PROGRAM, IN A SANDBOX (cutbox-rows.mjs): the forced cells as the released guide's own fill.sh prints them over the translation b28fb4f4472fa781… (all of the seat's roots in one cut). By AI agents, Wed Nov 11 2026. No macro, syntax, notation, axiom, sorry.
-/
import Derived.Test.YteaidghanfjigaaChecked
import GoSem.Claim
import GoSem.ClaimJoined
import GoSem.ClaimMapViews
import Derived.JoinedTies
import Derived.KernelRfl
namespace Go.Proofs.Yteaidghanfjigaa
/- THE CELL 'sum', in the pinned program and in every row, IS THE sha256 OF THE DUMP (.gsa) THAT YteaidghanfjigaaProg.lean LOADS. Nothing in Lean hashes anything: it is a label: what it is worth is what the hold of that sum in a sandbox is worth. -/
noncomputable def Try.pinned : Pinned := { name := "yteaidghanfjigaa", sum := "b28fb4f4472fa7817de84fc2027bf9495be885f10c10dc0228bd69b5539024cc", checked := Try.checked }
namespace Rows
def none {H : Type} : Left H := { results := [], args := [] }

/-- 'cellarlaw27.CurveAnomaly': WHATEVER THE INPUT: true; the input reads as it did. -/
def curveAnomalySpec : ChangeSpec := { name := "curveAnomaly", fn := fun _ => fun
  | [d1, d2] => { results := [.lit (.bool true)], args := [d1, d2] }
  | _ => none }
def curveAnomalyRow : OpenClaim := { program := "yteaidghanfjigaa", sum := "b28fb4f4472fa7817de84fc2027bf9495be885f10c10dc0228bd69b5539024cc", func := "cellar/cellarlaw27.CurveAnomaly", spec := "curveAnomaly", apart := false }
def CurveAnomalySaid : Prop := curveAnomalyRow.holds Try.pinned (OpenSpec.ofChange curveAnomalySpec)

/-- ITS FALSE NEIGHBOUR: 'it returns false'. Refute it at one input. -/
def curveAnomalyWrong : ChangeSpec := { name := "curveAnomaly", fn := fun _ => fun
  | [d1, d2] => { results := [.lit (.bool false)], args := [d1, d2] }
  | _ => none }
def CurveAnomalyWrongFalsely : Prop := curveAnomalyRow.holds Try.pinned (OpenSpec.ofChange curveAnomalyWrong)

/-- 'cellarlaw27.CurveDistances': WHATEVER THE INPUT: true; the input reads as it did. -/
def curveDistancesSpec : ChangeSpec := { name := "curveDistances", fn := fun _ => fun
  | [d] => { results := [.lit (.bool true)], args := [d] }
  | _ => none }
def curveDistancesRow : OpenClaim := { program := "yteaidghanfjigaa", sum := "b28fb4f4472fa7817de84fc2027bf9495be885f10c10dc0228bd69b5539024cc", func := "cellar/cellarlaw27.CurveDistances", spec := "curveDistances", apart := false }
def CurveDistancesSaid : Prop := curveDistancesRow.holds Try.pinned (OpenSpec.ofChange curveDistancesSpec)

/-- ITS FALSE NEIGHBOUR: 'it returns false'. Refute it at one input. -/
def curveDistancesWrong : ChangeSpec := { name := "curveDistances", fn := fun _ => fun
  | [d] => { results := [.lit (.bool false)], args := [d] }
  | _ => none }
def CurveDistancesWrongFalsely : Prop := curveDistancesRow.holds Try.pinned (OpenSpec.ofChange curveDistancesWrong)

/-- 'cellarlaw27.CurveCurves': WHATEVER THE INPUT: true; the input reads as it did. -/
def curveCurvesSpec : ChangeSpec := { name := "curveCurves", fn := fun _ => fun
  | [d1, d2] => { results := [.lit (.bool true)], args := [d1, d2] }
  | _ => none }
def curveCurvesRow : OpenClaim := { program := "yteaidghanfjigaa", sum := "b28fb4f4472fa7817de84fc2027bf9495be885f10c10dc0228bd69b5539024cc", func := "cellar/cellarlaw27.CurveCurves", spec := "curveCurves", apart := false }
def CurveCurvesSaid : Prop := curveCurvesRow.holds Try.pinned (OpenSpec.ofChange curveCurvesSpec)

/-- ITS FALSE NEIGHBOUR: 'it returns false'. Refute it at one input. -/
def curveCurvesWrong : ChangeSpec := { name := "curveCurves", fn := fun _ => fun
  | [d1, d2] => { results := [.lit (.bool false)], args := [d1, d2] }
  | _ => none }
def CurveCurvesWrongFalsely : Prop := curveCurvesRow.holds Try.pinned (OpenSpec.ofChange curveCurvesWrong)

/-- 'cellarlaw27.CurveSamples': WHATEVER THE INPUT: true; the input reads as it did. -/
def curveSamplesSpec : ChangeSpec := { name := "curveSamples", fn := fun _ => fun
  | [d1, d2, d3] => { results := [.lit (.bool true)], args := [d1, d2, d3] }
  | _ => none }
def curveSamplesRow : OpenClaim := { program := "yteaidghanfjigaa", sum := "b28fb4f4472fa7817de84fc2027bf9495be885f10c10dc0228bd69b5539024cc", func := "cellar/cellarlaw27.CurveSamples", spec := "curveSamples", apart := false }
def CurveSamplesSaid : Prop := curveSamplesRow.holds Try.pinned (OpenSpec.ofChange curveSamplesSpec)

/-- ITS FALSE NEIGHBOUR: 'it returns false'. Refute it at one input. -/
def curveSamplesWrong : ChangeSpec := { name := "curveSamples", fn := fun _ => fun
  | [d1, d2, d3] => { results := [.lit (.bool false)], args := [d1, d2, d3] }
  | _ => none }
def CurveSamplesWrongFalsely : Prop := curveSamplesRow.holds Try.pinned (OpenSpec.ofChange curveSamplesWrong)

/-- 'cellarlaw27.CurveMattson': WHATEVER THE INPUT: true; the input reads as it did. -/
def curveMattsonSpec : ChangeSpec := { name := "curveMattson", fn := fun _ => fun
  | [d1, d2] => { results := [.lit (.bool true)], args := [d1, d2] }
  | _ => none }
def curveMattsonRow : OpenClaim := { program := "yteaidghanfjigaa", sum := "b28fb4f4472fa7817de84fc2027bf9495be885f10c10dc0228bd69b5539024cc", func := "cellar/cellarlaw27.CurveMattson", spec := "curveMattson", apart := false }
def CurveMattsonSaid : Prop := curveMattsonRow.holds Try.pinned (OpenSpec.ofChange curveMattsonSpec)

/-- ITS FALSE NEIGHBOUR: 'it returns false'. Refute it at one input. -/
def curveMattsonWrong : ChangeSpec := { name := "curveMattson", fn := fun _ => fun
  | [d1, d2] => { results := [.lit (.bool false)], args := [d1, d2] }
  | _ => none }
def CurveMattsonWrongFalsely : Prop := curveMattsonRow.holds Try.pinned (OpenSpec.ofChange curveMattsonWrong)

/-- 'cellarlaw27.CurveWorks': WHATEVER THE INPUT: true; the input reads as it did. -/
def curveWorksSpec : ChangeSpec := { name := "curveWorks", fn := fun _ => fun
  | [d1, d2] => { results := [.lit (.bool true)], args := [d1, d2] }
  | _ => none }
def curveWorksRow : OpenClaim := { program := "yteaidghanfjigaa", sum := "b28fb4f4472fa7817de84fc2027bf9495be885f10c10dc0228bd69b5539024cc", func := "cellar/cellarlaw27.CurveWorks", spec := "curveWorks", apart := false }
def CurveWorksSaid : Prop := curveWorksRow.holds Try.pinned (OpenSpec.ofChange curveWorksSpec)

/-- ITS FALSE NEIGHBOUR: 'it returns false'. Refute it at one input. -/
def curveWorksWrong : ChangeSpec := { name := "curveWorks", fn := fun _ => fun
  | [d1, d2] => { results := [.lit (.bool false)], args := [d1, d2] }
  | _ => none }
def CurveWorksWrongFalsely : Prop := curveWorksRow.holds Try.pinned (OpenSpec.ofChange curveWorksWrong)

/-- 'cellarlaw27.CurveHits': WHATEVER THE INPUT: true; the input reads as it did. -/
def curveHitsSpec : ChangeSpec := { name := "curveHits", fn := fun _ => fun
  | [d1, d2] => { results := [.lit (.bool true)], args := [d1, d2] }
  | _ => none }
def curveHitsRow : OpenClaim := { program := "yteaidghanfjigaa", sum := "b28fb4f4472fa7817de84fc2027bf9495be885f10c10dc0228bd69b5539024cc", func := "cellar/cellarlaw27.CurveHits", spec := "curveHits", apart := false }
def CurveHitsSaid : Prop := curveHitsRow.holds Try.pinned (OpenSpec.ofChange curveHitsSpec)

/-- ITS FALSE NEIGHBOUR: 'it returns false'. Refute it at one input. -/
def curveHitsWrong : ChangeSpec := { name := "curveHits", fn := fun _ => fun
  | [d1, d2] => { results := [.lit (.bool false)], args := [d1, d2] }
  | _ => none }
def CurveHitsWrongFalsely : Prop := curveHitsRow.holds Try.pinned (OpenSpec.ofChange curveHitsWrong)

/-- 'cellarlaw27.CurveBelady': WHATEVER THE INPUT: true; the input reads as it did. -/
def curveBeladySpec : ChangeSpec := { name := "curveBelady", fn := fun _ => fun
  | [d1, d2] => { results := [.lit (.bool true)], args := [d1, d2] }
  | _ => none }
def curveBeladyRow : OpenClaim := { program := "yteaidghanfjigaa", sum := "b28fb4f4472fa7817de84fc2027bf9495be885f10c10dc0228bd69b5539024cc", func := "cellar/cellarlaw27.CurveBelady", spec := "curveBelady", apart := false }
def CurveBeladySaid : Prop := curveBeladyRow.holds Try.pinned (OpenSpec.ofChange curveBeladySpec)

/-- ITS FALSE NEIGHBOUR: 'it returns false'. Refute it at one input. -/
def curveBeladyWrong : ChangeSpec := { name := "curveBelady", fn := fun _ => fun
  | [d1, d2] => { results := [.lit (.bool false)], args := [d1, d2] }
  | _ => none }
def CurveBeladyWrongFalsely : Prop := curveBeladyRow.holds Try.pinned (OpenSpec.ofChange curveBeladyWrong)

/- THE SECOND FORM. 'bulk': how many values and letters a reading holds, each counted each time it is reached (what is shared counts as often as it is met; a slice's spare places count too). A statement '..UptoSaid' is the law's where the arguments, and the package variables that the reading takes, are together of bulk at most 1048576: NARROWER than '..Said'. Prove '..Said' where nothing that the law and all that it calls make is longer than what came in: it says more and counts as full. Else prove '..UptoSaid'. A law counts once. -/
mutual
def uptoBulk {H : Type} : DataW H → Nat
  | .lit (.string bytes) => bytes.length + 1
  | .lit _ => 1
  | .nil => 1
  | .ptr d => uptoBulk d + 1
  | .slice elems spare => uptoBulkAll elems + uptoBulkAll spare + 1
  | .agg parts => uptoBulkAll parts + 1
  | .iface _ d => uptoBulk d + 1
  | .map entries => uptoBulkEntries entries + 1
  | .held _ => 1
def uptoBulkAll {H : Type} : List (DataW H) → Nat
  | [] => 0
  | d :: r => uptoBulk d + uptoBulkAll r
def uptoBulkEntries {H : Type} : List (Lit × DataW H) → Nat
  | [] => 0
  | x :: r => uptoBulkEntry x + uptoBulkEntries r
def uptoBulkEntry {H : Type} : Lit × DataW H → Nat
  | (.string bytes, d) => bytes.length + uptoBulk d + 1
  | (_, d) => uptoBulk d + 1
 end
def uptoSmall : (H : Type) → List (DataW H) → Bool := fun _ ds => decide (uptoBulkAll ds ≤ 1048576)
def OpenSpec.upto (s : _root_.Go.ChangeSpec) : _root_.Go.OpenSpec := { _root_.Go.OpenSpec.ofChange s with cond := some uptoSmall }

/-- 'cellarlaw27.CurveAnomaly', WHERE WHAT IT READS IS OF BULK AT MOST 1048576: true; the input reads as it did. -/
def curveAnomalyUptoRow : OpenClaim := { program := "yteaidghanfjigaa", sum := "b28fb4f4472fa7817de84fc2027bf9495be885f10c10dc0228bd69b5539024cc", func := "cellar/cellarlaw27.CurveAnomaly", spec := "curveAnomaly", apart := false, narrowed := true }
def CurveAnomalyUptoSaid : Prop := curveAnomalyUptoRow.holds Try.pinned (OpenSpec.upto curveAnomalySpec)

/-- 'cellarlaw27.CurveDistances', WHERE WHAT IT READS IS OF BULK AT MOST 1048576: true; the input reads as it did. -/
def curveDistancesUptoRow : OpenClaim := { program := "yteaidghanfjigaa", sum := "b28fb4f4472fa7817de84fc2027bf9495be885f10c10dc0228bd69b5539024cc", func := "cellar/cellarlaw27.CurveDistances", spec := "curveDistances", apart := false, narrowed := true }
def CurveDistancesUptoSaid : Prop := curveDistancesUptoRow.holds Try.pinned (OpenSpec.upto curveDistancesSpec)

/-- 'cellarlaw27.CurveCurves', WHERE WHAT IT READS IS OF BULK AT MOST 1048576: true; the input reads as it did. -/
def curveCurvesUptoRow : OpenClaim := { program := "yteaidghanfjigaa", sum := "b28fb4f4472fa7817de84fc2027bf9495be885f10c10dc0228bd69b5539024cc", func := "cellar/cellarlaw27.CurveCurves", spec := "curveCurves", apart := false, narrowed := true }
def CurveCurvesUptoSaid : Prop := curveCurvesUptoRow.holds Try.pinned (OpenSpec.upto curveCurvesSpec)

/-- 'cellarlaw27.CurveSamples', WHERE WHAT IT READS IS OF BULK AT MOST 1048576: true; the input reads as it did. -/
def curveSamplesUptoRow : OpenClaim := { program := "yteaidghanfjigaa", sum := "b28fb4f4472fa7817de84fc2027bf9495be885f10c10dc0228bd69b5539024cc", func := "cellar/cellarlaw27.CurveSamples", spec := "curveSamples", apart := false, narrowed := true }
def CurveSamplesUptoSaid : Prop := curveSamplesUptoRow.holds Try.pinned (OpenSpec.upto curveSamplesSpec)

/-- 'cellarlaw27.CurveMattson', WHERE WHAT IT READS IS OF BULK AT MOST 1048576: true; the input reads as it did. -/
def curveMattsonUptoRow : OpenClaim := { program := "yteaidghanfjigaa", sum := "b28fb4f4472fa7817de84fc2027bf9495be885f10c10dc0228bd69b5539024cc", func := "cellar/cellarlaw27.CurveMattson", spec := "curveMattson", apart := false, narrowed := true }
def CurveMattsonUptoSaid : Prop := curveMattsonUptoRow.holds Try.pinned (OpenSpec.upto curveMattsonSpec)

/-- 'cellarlaw27.CurveWorks', WHERE WHAT IT READS IS OF BULK AT MOST 1048576: true; the input reads as it did. -/
def curveWorksUptoRow : OpenClaim := { program := "yteaidghanfjigaa", sum := "b28fb4f4472fa7817de84fc2027bf9495be885f10c10dc0228bd69b5539024cc", func := "cellar/cellarlaw27.CurveWorks", spec := "curveWorks", apart := false, narrowed := true }
def CurveWorksUptoSaid : Prop := curveWorksUptoRow.holds Try.pinned (OpenSpec.upto curveWorksSpec)

/-- 'cellarlaw27.CurveHits', WHERE WHAT IT READS IS OF BULK AT MOST 1048576: true; the input reads as it did. -/
def curveHitsUptoRow : OpenClaim := { program := "yteaidghanfjigaa", sum := "b28fb4f4472fa7817de84fc2027bf9495be885f10c10dc0228bd69b5539024cc", func := "cellar/cellarlaw27.CurveHits", spec := "curveHits", apart := false, narrowed := true }
def CurveHitsUptoSaid : Prop := curveHitsUptoRow.holds Try.pinned (OpenSpec.upto curveHitsSpec)

/-- 'cellarlaw27.CurveBelady', WHERE WHAT IT READS IS OF BULK AT MOST 1048576: true; the input reads as it did. -/
def curveBeladyUptoRow : OpenClaim := { program := "yteaidghanfjigaa", sum := "b28fb4f4472fa7817de84fc2027bf9495be885f10c10dc0228bd69b5539024cc", func := "cellar/cellarlaw27.CurveBelady", spec := "curveBelady", apart := false, narrowed := true }
def CurveBeladyUptoSaid : Prop := curveBeladyUptoRow.holds Try.pinned (OpenSpec.upto curveBeladySpec)

end Rows
end Go.Proofs.Yteaidghanfjigaa
