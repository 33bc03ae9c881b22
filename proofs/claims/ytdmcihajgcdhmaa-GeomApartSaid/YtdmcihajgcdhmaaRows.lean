/-
  No cell of these rows narrows 'for every input' (looked for: loops, veiled, ifaces, maps, wideKeys, modest, calm, conditions, laid).
  DERIVED. THE GIVEN ROWS OF THIS SEAT. 13 by the template 'for every input the law returns true; each argument reads behind the call as it read before'; 0 by the template 'total and deterministic' (their statements: YtdmcihajgcdhmaaTotals.lean).
  GIVEN WITH THE SEED: the statements are not yours to turn. If you find one false, say at which input.
  Laid BY PROGRAM, IN A SANDBOX (cutbox-rows.mjs): the forced cells as the released guide's own fill.sh prints them over the translation 66150c00f6180358… (all of the seat's roots in one cut). By AI agents, Wed Nov 11 2026. No macro, syntax, notation, axiom, sorry.
-/
import Derived.Test.YtdmcihajgcdhmaaChecked
import GoSem.Claim
import GoSem.ClaimJoined
import GoSem.ClaimMapViews
import Derived.JoinedTies
import Derived.KernelRfl
namespace Go.Proofs.Ytdmcihajgcdhmaa
/- THE CELL 'sum', in the pinned program and in every row, IS THE sha256 OF THE DUMP (.gsa) THAT YtdmcihajgcdhmaaProg.lean LOADS. Nothing in Lean hashes anything: it is a label: what it is worth is what the hold of that sum in a sandbox is worth. -/
noncomputable def Try.pinned : Pinned := { name := "ytdmcihajgcdhmaa", sum := "66150c00f6180358192517df170b4f6f6ad8a490332833d8bf1221f2e640e12c", checked := Try.checked }
namespace Rows
def none {H : Type} : Left H := { results := [], args := [] }

/-- 'cellarlaw02.GeomNames': WHATEVER THE INPUT: true; the input reads as it did. -/
def geomNamesSpec : ChangeSpec := { name := "geomNames", fn := fun _ => fun
  | [] => { results := [.lit (.bool true)], args := [] }
  | _ => none }
def geomNamesRow : OpenClaim := { program := "ytdmcihajgcdhmaa", sum := "66150c00f6180358192517df170b4f6f6ad8a490332833d8bf1221f2e640e12c", func := "cellar/cellarlaw02.GeomNames", spec := "geomNames", apart := false }
def GeomNamesSaid : Prop := geomNamesRow.holds Try.pinned (OpenSpec.ofChange geomNamesSpec)

/-- ITS FALSE NEIGHBOUR: 'it returns false'. Refute it at one input. -/
def geomNamesWrong : ChangeSpec := { name := "geomNames", fn := fun _ => fun
  | [] => { results := [.lit (.bool false)], args := [] }
  | _ => none }
def GeomNamesWrongFalsely : Prop := geomNamesRow.holds Try.pinned (OpenSpec.ofChange geomNamesWrong)

/-- 'cellarlaw02.GeomChecks': WHATEVER THE INPUT: true; the input reads as it did. -/
def geomChecksSpec : ChangeSpec := { name := "geomChecks", fn := fun _ => fun
  | [d] => { results := [.lit (.bool true)], args := [d] }
  | _ => none }
def geomChecksRow : OpenClaim := { program := "ytdmcihajgcdhmaa", sum := "66150c00f6180358192517df170b4f6f6ad8a490332833d8bf1221f2e640e12c", func := "cellar/cellarlaw02.GeomChecks", spec := "geomChecks", apart := false }
def GeomChecksSaid : Prop := geomChecksRow.holds Try.pinned (OpenSpec.ofChange geomChecksSpec)

/-- ITS FALSE NEIGHBOUR: 'it returns false'. Refute it at one input. -/
def geomChecksWrong : ChangeSpec := { name := "geomChecks", fn := fun _ => fun
  | [d] => { results := [.lit (.bool false)], args := [d] }
  | _ => none }
def GeomChecksWrongFalsely : Prop := geomChecksRow.holds Try.pinned (OpenSpec.ofChange geomChecksWrong)

/-- 'cellarlaw02.GeomSplits': WHATEVER THE INPUT: true; the input reads as it did. -/
def geomSplitsSpec : ChangeSpec := { name := "geomSplits", fn := fun _ => fun
  | [d1, d2] => { results := [.lit (.bool true)], args := [d1, d2] }
  | _ => none }
def geomSplitsRow : OpenClaim := { program := "ytdmcihajgcdhmaa", sum := "66150c00f6180358192517df170b4f6f6ad8a490332833d8bf1221f2e640e12c", func := "cellar/cellarlaw02.GeomSplits", spec := "geomSplits", unfollowed := true, recurses := true, apart := false }
def GeomSplitsSaid : Prop := geomSplitsRow.holds Try.pinned (OpenSpec.ofChange geomSplitsSpec)

/-- ITS FALSE NEIGHBOUR: 'it returns false'. Refute it at one input. -/
def geomSplitsWrong : ChangeSpec := { name := "geomSplits", fn := fun _ => fun
  | [d1, d2] => { results := [.lit (.bool false)], args := [d1, d2] }
  | _ => none }
def GeomSplitsWrongFalsely : Prop := geomSplitsRow.holds Try.pinned (OpenSpec.ofChange geomSplitsWrong)

/-- 'cellarlaw02.GeomJoins': WHATEVER THE INPUT: true; the input reads as it did. -/
def geomJoinsSpec : ChangeSpec := { name := "geomJoins", fn := fun _ => fun
  | [d1, d2] => { results := [.lit (.bool true)], args := [d1, d2] }
  | _ => none }
def geomJoinsRow : OpenClaim := { program := "ytdmcihajgcdhmaa", sum := "66150c00f6180358192517df170b4f6f6ad8a490332833d8bf1221f2e640e12c", func := "cellar/cellarlaw02.GeomJoins", spec := "geomJoins", unfollowed := true, recurses := true, apart := false }
def GeomJoinsSaid : Prop := geomJoinsRow.holds Try.pinned (OpenSpec.ofChange geomJoinsSpec)

/-- ITS FALSE NEIGHBOUR: 'it returns false'. Refute it at one input. -/
def geomJoinsWrong : ChangeSpec := { name := "geomJoins", fn := fun _ => fun
  | [d1, d2] => { results := [.lit (.bool false)], args := [d1, d2] }
  | _ => none }
def GeomJoinsWrongFalsely : Prop := geomJoinsRow.holds Try.pinned (OpenSpec.ofChange geomJoinsWrong)

/-- 'cellarlaw02.GeomUps': WHATEVER THE INPUT: true; the input reads as it did. -/
def geomUpsSpec : ChangeSpec := { name := "geomUps", fn := fun _ => fun
  | [d1, d2] => { results := [.lit (.bool true)], args := [d1, d2] }
  | _ => none }
def geomUpsRow : OpenClaim := { program := "ytdmcihajgcdhmaa", sum := "66150c00f6180358192517df170b4f6f6ad8a490332833d8bf1221f2e640e12c", func := "cellar/cellarlaw02.GeomUps", spec := "geomUps", apart := false }
def GeomUpsSaid : Prop := geomUpsRow.holds Try.pinned (OpenSpec.ofChange geomUpsSpec)

/-- ITS FALSE NEIGHBOUR: 'it returns false'. Refute it at one input. -/
def geomUpsWrong : ChangeSpec := { name := "geomUps", fn := fun _ => fun
  | [d1, d2] => { results := [.lit (.bool false)], args := [d1, d2] }
  | _ => none }
def GeomUpsWrongFalsely : Prop := geomUpsRow.holds Try.pinned (OpenSpec.ofChange geomUpsWrong)

/-- 'cellarlaw02.GeomPieces': WHATEVER THE INPUT: true; the input reads as it did. -/
def geomPiecesSpec : ChangeSpec := { name := "geomPieces", fn := fun _ => fun
  | [d1, d2] => { results := [.lit (.bool true)], args := [d1, d2] }
  | _ => none }
def geomPiecesRow : OpenClaim := { program := "ytdmcihajgcdhmaa", sum := "66150c00f6180358192517df170b4f6f6ad8a490332833d8bf1221f2e640e12c", func := "cellar/cellarlaw02.GeomPieces", spec := "geomPieces", unfollowed := true, recurses := true, apart := false }
def GeomPiecesSaid : Prop := geomPiecesRow.holds Try.pinned (OpenSpec.ofChange geomPiecesSpec)

/-- ITS FALSE NEIGHBOUR: 'it returns false'. Refute it at one input. -/
def geomPiecesWrong : ChangeSpec := { name := "geomPieces", fn := fun _ => fun
  | [d1, d2] => { results := [.lit (.bool false)], args := [d1, d2] }
  | _ => none }
def GeomPiecesWrongFalsely : Prop := geomPiecesRow.holds Try.pinned (OpenSpec.ofChange geomPiecesWrong)

/-- 'cellarlaw02.GeomCovers': WHATEVER THE INPUT: true; the input reads as it did. -/
def geomCoversSpec : ChangeSpec := { name := "geomCovers", fn := fun _ => fun
  | [d1, d2, d3] => { results := [.lit (.bool true)], args := [d1, d2, d3] }
  | _ => none }
def geomCoversRow : OpenClaim := { program := "ytdmcihajgcdhmaa", sum := "66150c00f6180358192517df170b4f6f6ad8a490332833d8bf1221f2e640e12c", func := "cellar/cellarlaw02.GeomCovers", spec := "geomCovers", unfollowed := true, recurses := true, apart := false }
def GeomCoversSaid : Prop := geomCoversRow.holds Try.pinned (OpenSpec.ofChange geomCoversSpec)

/-- ITS FALSE NEIGHBOUR: 'it returns false'. Refute it at one input. -/
def geomCoversWrong : ChangeSpec := { name := "geomCovers", fn := fun _ => fun
  | [d1, d2, d3] => { results := [.lit (.bool false)], args := [d1, d2, d3] }
  | _ => none }
def GeomCoversWrongFalsely : Prop := geomCoversRow.holds Try.pinned (OpenSpec.ofChange geomCoversWrong)

/-- 'cellarlaw02.GeomHints': WHATEVER THE INPUT: true; the input reads as it did. -/
def geomHintsSpec : ChangeSpec := { name := "geomHints", fn := fun _ => fun
  | [d1, d2] => { results := [.lit (.bool true)], args := [d1, d2] }
  | _ => none }
def geomHintsRow : OpenClaim := { program := "ytdmcihajgcdhmaa", sum := "66150c00f6180358192517df170b4f6f6ad8a490332833d8bf1221f2e640e12c", func := "cellar/cellarlaw02.GeomHints", spec := "geomHints", apart := false }
def GeomHintsSaid : Prop := geomHintsRow.holds Try.pinned (OpenSpec.ofChange geomHintsSpec)

/-- ITS FALSE NEIGHBOUR: 'it returns false'. Refute it at one input. -/
def geomHintsWrong : ChangeSpec := { name := "geomHints", fn := fun _ => fun
  | [d1, d2] => { results := [.lit (.bool false)], args := [d1, d2] }
  | _ => none }
def GeomHintsWrongFalsely : Prop := geomHintsRow.holds Try.pinned (OpenSpec.ofChange geomHintsWrong)

/-- 'cellarlaw02.GeomTight': WHATEVER THE INPUT: true; the input reads as it did. -/
def geomTightSpec : ChangeSpec := { name := "geomTight", fn := fun _ => fun
  | [d1, d2] => { results := [.lit (.bool true)], args := [d1, d2] }
  | _ => none }
def geomTightRow : OpenClaim := { program := "ytdmcihajgcdhmaa", sum := "66150c00f6180358192517df170b4f6f6ad8a490332833d8bf1221f2e640e12c", func := "cellar/cellarlaw02.GeomTight", spec := "geomTight", apart := false }
def GeomTightSaid : Prop := geomTightRow.holds Try.pinned (OpenSpec.ofChange geomTightSpec)

/-- ITS FALSE NEIGHBOUR: 'it returns false'. Refute it at one input. -/
def geomTightWrong : ChangeSpec := { name := "geomTight", fn := fun _ => fun
  | [d1, d2] => { results := [.lit (.bool false)], args := [d1, d2] }
  | _ => none }
def GeomTightWrongFalsely : Prop := geomTightRow.holds Try.pinned (OpenSpec.ofChange geomTightWrong)

/-- 'cellarlaw02.GeomPacks': WHATEVER THE INPUT: true; the input reads as it did. -/
def geomPacksSpec : ChangeSpec := { name := "geomPacks", fn := fun _ => fun
  | [d1, d2] => { results := [.lit (.bool true)], args := [d1, d2] }
  | _ => none }
def geomPacksRow : OpenClaim := { program := "ytdmcihajgcdhmaa", sum := "66150c00f6180358192517df170b4f6f6ad8a490332833d8bf1221f2e640e12c", func := "cellar/cellarlaw02.GeomPacks", spec := "geomPacks", apart := false }
def GeomPacksSaid : Prop := geomPacksRow.holds Try.pinned (OpenSpec.ofChange geomPacksSpec)

/-- ITS FALSE NEIGHBOUR: 'it returns false'. Refute it at one input. -/
def geomPacksWrong : ChangeSpec := { name := "geomPacks", fn := fun _ => fun
  | [d1, d2] => { results := [.lit (.bool false)], args := [d1, d2] }
  | _ => none }
def GeomPacksWrongFalsely : Prop := geomPacksRow.holds Try.pinned (OpenSpec.ofChange geomPacksWrong)

/-- 'cellarlaw02.GeomUnpacks': WHATEVER THE INPUT: true; the input reads as it did. -/
def geomUnpacksSpec : ChangeSpec := { name := "geomUnpacks", fn := fun _ => fun
  | [d1, d2] => { results := [.lit (.bool true)], args := [d1, d2] }
  | _ => none }
def geomUnpacksRow : OpenClaim := { program := "ytdmcihajgcdhmaa", sum := "66150c00f6180358192517df170b4f6f6ad8a490332833d8bf1221f2e640e12c", func := "cellar/cellarlaw02.GeomUnpacks", spec := "geomUnpacks", apart := false }
def GeomUnpacksSaid : Prop := geomUnpacksRow.holds Try.pinned (OpenSpec.ofChange geomUnpacksSpec)

/-- ITS FALSE NEIGHBOUR: 'it returns false'. Refute it at one input. -/
def geomUnpacksWrong : ChangeSpec := { name := "geomUnpacks", fn := fun _ => fun
  | [d1, d2] => { results := [.lit (.bool false)], args := [d1, d2] }
  | _ => none }
def GeomUnpacksWrongFalsely : Prop := geomUnpacksRow.holds Try.pinned (OpenSpec.ofChange geomUnpacksWrong)

/-- 'cellarlaw02.GeomPlaces': WHATEVER THE INPUT: true; the input reads as it did. -/
def geomPlacesSpec : ChangeSpec := { name := "geomPlaces", fn := fun _ => fun
  | [d] => { results := [.lit (.bool true)], args := [d] }
  | _ => none }
def geomPlacesRow : OpenClaim := { program := "ytdmcihajgcdhmaa", sum := "66150c00f6180358192517df170b4f6f6ad8a490332833d8bf1221f2e640e12c", func := "cellar/cellarlaw02.GeomPlaces", spec := "geomPlaces", apart := false }
def GeomPlacesSaid : Prop := geomPlacesRow.holds Try.pinned (OpenSpec.ofChange geomPlacesSpec)

/-- ITS FALSE NEIGHBOUR: 'it returns false'. Refute it at one input. -/
def geomPlacesWrong : ChangeSpec := { name := "geomPlaces", fn := fun _ => fun
  | [d] => { results := [.lit (.bool false)], args := [d] }
  | _ => none }
def GeomPlacesWrongFalsely : Prop := geomPlacesRow.holds Try.pinned (OpenSpec.ofChange geomPlacesWrong)

/-- 'cellarlaw02.GeomApart': WHATEVER THE INPUT: true; the input reads as it did. -/
def geomApartSpec : ChangeSpec := { name := "geomApart", fn := fun _ => fun
  | [d] => { results := [.lit (.bool true)], args := [d] }
  | _ => none }
def geomApartRow : OpenClaim := { program := "ytdmcihajgcdhmaa", sum := "66150c00f6180358192517df170b4f6f6ad8a490332833d8bf1221f2e640e12c", func := "cellar/cellarlaw02.GeomApart", spec := "geomApart", apart := false }
def GeomApartSaid : Prop := geomApartRow.holds Try.pinned (OpenSpec.ofChange geomApartSpec)

/-- ITS FALSE NEIGHBOUR: 'it returns false'. Refute it at one input. -/
def geomApartWrong : ChangeSpec := { name := "geomApart", fn := fun _ => fun
  | [d] => { results := [.lit (.bool false)], args := [d] }
  | _ => none }
def GeomApartWrongFalsely : Prop := geomApartRow.holds Try.pinned (OpenSpec.ofChange geomApartWrong)

/- THE SECOND FORM. 'bulk': how many values and letters a reading holds, each counted each time it is reached (what is shared counts as often as it is met; a slice's spare places count too). A statement '..UptoSaid' is the law's where the arguments, and the package variables that the reading takes, are together of bulk at most 1048576: NARROWER than '..Said'. Prove '..Said' where nothing that the law and all that it calls make is longer than what came in: it says more and counts as full. Else prove '..UptoSaid'. A law counts once. -/
mutual
def uptoBulk {H : Type} : DataW H → Nat
  | .lit (.string bytes) => bytes.length + 1
  | .lit _ => 1
  | .nil => 1
  | .ptr d => uptoBulk d + 1
  | .slice elems spare => uptoBulkAll elems + uptoBulkAll spare + 1
  | .agg parts => uptoBulkAll parts + 1
  | .iface _ d => uptoBulk d + 1
  | .map entries => uptoBulkEntries entries + 1
  | .held _ => 1
def uptoBulkAll {H : Type} : List (DataW H) → Nat
  | [] => 0
  | d :: r => uptoBulk d + uptoBulkAll r
def uptoBulkEntries {H : Type} : List (Lit × DataW H) → Nat
  | [] => 0
  | x :: r => uptoBulkEntry x + uptoBulkEntries r
def uptoBulkEntry {H : Type} : Lit × DataW H → Nat
  | (.string bytes, d) => bytes.length + uptoBulk d + 1
  | (_, d) => uptoBulk d + 1
 end
def uptoSmall : (H : Type) → List (DataW H) → Bool := fun _ ds => decide (uptoBulkAll ds ≤ 1048576)
def OpenSpec.upto (s : _root_.Go.ChangeSpec) : _root_.Go.OpenSpec := { _root_.Go.OpenSpec.ofChange s with cond := some uptoSmall }

/-- 'cellarlaw02.GeomNames', WHERE WHAT IT READS IS OF BULK AT MOST 1048576: true; the input reads as it did. -/
def geomNamesUptoRow : OpenClaim := { program := "ytdmcihajgcdhmaa", sum := "66150c00f6180358192517df170b4f6f6ad8a490332833d8bf1221f2e640e12c", func := "cellar/cellarlaw02.GeomNames", spec := "geomNames", apart := false, narrowed := true }
def GeomNamesUptoSaid : Prop := geomNamesUptoRow.holds Try.pinned (OpenSpec.upto geomNamesSpec)

/-- 'cellarlaw02.GeomChecks', WHERE WHAT IT READS IS OF BULK AT MOST 1048576: true; the input reads as it did. -/
def geomChecksUptoRow : OpenClaim := { program := "ytdmcihajgcdhmaa", sum := "66150c00f6180358192517df170b4f6f6ad8a490332833d8bf1221f2e640e12c", func := "cellar/cellarlaw02.GeomChecks", spec := "geomChecks", apart := false, narrowed := true }
def GeomChecksUptoSaid : Prop := geomChecksUptoRow.holds Try.pinned (OpenSpec.upto geomChecksSpec)

/-- 'cellarlaw02.GeomSplits', WHERE WHAT IT READS IS OF BULK AT MOST 1048576: true; the input reads as it did. -/
def geomSplitsUptoRow : OpenClaim := { program := "ytdmcihajgcdhmaa", sum := "66150c00f6180358192517df170b4f6f6ad8a490332833d8bf1221f2e640e12c", func := "cellar/cellarlaw02.GeomSplits", spec := "geomSplits", unfollowed := true, recurses := true, apart := false, narrowed := true }
def GeomSplitsUptoSaid : Prop := geomSplitsUptoRow.holds Try.pinned (OpenSpec.upto geomSplitsSpec)

/-- 'cellarlaw02.GeomJoins', WHERE WHAT IT READS IS OF BULK AT MOST 1048576: true; the input reads as it did. -/
def geomJoinsUptoRow : OpenClaim := { program := "ytdmcihajgcdhmaa", sum := "66150c00f6180358192517df170b4f6f6ad8a490332833d8bf1221f2e640e12c", func := "cellar/cellarlaw02.GeomJoins", spec := "geomJoins", unfollowed := true, recurses := true, apart := false, narrowed := true }
def GeomJoinsUptoSaid : Prop := geomJoinsUptoRow.holds Try.pinned (OpenSpec.upto geomJoinsSpec)

/-- 'cellarlaw02.GeomUps', WHERE WHAT IT READS IS OF BULK AT MOST 1048576: true; the input reads as it did. -/
def geomUpsUptoRow : OpenClaim := { program := "ytdmcihajgcdhmaa", sum := "66150c00f6180358192517df170b4f6f6ad8a490332833d8bf1221f2e640e12c", func := "cellar/cellarlaw02.GeomUps", spec := "geomUps", apart := false, narrowed := true }
def GeomUpsUptoSaid : Prop := geomUpsUptoRow.holds Try.pinned (OpenSpec.upto geomUpsSpec)

/-- 'cellarlaw02.GeomPieces', WHERE WHAT IT READS IS OF BULK AT MOST 1048576: true; the input reads as it did. -/
def geomPiecesUptoRow : OpenClaim := { program := "ytdmcihajgcdhmaa", sum := "66150c00f6180358192517df170b4f6f6ad8a490332833d8bf1221f2e640e12c", func := "cellar/cellarlaw02.GeomPieces", spec := "geomPieces", unfollowed := true, recurses := true, apart := false, narrowed := true }
def GeomPiecesUptoSaid : Prop := geomPiecesUptoRow.holds Try.pinned (OpenSpec.upto geomPiecesSpec)

/-- 'cellarlaw02.GeomCovers', WHERE WHAT IT READS IS OF BULK AT MOST 1048576: true; the input reads as it did. -/
def geomCoversUptoRow : OpenClaim := { program := "ytdmcihajgcdhmaa", sum := "66150c00f6180358192517df170b4f6f6ad8a490332833d8bf1221f2e640e12c", func := "cellar/cellarlaw02.GeomCovers", spec := "geomCovers", unfollowed := true, recurses := true, apart := false, narrowed := true }
def GeomCoversUptoSaid : Prop := geomCoversUptoRow.holds Try.pinned (OpenSpec.upto geomCoversSpec)

/-- 'cellarlaw02.GeomHints', WHERE WHAT IT READS IS OF BULK AT MOST 1048576: true; the input reads as it did. -/
def geomHintsUptoRow : OpenClaim := { program := "ytdmcihajgcdhmaa", sum := "66150c00f6180358192517df170b4f6f6ad8a490332833d8bf1221f2e640e12c", func := "cellar/cellarlaw02.GeomHints", spec := "geomHints", apart := false, narrowed := true }
def GeomHintsUptoSaid : Prop := geomHintsUptoRow.holds Try.pinned (OpenSpec.upto geomHintsSpec)

/-- 'cellarlaw02.GeomTight', WHERE WHAT IT READS IS OF BULK AT MOST 1048576: true; the input reads as it did. -/
def geomTightUptoRow : OpenClaim := { program := "ytdmcihajgcdhmaa", sum := "66150c00f6180358192517df170b4f6f6ad8a490332833d8bf1221f2e640e12c", func := "cellar/cellarlaw02.GeomTight", spec := "geomTight", apart := false, narrowed := true }
def GeomTightUptoSaid : Prop := geomTightUptoRow.holds Try.pinned (OpenSpec.upto geomTightSpec)

/-- 'cellarlaw02.GeomPacks', WHERE WHAT IT READS IS OF BULK AT MOST 1048576: true; the input reads as it did. -/
def geomPacksUptoRow : OpenClaim := { program := "ytdmcihajgcdhmaa", sum := "66150c00f6180358192517df170b4f6f6ad8a490332833d8bf1221f2e640e12c", func := "cellar/cellarlaw02.GeomPacks", spec := "geomPacks", apart := false, narrowed := true }
def GeomPacksUptoSaid : Prop := geomPacksUptoRow.holds Try.pinned (OpenSpec.upto geomPacksSpec)

/-- 'cellarlaw02.GeomUnpacks', WHERE WHAT IT READS IS OF BULK AT MOST 1048576: true; the input reads as it did. -/
def geomUnpacksUptoRow : OpenClaim := { program := "ytdmcihajgcdhmaa", sum := "66150c00f6180358192517df170b4f6f6ad8a490332833d8bf1221f2e640e12c", func := "cellar/cellarlaw02.GeomUnpacks", spec := "geomUnpacks", apart := false, narrowed := true }
def GeomUnpacksUptoSaid : Prop := geomUnpacksUptoRow.holds Try.pinned (OpenSpec.upto geomUnpacksSpec)

/-- 'cellarlaw02.GeomPlaces', WHERE WHAT IT READS IS OF BULK AT MOST 1048576: true; the input reads as it did. -/
def geomPlacesUptoRow : OpenClaim := { program := "ytdmcihajgcdhmaa", sum := "66150c00f6180358192517df170b4f6f6ad8a490332833d8bf1221f2e640e12c", func := "cellar/cellarlaw02.GeomPlaces", spec := "geomPlaces", apart := false, narrowed := true }
def GeomPlacesUptoSaid : Prop := geomPlacesUptoRow.holds Try.pinned (OpenSpec.upto geomPlacesSpec)

/-- 'cellarlaw02.GeomApart', WHERE WHAT IT READS IS OF BULK AT MOST 1048576: true; the input reads as it did. -/
def geomApartUptoRow : OpenClaim := { program := "ytdmcihajgcdhmaa", sum := "66150c00f6180358192517df170b4f6f6ad8a490332833d8bf1221f2e640e12c", func := "cellar/cellarlaw02.GeomApart", spec := "geomApart", apart := false, narrowed := true }
def GeomApartUptoSaid : Prop := geomApartUptoRow.holds Try.pinned (OpenSpec.upto geomApartSpec)

end Rows
end Go.Proofs.Ytdmcihajgcdhmaa
