/-
  No cell of these rows narrows 'for every input' (looked for: loops, veiled, ifaces, maps, wideKeys, modest, calm, conditions, laid).
  DERIVED. THE GIVEN ROWS OF THIS SEAT. 8 by the template 'for every input the law returns true; each argument reads behind the call as it read before'; 0 by the template 'total and deterministic' (their statements: YtadcmelbcahecaaTotals.lean).
  GIVEN WITH THE SEED: the statements are not yours to turn. If you find one false, say at which input.
  Laid BY PROGRAM, IN A SANDBOX (cutbox-rows.mjs): the forced cells as the released guide's own fill.sh prints them over the translation 8a58a6b7010bddd5… (all of the seat's roots in one cut). By AI agents, Wed Nov 11 2026. No macro, syntax, notation, axiom, sorry.
-/
import Derived.Test.YtadcmelbcahecaaChecked
import GoSem.Claim
import GoSem.ClaimJoined
import GoSem.ClaimMapViews
import Derived.JoinedTies
import Derived.KernelRfl
namespace Go.Proofs.Ytadcmelbcahecaa
/- THE CELL 'sum', in the pinned program and in every row, IS THE sha256 OF THE DUMP (.gsa) THAT YtadcmelbcahecaaProg.lean LOADS. Nothing in Lean hashes anything: it is a label: what it is worth is what the hold of that sum in a sandbox is worth. -/
noncomputable def Try.pinned : Pinned := { name := "ytadcmelbcahecaa", sum := "8a58a6b7010bddd5d63be2f160372a59286962fdd99ed3544f3d308518232721", checked := Try.checked }
namespace Rows
def none {H : Type} : Left H := { results := [], args := [] }

/-- 'trunnionlaw17.ShadowWalks': WHATEVER THE INPUT: true; the input reads as it did. -/
def shadowWalksSpec : ChangeSpec := { name := "shadowWalks", fn := fun _ => fun
  | [d1, d2, d3, d4, d5] => { results := [.lit (.bool true)], args := [d1, d2, d3, d4, d5] }
  | _ => none }
def shadowWalksRow : OpenClaim := { program := "ytadcmelbcahecaa", sum := "8a58a6b7010bddd5d63be2f160372a59286962fdd99ed3544f3d308518232721", func := "trunnion/trunnionlaw17.ShadowWalks", spec := "shadowWalks", unfollowed := true, recurses := true, apart := false }
def ShadowWalksSaid : Prop := shadowWalksRow.holds Try.pinned (OpenSpec.ofChange shadowWalksSpec)

/-- ITS FALSE NEIGHBOUR: 'it returns false'. Refute it at one input. -/
def shadowWalksWrong : ChangeSpec := { name := "shadowWalks", fn := fun _ => fun
  | [d1, d2, d3, d4, d5] => { results := [.lit (.bool false)], args := [d1, d2, d3, d4, d5] }
  | _ => none }
def ShadowWalksWrongFalsely : Prop := shadowWalksRow.holds Try.pinned (OpenSpec.ofChange shadowWalksWrong)

/-- 'trunnionlaw17.ShadowGuards': WHATEVER THE INPUT: true; the input reads as it did. -/
def shadowGuardsSpec : ChangeSpec := { name := "shadowGuards", fn := fun _ => fun
  | [d1, d2, d3, d4] => { results := [.lit (.bool true)], args := [d1, d2, d3, d4] }
  | _ => none }
def shadowGuardsRow : OpenClaim := { program := "ytadcmelbcahecaa", sum := "8a58a6b7010bddd5d63be2f160372a59286962fdd99ed3544f3d308518232721", func := "trunnion/trunnionlaw17.ShadowGuards", spec := "shadowGuards", unfollowed := true, recurses := true, apart := false }
def ShadowGuardsSaid : Prop := shadowGuardsRow.holds Try.pinned (OpenSpec.ofChange shadowGuardsSpec)

/-- ITS FALSE NEIGHBOUR: 'it returns false'. Refute it at one input. -/
def shadowGuardsWrong : ChangeSpec := { name := "shadowGuards", fn := fun _ => fun
  | [d1, d2, d3, d4] => { results := [.lit (.bool false)], args := [d1, d2, d3, d4] }
  | _ => none }
def ShadowGuardsWrongFalsely : Prop := shadowGuardsRow.holds Try.pinned (OpenSpec.ofChange shadowGuardsWrong)

/-- 'trunnionlaw17.ShadowOff': WHATEVER THE INPUT: true; the input reads as it did. -/
def shadowOffSpec : ChangeSpec := { name := "shadowOff", fn := fun _ => fun
  | [d1, d2, d3, d4] => { results := [.lit (.bool true)], args := [d1, d2, d3, d4] }
  | _ => none }
def shadowOffRow : OpenClaim := { program := "ytadcmelbcahecaa", sum := "8a58a6b7010bddd5d63be2f160372a59286962fdd99ed3544f3d308518232721", func := "trunnion/trunnionlaw17.ShadowOff", spec := "shadowOff", unfollowed := true, recurses := true, apart := false }
def ShadowOffSaid : Prop := shadowOffRow.holds Try.pinned (OpenSpec.ofChange shadowOffSpec)

/-- ITS FALSE NEIGHBOUR: 'it returns false'. Refute it at one input. -/
def shadowOffWrong : ChangeSpec := { name := "shadowOff", fn := fun _ => fun
  | [d1, d2, d3, d4] => { results := [.lit (.bool false)], args := [d1, d2, d3, d4] }
  | _ => none }
def ShadowOffWrongFalsely : Prop := shadowOffRow.holds Try.pinned (OpenSpec.ofChange shadowOffWrong)

/-- 'trunnionlaw17.ShadowPage': WHATEVER THE INPUT: true; the input reads as it did. -/
def shadowPageSpec : ChangeSpec := { name := "shadowPage", fn := fun _ => fun
  | [d1, d2, d3, d4, d5] => { results := [.lit (.bool true)], args := [d1, d2, d3, d4, d5] }
  | _ => none }
def shadowPageRow : OpenClaim := { program := "ytadcmelbcahecaa", sum := "8a58a6b7010bddd5d63be2f160372a59286962fdd99ed3544f3d308518232721", func := "trunnion/trunnionlaw17.ShadowPage", spec := "shadowPage", unfollowed := true, recurses := true, apart := false }
def ShadowPageSaid : Prop := shadowPageRow.holds Try.pinned (OpenSpec.ofChange shadowPageSpec)

/-- ITS FALSE NEIGHBOUR: 'it returns false'. Refute it at one input. -/
def shadowPageWrong : ChangeSpec := { name := "shadowPage", fn := fun _ => fun
  | [d1, d2, d3, d4, d5] => { results := [.lit (.bool false)], args := [d1, d2, d3, d4, d5] }
  | _ => none }
def ShadowPageWrongFalsely : Prop := shadowPageRow.holds Try.pinned (OpenSpec.ofChange shadowPageWrong)

/-- 'trunnionlaw17.ShadowParts': WHATEVER THE INPUT: true; the input reads as it did. -/
def shadowPartsSpec : ChangeSpec := { name := "shadowParts", fn := fun _ => fun
  | [d1, d2, d3, d4, d5, d6] => { results := [.lit (.bool true)], args := [d1, d2, d3, d4, d5, d6] }
  | _ => none }
def shadowPartsRow : OpenClaim := { program := "ytadcmelbcahecaa", sum := "8a58a6b7010bddd5d63be2f160372a59286962fdd99ed3544f3d308518232721", func := "trunnion/trunnionlaw17.ShadowParts", spec := "shadowParts", unfollowed := true, recurses := true, apart := false }
def ShadowPartsSaid : Prop := shadowPartsRow.holds Try.pinned (OpenSpec.ofChange shadowPartsSpec)

/-- ITS FALSE NEIGHBOUR: 'it returns false'. Refute it at one input. -/
def shadowPartsWrong : ChangeSpec := { name := "shadowParts", fn := fun _ => fun
  | [d1, d2, d3, d4, d5, d6] => { results := [.lit (.bool false)], args := [d1, d2, d3, d4, d5, d6] }
  | _ => none }
def ShadowPartsWrongFalsely : Prop := shadowPartsRow.holds Try.pinned (OpenSpec.ofChange shadowPartsWrong)

/-- 'trunnionlaw17.ShadowMoves': WHATEVER THE INPUT: true; the input reads as it did. -/
def shadowMovesSpec : ChangeSpec := { name := "shadowMoves", fn := fun _ => fun
  | [d1, d2, d3, d4, d5] => { results := [.lit (.bool true)], args := [d1, d2, d3, d4, d5] }
  | _ => none }
def shadowMovesRow : OpenClaim := { program := "ytadcmelbcahecaa", sum := "8a58a6b7010bddd5d63be2f160372a59286962fdd99ed3544f3d308518232721", func := "trunnion/trunnionlaw17.ShadowMoves", spec := "shadowMoves", unfollowed := true, recurses := true, apart := false }
def ShadowMovesSaid : Prop := shadowMovesRow.holds Try.pinned (OpenSpec.ofChange shadowMovesSpec)

/-- ITS FALSE NEIGHBOUR: 'it returns false'. Refute it at one input. -/
def shadowMovesWrong : ChangeSpec := { name := "shadowMoves", fn := fun _ => fun
  | [d1, d2, d3, d4, d5] => { results := [.lit (.bool false)], args := [d1, d2, d3, d4, d5] }
  | _ => none }
def ShadowMovesWrongFalsely : Prop := shadowMovesRow.holds Try.pinned (OpenSpec.ofChange shadowMovesWrong)

/-- 'trunnionlaw17.ShadowBuilds': WHATEVER THE INPUT: true; the input reads as it did. -/
def shadowBuildsSpec : ChangeSpec := { name := "shadowBuilds", fn := fun _ => fun
  | [d1, d2, d3, d4, d5, d6, d7] => { results := [.lit (.bool true)], args := [d1, d2, d3, d4, d5, d6, d7] }
  | _ => none }
def shadowBuildsRow : OpenClaim := { program := "ytadcmelbcahecaa", sum := "8a58a6b7010bddd5d63be2f160372a59286962fdd99ed3544f3d308518232721", func := "trunnion/trunnionlaw17.ShadowBuilds", spec := "shadowBuilds", unfollowed := true, recurses := true, apart := false }
def ShadowBuildsSaid : Prop := shadowBuildsRow.holds Try.pinned (OpenSpec.ofChange shadowBuildsSpec)

/-- ITS FALSE NEIGHBOUR: 'it returns false'. Refute it at one input. -/
def shadowBuildsWrong : ChangeSpec := { name := "shadowBuilds", fn := fun _ => fun
  | [d1, d2, d3, d4, d5, d6, d7] => { results := [.lit (.bool false)], args := [d1, d2, d3, d4, d5, d6, d7] }
  | _ => none }
def ShadowBuildsWrongFalsely : Prop := shadowBuildsRow.holds Try.pinned (OpenSpec.ofChange shadowBuildsWrong)

/-- 'trunnionlaw17.ShadowFits': WHATEVER THE INPUT: true; the input reads as it did. -/
def shadowFitsSpec : ChangeSpec := { name := "shadowFits", fn := fun _ => fun
  | [d1, d2, d3] => { results := [.lit (.bool true)], args := [d1, d2, d3] }
  | _ => none }
def shadowFitsRow : OpenClaim := { program := "ytadcmelbcahecaa", sum := "8a58a6b7010bddd5d63be2f160372a59286962fdd99ed3544f3d308518232721", func := "trunnion/trunnionlaw17.ShadowFits", spec := "shadowFits", unfollowed := true, recurses := true, apart := false }
def ShadowFitsSaid : Prop := shadowFitsRow.holds Try.pinned (OpenSpec.ofChange shadowFitsSpec)

/-- ITS FALSE NEIGHBOUR: 'it returns false'. Refute it at one input. -/
def shadowFitsWrong : ChangeSpec := { name := "shadowFits", fn := fun _ => fun
  | [d1, d2, d3] => { results := [.lit (.bool false)], args := [d1, d2, d3] }
  | _ => none }
def ShadowFitsWrongFalsely : Prop := shadowFitsRow.holds Try.pinned (OpenSpec.ofChange shadowFitsWrong)

/- THE SECOND FORM. 'bulk': how many values and letters a reading holds, each counted each time it is reached (what is shared counts as often as it is met; a slice's spare places count too). A statement '..UptoSaid' is the law's where the arguments, and the package variables that the reading takes, are together of bulk at most 1048576: NARROWER than '..Said'. Prove '..Said' where nothing that the law and all that it calls make is longer than what came in: it says more and counts as full. Else prove '..UptoSaid'. A law counts once. -/
mutual
def uptoBulk {H : Type} : DataW H → Nat
  | .lit (.string bytes) => bytes.length + 1
  | .lit _ => 1
  | .nil => 1
  | .ptr d => uptoBulk d + 1
  | .slice elems spare => uptoBulkAll elems + uptoBulkAll spare + 1
  | .agg parts => uptoBulkAll parts + 1
  | .iface _ d => uptoBulk d + 1
  | .map entries => uptoBulkEntries entries + 1
  | .held _ => 1
def uptoBulkAll {H : Type} : List (DataW H) → Nat
  | [] => 0
  | d :: r => uptoBulk d + uptoBulkAll r
def uptoBulkEntries {H : Type} : List (Lit × DataW H) → Nat
  | [] => 0
  | x :: r => uptoBulkEntry x + uptoBulkEntries r
def uptoBulkEntry {H : Type} : Lit × DataW H → Nat
  | (.string bytes, d) => bytes.length + uptoBulk d + 1
  | (_, d) => uptoBulk d + 1
 end
def uptoSmall : (H : Type) → List (DataW H) → Bool := fun _ ds => decide (uptoBulkAll ds ≤ 1048576)
def OpenSpec.upto (s : _root_.Go.ChangeSpec) : _root_.Go.OpenSpec := { _root_.Go.OpenSpec.ofChange s with cond := some uptoSmall }

/-- 'trunnionlaw17.ShadowWalks', WHERE WHAT IT READS IS OF BULK AT MOST 1048576: true; the input reads as it did. -/
def shadowWalksUptoRow : OpenClaim := { program := "ytadcmelbcahecaa", sum := "8a58a6b7010bddd5d63be2f160372a59286962fdd99ed3544f3d308518232721", func := "trunnion/trunnionlaw17.ShadowWalks", spec := "shadowWalks", unfollowed := true, recurses := true, apart := false, narrowed := true }
def ShadowWalksUptoSaid : Prop := shadowWalksUptoRow.holds Try.pinned (OpenSpec.upto shadowWalksSpec)

/-- 'trunnionlaw17.ShadowGuards', WHERE WHAT IT READS IS OF BULK AT MOST 1048576: true; the input reads as it did. -/
def shadowGuardsUptoRow : OpenClaim := { program := "ytadcmelbcahecaa", sum := "8a58a6b7010bddd5d63be2f160372a59286962fdd99ed3544f3d308518232721", func := "trunnion/trunnionlaw17.ShadowGuards", spec := "shadowGuards", unfollowed := true, recurses := true, apart := false, narrowed := true }
def ShadowGuardsUptoSaid : Prop := shadowGuardsUptoRow.holds Try.pinned (OpenSpec.upto shadowGuardsSpec)

/-- 'trunnionlaw17.ShadowOff', WHERE WHAT IT READS IS OF BULK AT MOST 1048576: true; the input reads as it did. -/
def shadowOffUptoRow : OpenClaim := { program := "ytadcmelbcahecaa", sum := "8a58a6b7010bddd5d63be2f160372a59286962fdd99ed3544f3d308518232721", func := "trunnion/trunnionlaw17.ShadowOff", spec := "shadowOff", unfollowed := true, recurses := true, apart := false, narrowed := true }
def ShadowOffUptoSaid : Prop := shadowOffUptoRow.holds Try.pinned (OpenSpec.upto shadowOffSpec)

/-- 'trunnionlaw17.ShadowPage', WHERE WHAT IT READS IS OF BULK AT MOST 1048576: true; the input reads as it did. -/
def shadowPageUptoRow : OpenClaim := { program := "ytadcmelbcahecaa", sum := "8a58a6b7010bddd5d63be2f160372a59286962fdd99ed3544f3d308518232721", func := "trunnion/trunnionlaw17.ShadowPage", spec := "shadowPage", unfollowed := true, recurses := true, apart := false, narrowed := true }
def ShadowPageUptoSaid : Prop := shadowPageUptoRow.holds Try.pinned (OpenSpec.upto shadowPageSpec)

/-- 'trunnionlaw17.ShadowParts', WHERE WHAT IT READS IS OF BULK AT MOST 1048576: true; the input reads as it did. -/
def shadowPartsUptoRow : OpenClaim := { program := "ytadcmelbcahecaa", sum := "8a58a6b7010bddd5d63be2f160372a59286962fdd99ed3544f3d308518232721", func := "trunnion/trunnionlaw17.ShadowParts", spec := "shadowParts", unfollowed := true, recurses := true, apart := false, narrowed := true }
def ShadowPartsUptoSaid : Prop := shadowPartsUptoRow.holds Try.pinned (OpenSpec.upto shadowPartsSpec)

/-- 'trunnionlaw17.ShadowMoves', WHERE WHAT IT READS IS OF BULK AT MOST 1048576: true; the input reads as it did. -/
def shadowMovesUptoRow : OpenClaim := { program := "ytadcmelbcahecaa", sum := "8a58a6b7010bddd5d63be2f160372a59286962fdd99ed3544f3d308518232721", func := "trunnion/trunnionlaw17.ShadowMoves", spec := "shadowMoves", unfollowed := true, recurses := true, apart := false, narrowed := true }
def ShadowMovesUptoSaid : Prop := shadowMovesUptoRow.holds Try.pinned (OpenSpec.upto shadowMovesSpec)

/-- 'trunnionlaw17.ShadowBuilds', WHERE WHAT IT READS IS OF BULK AT MOST 1048576: true; the input reads as it did. -/
def shadowBuildsUptoRow : OpenClaim := { program := "ytadcmelbcahecaa", sum := "8a58a6b7010bddd5d63be2f160372a59286962fdd99ed3544f3d308518232721", func := "trunnion/trunnionlaw17.ShadowBuilds", spec := "shadowBuilds", unfollowed := true, recurses := true, apart := false, narrowed := true }
def ShadowBuildsUptoSaid : Prop := shadowBuildsUptoRow.holds Try.pinned (OpenSpec.upto shadowBuildsSpec)

/-- 'trunnionlaw17.ShadowFits', WHERE WHAT IT READS IS OF BULK AT MOST 1048576: true; the input reads as it did. -/
def shadowFitsUptoRow : OpenClaim := { program := "ytadcmelbcahecaa", sum := "8a58a6b7010bddd5d63be2f160372a59286962fdd99ed3544f3d308518232721", func := "trunnion/trunnionlaw17.ShadowFits", spec := "shadowFits", unfollowed := true, recurses := true, apart := false, narrowed := true }
def ShadowFitsUptoSaid : Prop := shadowFitsUptoRow.holds Try.pinned (OpenSpec.upto shadowFitsSpec)

end Rows
end Go.Proofs.Ytadcmelbcahecaa
