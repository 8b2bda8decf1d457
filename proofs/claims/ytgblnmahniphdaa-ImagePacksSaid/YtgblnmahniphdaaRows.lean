/-
  No cell of these rows narrows 'for every input' (looked for: loops, veiled, ifaces, maps, wideKeys, modest, calm, conditions, laid).
  DERIVED. THE GIVEN ROWS OF THIS SEAT. 7 by the template 'for every input the law returns true; each argument reads behind the call as it read before'; 0 by the template 'total and deterministic' (their statements: YtgblnmahniphdaaTotals.lean).
  GIVEN WITH THE SEED: the statements are not yours to turn. If you find one false, say at which input.
  Laid BY PROGRAM, IN A SANDBOX (cutbox-rows.mjs): the forced cells as the released guide's own fill.sh prints them over the translation 60ecf0ab308fe073… (all of the seat's roots in one cut). By AI agents, Wed Nov 11 2026. No macro, syntax, notation, axiom, sorry.
-/
import Derived.Test.YtgblnmahniphdaaChecked
import GoSem.Claim
import GoSem.ClaimJoined
import GoSem.ClaimMapViews
import Derived.JoinedTies
import Derived.KernelRfl
namespace Go.Proofs.Ytgblnmahniphdaa
/- THE CELL 'sum', in the pinned program and in every row, IS THE sha256 OF THE DUMP (.gsa) THAT YtgblnmahniphdaaProg.lean LOADS. Nothing in Lean hashes anything: it is a label: what it is worth is what the hold of that sum in a sandbox is worth. -/
noncomputable def Try.pinned : Pinned := { name := "ytgblnmahniphdaa", sum := "60ecf0ab308fe0731e61af196b6517032a55352c8a77d8a65f1a874bdbc8d619", checked := Try.checked }
namespace Rows
def none {H : Type} : Left H := { results := [], args := [] }

/-- 'trunnionlaw6.TlbAge': WHATEVER THE INPUT: true; the input reads as it did. -/
def tlbAgeSpec : ChangeSpec := { name := "tlbAge", fn := fun _ => fun
  | [d1, d2, d3] => { results := [.lit (.bool true)], args := [d1, d2, d3] }
  | _ => none }
def tlbAgeRow : OpenClaim := { program := "ytgblnmahniphdaa", sum := "60ecf0ab308fe0731e61af196b6517032a55352c8a77d8a65f1a874bdbc8d619", func := "trunnion/trunnionlaw6.TlbAge", spec := "tlbAge", plainKeys := false, apart := false }
def TlbAgeSaid : Prop := tlbAgeRow.holds Try.pinned (OpenSpec.ofChange tlbAgeSpec)

/-- ITS FALSE NEIGHBOUR: 'it returns false'. Refute it at one input. -/
def tlbAgeWrong : ChangeSpec := { name := "tlbAge", fn := fun _ => fun
  | [d1, d2, d3] => { results := [.lit (.bool false)], args := [d1, d2, d3] }
  | _ => none }
def TlbAgeWrongFalsely : Prop := tlbAgeRow.holds Try.pinned (OpenSpec.ofChange tlbAgeWrong)

/-- 'trunnionlaw6.TlbEvicts': WHATEVER THE INPUT: true; the input reads as it did. -/
def tlbEvictsSpec : ChangeSpec := { name := "tlbEvicts", fn := fun _ => fun
  | [d1, d2] => { results := [.lit (.bool true)], args := [d1, d2] }
  | _ => none }
def tlbEvictsRow : OpenClaim := { program := "ytgblnmahniphdaa", sum := "60ecf0ab308fe0731e61af196b6517032a55352c8a77d8a65f1a874bdbc8d619", func := "trunnion/trunnionlaw6.TlbEvicts", spec := "tlbEvicts", plainKeys := false, apart := false }
def TlbEvictsSaid : Prop := tlbEvictsRow.holds Try.pinned (OpenSpec.ofChange tlbEvictsSpec)

/-- ITS FALSE NEIGHBOUR: 'it returns false'. Refute it at one input. -/
def tlbEvictsWrong : ChangeSpec := { name := "tlbEvicts", fn := fun _ => fun
  | [d1, d2] => { results := [.lit (.bool false)], args := [d1, d2] }
  | _ => none }
def TlbEvictsWrongFalsely : Prop := tlbEvictsRow.holds Try.pinned (OpenSpec.ofChange tlbEvictsWrong)

/-- 'trunnionlaw6.TlbPlays': WHATEVER THE INPUT: true; the input reads as it did. -/
def tlbPlaysSpec : ChangeSpec := { name := "tlbPlays", fn := fun _ => fun
  | [d1, d2] => { results := [.lit (.bool true)], args := [d1, d2] }
  | _ => none }
def tlbPlaysRow : OpenClaim := { program := "ytgblnmahniphdaa", sum := "60ecf0ab308fe0731e61af196b6517032a55352c8a77d8a65f1a874bdbc8d619", func := "trunnion/trunnionlaw6.TlbPlays", spec := "tlbPlays", unfollowed := true, recurses := true, plainKeys := false, apart := false }
def TlbPlaysSaid : Prop := tlbPlaysRow.holds Try.pinned (OpenSpec.ofChange tlbPlaysSpec)

/-- ITS FALSE NEIGHBOUR: 'it returns false'. Refute it at one input. -/
def tlbPlaysWrong : ChangeSpec := { name := "tlbPlays", fn := fun _ => fun
  | [d1, d2] => { results := [.lit (.bool false)], args := [d1, d2] }
  | _ => none }
def TlbPlaysWrongFalsely : Prop := tlbPlaysRow.holds Try.pinned (OpenSpec.ofChange tlbPlaysWrong)

/-- 'trunnionlaw6.TlbTags': WHATEVER THE INPUT: true; the input reads as it did. -/
def tlbTagsSpec : ChangeSpec := { name := "tlbTags", fn := fun _ => fun
  | [d1, d2, d3] => { results := [.lit (.bool true)], args := [d1, d2, d3] }
  | _ => none }
def tlbTagsRow : OpenClaim := { program := "ytgblnmahniphdaa", sum := "60ecf0ab308fe0731e61af196b6517032a55352c8a77d8a65f1a874bdbc8d619", func := "trunnion/trunnionlaw6.TlbTags", spec := "tlbTags", unfollowed := true, recurses := true, plainKeys := false, apart := false }
def TlbTagsSaid : Prop := tlbTagsRow.holds Try.pinned (OpenSpec.ofChange tlbTagsSpec)

/-- ITS FALSE NEIGHBOUR: 'it returns false'. Refute it at one input. -/
def tlbTagsWrong : ChangeSpec := { name := "tlbTags", fn := fun _ => fun
  | [d1, d2, d3] => { results := [.lit (.bool false)], args := [d1, d2, d3] }
  | _ => none }
def TlbTagsWrongFalsely : Prop := tlbTagsRow.holds Try.pinned (OpenSpec.ofChange tlbTagsWrong)

/-- 'trunnionlaw13.ImagePacks': WHATEVER THE INPUT: true; the input reads as it did. -/
def imagePacksSpec : ChangeSpec := { name := "imagePacks", fn := fun _ => fun
  | [d1, d2] => { results := [.lit (.bool true)], args := [d1, d2] }
  | _ => none }
def imagePacksRow : OpenClaim := { program := "ytgblnmahniphdaa", sum := "60ecf0ab308fe0731e61af196b6517032a55352c8a77d8a65f1a874bdbc8d619", func := "trunnion/trunnionlaw13.ImagePacks", spec := "imagePacks", plainKeys := false, apart := false }
def ImagePacksSaid : Prop := imagePacksRow.holds Try.pinned (OpenSpec.ofChange imagePacksSpec)

/-- ITS FALSE NEIGHBOUR: 'it returns false'. Refute it at one input. -/
def imagePacksWrong : ChangeSpec := { name := "imagePacks", fn := fun _ => fun
  | [d1, d2] => { results := [.lit (.bool false)], args := [d1, d2] }
  | _ => none }
def ImagePacksWrongFalsely : Prop := imagePacksRow.holds Try.pinned (OpenSpec.ofChange imagePacksWrong)

/-- 'trunnionlaw13.ImageReads': WHATEVER THE INPUT: true; the input reads as it did. -/
def imageReadsSpec : ChangeSpec := { name := "imageReads", fn := fun _ => fun
  | [d] => { results := [.lit (.bool true)], args := [d] }
  | _ => none }
def imageReadsRow : OpenClaim := { program := "ytgblnmahniphdaa", sum := "60ecf0ab308fe0731e61af196b6517032a55352c8a77d8a65f1a874bdbc8d619", func := "trunnion/trunnionlaw13.ImageReads", spec := "imageReads", plainKeys := false, apart := false }
def ImageReadsSaid : Prop := imageReadsRow.holds Try.pinned (OpenSpec.ofChange imageReadsSpec)

/-- ITS FALSE NEIGHBOUR: 'it returns false'. Refute it at one input. -/
def imageReadsWrong : ChangeSpec := { name := "imageReads", fn := fun _ => fun
  | [d] => { results := [.lit (.bool false)], args := [d] }
  | _ => none }
def ImageReadsWrongFalsely : Prop := imageReadsRow.holds Try.pinned (OpenSpec.ofChange imageReadsWrong)

/-- 'trunnionlaw13.ImageTurned': WHATEVER THE INPUT: true; the input reads as it did. -/
def imageTurnedSpec : ChangeSpec := { name := "imageTurned", fn := fun _ => fun
  | [d1, d2, d3] => { results := [.lit (.bool true)], args := [d1, d2, d3] }
  | _ => none }
def imageTurnedRow : OpenClaim := { program := "ytgblnmahniphdaa", sum := "60ecf0ab308fe0731e61af196b6517032a55352c8a77d8a65f1a874bdbc8d619", func := "trunnion/trunnionlaw13.ImageTurned", spec := "imageTurned", plainKeys := false, apart := false }
def ImageTurnedSaid : Prop := imageTurnedRow.holds Try.pinned (OpenSpec.ofChange imageTurnedSpec)

/-- ITS FALSE NEIGHBOUR: 'it returns false'. Refute it at one input. -/
def imageTurnedWrong : ChangeSpec := { name := "imageTurned", fn := fun _ => fun
  | [d1, d2, d3] => { results := [.lit (.bool false)], args := [d1, d2, d3] }
  | _ => none }
def ImageTurnedWrongFalsely : Prop := imageTurnedRow.holds Try.pinned (OpenSpec.ofChange imageTurnedWrong)

/- THE SECOND FORM. 'bulk': how many values and letters a reading holds, each counted each time it is reached (what is shared counts as often as it is met; a slice's spare places count too). A statement '..UptoSaid' is the law's where the arguments, and the package variables that the reading takes, are together of bulk at most 1048576: NARROWER than '..Said'. Prove '..Said' where nothing that the law and all that it calls make is longer than what came in: it says more and counts as full. Else prove '..UptoSaid'. A law counts once. -/
mutual
def uptoBulk {H : Type} : DataW H → Nat
  | .lit (.string bytes) => bytes.length + 1
  | .lit _ => 1
  | .nil => 1
  | .ptr d => uptoBulk d + 1
  | .slice elems spare => uptoBulkAll elems + uptoBulkAll spare + 1
  | .agg parts => uptoBulkAll parts + 1
  | .iface _ d => uptoBulk d + 1
  | .map entries => uptoBulkEntries entries + 1
  | .held _ => 1
def uptoBulkAll {H : Type} : List (DataW H) → Nat
  | [] => 0
  | d :: r => uptoBulk d + uptoBulkAll r
def uptoBulkEntries {H : Type} : List (Lit × DataW H) → Nat
  | [] => 0
  | x :: r => uptoBulkEntry x + uptoBulkEntries r
def uptoBulkEntry {H : Type} : Lit × DataW H → Nat
  | (.string bytes, d) => bytes.length + uptoBulk d + 1
  | (_, d) => uptoBulk d + 1
 end
def uptoSmall : (H : Type) → List (DataW H) → Bool := fun _ ds => decide (uptoBulkAll ds ≤ 1048576)
def OpenSpec.upto (s : _root_.Go.ChangeSpec) : _root_.Go.OpenSpec := { _root_.Go.OpenSpec.ofChange s with cond := some uptoSmall }

/-- 'trunnionlaw6.TlbAge', WHERE WHAT IT READS IS OF BULK AT MOST 1048576: true; the input reads as it did. -/
def tlbAgeUptoRow : OpenClaim := { program := "ytgblnmahniphdaa", sum := "60ecf0ab308fe0731e61af196b6517032a55352c8a77d8a65f1a874bdbc8d619", func := "trunnion/trunnionlaw6.TlbAge", spec := "tlbAge", plainKeys := false, apart := false, narrowed := true }
def TlbAgeUptoSaid : Prop := tlbAgeUptoRow.holds Try.pinned (OpenSpec.upto tlbAgeSpec)

/-- 'trunnionlaw6.TlbEvicts', WHERE WHAT IT READS IS OF BULK AT MOST 1048576: true; the input reads as it did. -/
def tlbEvictsUptoRow : OpenClaim := { program := "ytgblnmahniphdaa", sum := "60ecf0ab308fe0731e61af196b6517032a55352c8a77d8a65f1a874bdbc8d619", func := "trunnion/trunnionlaw6.TlbEvicts", spec := "tlbEvicts", plainKeys := false, apart := false, narrowed := true }
def TlbEvictsUptoSaid : Prop := tlbEvictsUptoRow.holds Try.pinned (OpenSpec.upto tlbEvictsSpec)

/-- 'trunnionlaw6.TlbPlays', WHERE WHAT IT READS IS OF BULK AT MOST 1048576: true; the input reads as it did. -/
def tlbPlaysUptoRow : OpenClaim := { program := "ytgblnmahniphdaa", sum := "60ecf0ab308fe0731e61af196b6517032a55352c8a77d8a65f1a874bdbc8d619", func := "trunnion/trunnionlaw6.TlbPlays", spec := "tlbPlays", unfollowed := true, recurses := true, plainKeys := false, apart := false, narrowed := true }
def TlbPlaysUptoSaid : Prop := tlbPlaysUptoRow.holds Try.pinned (OpenSpec.upto tlbPlaysSpec)

/-- 'trunnionlaw6.TlbTags', WHERE WHAT IT READS IS OF BULK AT MOST 1048576: true; the input reads as it did. -/
def tlbTagsUptoRow : OpenClaim := { program := "ytgblnmahniphdaa", sum := "60ecf0ab308fe0731e61af196b6517032a55352c8a77d8a65f1a874bdbc8d619", func := "trunnion/trunnionlaw6.TlbTags", spec := "tlbTags", unfollowed := true, recurses := true, plainKeys := false, apart := false, narrowed := true }
def TlbTagsUptoSaid : Prop := tlbTagsUptoRow.holds Try.pinned (OpenSpec.upto tlbTagsSpec)

/-- 'trunnionlaw13.ImagePacks', WHERE WHAT IT READS IS OF BULK AT MOST 1048576: true; the input reads as it did. -/
def imagePacksUptoRow : OpenClaim := { program := "ytgblnmahniphdaa", sum := "60ecf0ab308fe0731e61af196b6517032a55352c8a77d8a65f1a874bdbc8d619", func := "trunnion/trunnionlaw13.ImagePacks", spec := "imagePacks", plainKeys := false, apart := false, narrowed := true }
def ImagePacksUptoSaid : Prop := imagePacksUptoRow.holds Try.pinned (OpenSpec.upto imagePacksSpec)

/-- 'trunnionlaw13.ImageReads', WHERE WHAT IT READS IS OF BULK AT MOST 1048576: true; the input reads as it did. -/
def imageReadsUptoRow : OpenClaim := { program := "ytgblnmahniphdaa", sum := "60ecf0ab308fe0731e61af196b6517032a55352c8a77d8a65f1a874bdbc8d619", func := "trunnion/trunnionlaw13.ImageReads", spec := "imageReads", plainKeys := false, apart := false, narrowed := true }
def ImageReadsUptoSaid : Prop := imageReadsUptoRow.holds Try.pinned (OpenSpec.upto imageReadsSpec)

/-- 'trunnionlaw13.ImageTurned', WHERE WHAT IT READS IS OF BULK AT MOST 1048576: true; the input reads as it did. -/
def imageTurnedUptoRow : OpenClaim := { program := "ytgblnmahniphdaa", sum := "60ecf0ab308fe0731e61af196b6517032a55352c8a77d8a65f1a874bdbc8d619", func := "trunnion/trunnionlaw13.ImageTurned", spec := "imageTurned", plainKeys := false, apart := false, narrowed := true }
def ImageTurnedUptoSaid : Prop := imageTurnedUptoRow.holds Try.pinned (OpenSpec.upto imageTurnedSpec)

end Rows
end Go.Proofs.Ytgblnmahniphdaa
