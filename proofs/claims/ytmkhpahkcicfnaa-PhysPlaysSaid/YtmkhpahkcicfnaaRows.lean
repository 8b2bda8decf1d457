/-
  No cell of these rows narrows 'for every input' (looked for: loops, veiled, ifaces, maps, wideKeys, modest, calm, conditions, laid).
  DERIVED. THE GIVEN ROWS OF THIS SEAT. 12 by the template 'for every input the law returns true; each argument reads behind the call as it read before'; 0 by the template 'total and deterministic' (their statements: YtmkhpahkcicfnaaTotals.lean).
  GIVEN WITH THE SEED: the statements are not yours to turn. If you find one false, say at which input.
  Laid BY PROGRAM, IN A SANDBOX (cutbox-rows.mjs): the forced cells as the released guide's own fill.sh prints them over the translation fb0eeee0e8ed6708… (all of the seat's roots in one cut). By AI agents, Wed Nov 11 2026. No macro, syntax, notation, axiom, sorry.
-/
import Derived.Test.YtmkhpahkcicfnaaChecked
import GoSem.Claim
import GoSem.ClaimJoined
import GoSem.ClaimMapViews
import Derived.JoinedTies
import Derived.KernelRfl
namespace Go.Proofs.Ytmkhpahkcicfnaa
/- THE CELL 'sum', in the pinned program and in every row, IS THE sha256 OF THE DUMP (.gsa) THAT YtmkhpahkcicfnaaProg.lean LOADS. Nothing in Lean hashes anything: it is a label: what it is worth is what the hold of that sum in a sandbox is worth. -/
noncomputable def Try.pinned : Pinned := { name := "ytmkhpahkcicfnaa", sum := "fb0eeee0e8ed67081b9745a07133215284991c8cd540027720d6182c8b02bfeb", checked := Try.checked }
namespace Rows
def none {H : Type} : Left H := { results := [], args := [] }

/-- 'trunnionlaw4.PhysHalves': WHATEVER THE INPUT: true; the input reads as it did. -/
def physHalvesSpec : ChangeSpec := { name := "physHalves", fn := fun _ => fun
  | [d1, d2] => { results := [.lit (.bool true)], args := [d1, d2] }
  | _ => none }
def physHalvesRow : OpenClaim := { program := "ytmkhpahkcicfnaa", sum := "fb0eeee0e8ed67081b9745a07133215284991c8cd540027720d6182c8b02bfeb", func := "trunnion/trunnionlaw4.PhysHalves", spec := "physHalves", apart := false }
def PhysHalvesSaid : Prop := physHalvesRow.holds Try.pinned (OpenSpec.ofChange physHalvesSpec)

/-- ITS FALSE NEIGHBOUR: 'it returns false'. Refute it at one input. -/
def physHalvesWrong : ChangeSpec := { name := "physHalves", fn := fun _ => fun
  | [d1, d2] => { results := [.lit (.bool false)], args := [d1, d2] }
  | _ => none }
def PhysHalvesWrongFalsely : Prop := physHalvesRow.holds Try.pinned (OpenSpec.ofChange physHalvesWrong)

/-- 'trunnionlaw4.PhysApart': WHATEVER THE INPUT: true; the input reads as it did. -/
def physApartSpec : ChangeSpec := { name := "physApart", fn := fun _ => fun
  | [d1, d2, d3, d4] => { results := [.lit (.bool true)], args := [d1, d2, d3, d4] }
  | _ => none }
def physApartRow : OpenClaim := { program := "ytmkhpahkcicfnaa", sum := "fb0eeee0e8ed67081b9745a07133215284991c8cd540027720d6182c8b02bfeb", func := "trunnion/trunnionlaw4.PhysApart", spec := "physApart", apart := false }
def PhysApartSaid : Prop := physApartRow.holds Try.pinned (OpenSpec.ofChange physApartSpec)

/-- ITS FALSE NEIGHBOUR: 'it returns false'. Refute it at one input. -/
def physApartWrong : ChangeSpec := { name := "physApart", fn := fun _ => fun
  | [d1, d2, d3, d4] => { results := [.lit (.bool false)], args := [d1, d2, d3, d4] }
  | _ => none }
def PhysApartWrongFalsely : Prop := physApartRow.holds Try.pinned (OpenSpec.ofChange physApartWrong)

/-- 'trunnionlaw4.PhysPlays': WHATEVER THE INPUT: true; the input reads as it did. -/
def physPlaysSpec : ChangeSpec := { name := "physPlays", fn := fun _ => fun
  | [d1, d2] => { results := [.lit (.bool true)], args := [d1, d2] }
  | _ => none }
def physPlaysRow : OpenClaim := { program := "ytmkhpahkcicfnaa", sum := "fb0eeee0e8ed67081b9745a07133215284991c8cd540027720d6182c8b02bfeb", func := "trunnion/trunnionlaw4.PhysPlays", spec := "physPlays", apart := false }
def PhysPlaysSaid : Prop := physPlaysRow.holds Try.pinned (OpenSpec.ofChange physPlaysSpec)

/-- ITS FALSE NEIGHBOUR: 'it returns false'. Refute it at one input. -/
def physPlaysWrong : ChangeSpec := { name := "physPlays", fn := fun _ => fun
  | [d1, d2] => { results := [.lit (.bool false)], args := [d1, d2] }
  | _ => none }
def PhysPlaysWrongFalsely : Prop := physPlaysRow.holds Try.pinned (OpenSpec.ofChange physPlaysWrong)

/-- 'trunnionlaw4.PhysEdges': WHATEVER THE INPUT: true; the input reads as it did. -/
def physEdgesSpec : ChangeSpec := { name := "physEdges", fn := fun _ => fun
  | [d1, d2] => { results := [.lit (.bool true)], args := [d1, d2] }
  | _ => none }
def physEdgesRow : OpenClaim := { program := "ytmkhpahkcicfnaa", sum := "fb0eeee0e8ed67081b9745a07133215284991c8cd540027720d6182c8b02bfeb", func := "trunnion/trunnionlaw4.PhysEdges", spec := "physEdges", apart := false }
def PhysEdgesSaid : Prop := physEdgesRow.holds Try.pinned (OpenSpec.ofChange physEdgesSpec)

/-- ITS FALSE NEIGHBOUR: 'it returns false'. Refute it at one input. -/
def physEdgesWrong : ChangeSpec := { name := "physEdges", fn := fun _ => fun
  | [d1, d2] => { results := [.lit (.bool false)], args := [d1, d2] }
  | _ => none }
def PhysEdgesWrongFalsely : Prop := physEdgesRow.holds Try.pinned (OpenSpec.ofChange physEdgesWrong)

/-- 'trunnionlaw4.PhysRows': WHATEVER THE INPUT: true; the input reads as it did. -/
def physRowsSpec : ChangeSpec := { name := "physRows", fn := fun _ => fun
  | [d1, d2, d3, d4] => { results := [.lit (.bool true)], args := [d1, d2, d3, d4] }
  | _ => none }
def physRowsRow : OpenClaim := { program := "ytmkhpahkcicfnaa", sum := "fb0eeee0e8ed67081b9745a07133215284991c8cd540027720d6182c8b02bfeb", func := "trunnion/trunnionlaw4.PhysRows", spec := "physRows", apart := false }
def PhysRowsSaid : Prop := physRowsRow.holds Try.pinned (OpenSpec.ofChange physRowsSpec)

/-- ITS FALSE NEIGHBOUR: 'it returns false'. Refute it at one input. -/
def physRowsWrong : ChangeSpec := { name := "physRows", fn := fun _ => fun
  | [d1, d2, d3, d4] => { results := [.lit (.bool false)], args := [d1, d2, d3, d4] }
  | _ => none }
def PhysRowsWrongFalsely : Prop := physRowsRow.holds Try.pinned (OpenSpec.ofChange physRowsWrong)

/-- 'trunnionlaw5.WalkBits': WHATEVER THE INPUT: true; the input reads as it did. -/
def walkBitsSpec : ChangeSpec := { name := "walkBits", fn := fun _ => fun
  | [d1, d2, d3, d4, d5] => { results := [.lit (.bool true)], args := [d1, d2, d3, d4, d5] }
  | _ => none }
def walkBitsRow : OpenClaim := { program := "ytmkhpahkcicfnaa", sum := "fb0eeee0e8ed67081b9745a07133215284991c8cd540027720d6182c8b02bfeb", func := "trunnion/trunnionlaw5.WalkBits", spec := "walkBits", unfollowed := true, recurses := true, apart := false }
def WalkBitsSaid : Prop := walkBitsRow.holds Try.pinned (OpenSpec.ofChange walkBitsSpec)

/-- ITS FALSE NEIGHBOUR: 'it returns false'. Refute it at one input. -/
def walkBitsWrong : ChangeSpec := { name := "walkBits", fn := fun _ => fun
  | [d1, d2, d3, d4, d5] => { results := [.lit (.bool false)], args := [d1, d2, d3, d4, d5] }
  | _ => none }
def WalkBitsWrongFalsely : Prop := walkBitsRow.holds Try.pinned (OpenSpec.ofChange walkBitsWrong)

/-- 'trunnionlaw5.WalkUser': WHATEVER THE INPUT: true; the input reads as it did. -/
def walkUserSpec : ChangeSpec := { name := "walkUser", fn := fun _ => fun
  | [d1, d2, d3, d4, d5] => { results := [.lit (.bool true)], args := [d1, d2, d3, d4, d5] }
  | _ => none }
def walkUserRow : OpenClaim := { program := "ytmkhpahkcicfnaa", sum := "fb0eeee0e8ed67081b9745a07133215284991c8cd540027720d6182c8b02bfeb", func := "trunnion/trunnionlaw5.WalkUser", spec := "walkUser", unfollowed := true, recurses := true, apart := false }
def WalkUserSaid : Prop := walkUserRow.holds Try.pinned (OpenSpec.ofChange walkUserSpec)

/-- ITS FALSE NEIGHBOUR: 'it returns false'. Refute it at one input. -/
def walkUserWrong : ChangeSpec := { name := "walkUser", fn := fun _ => fun
  | [d1, d2, d3, d4, d5] => { results := [.lit (.bool false)], args := [d1, d2, d3, d4, d5] }
  | _ => none }
def WalkUserWrongFalsely : Prop := walkUserRow.holds Try.pinned (OpenSpec.ofChange walkUserWrong)

/-- 'trunnionlaw5.WalkTwo': WHATEVER THE INPUT: true; the input reads as it did. -/
def walkTwoSpec : ChangeSpec := { name := "walkTwo", fn := fun _ => fun
  | [d1, d2, d3, d4] => { results := [.lit (.bool true)], args := [d1, d2, d3, d4] }
  | _ => none }
def walkTwoRow : OpenClaim := { program := "ytmkhpahkcicfnaa", sum := "fb0eeee0e8ed67081b9745a07133215284991c8cd540027720d6182c8b02bfeb", func := "trunnion/trunnionlaw5.WalkTwo", spec := "walkTwo", unfollowed := true, recurses := true, apart := false }
def WalkTwoSaid : Prop := walkTwoRow.holds Try.pinned (OpenSpec.ofChange walkTwoSpec)

/-- ITS FALSE NEIGHBOUR: 'it returns false'. Refute it at one input. -/
def walkTwoWrong : ChangeSpec := { name := "walkTwo", fn := fun _ => fun
  | [d1, d2, d3, d4] => { results := [.lit (.bool false)], args := [d1, d2, d3, d4] }
  | _ => none }
def WalkTwoWrongFalsely : Prop := walkTwoRow.holds Try.pinned (OpenSpec.ofChange walkTwoWrong)

/-- 'trunnionlaw5.WalkOffs': WHATEVER THE INPUT: true; the input reads as it did. -/
def walkOffsSpec : ChangeSpec := { name := "walkOffs", fn := fun _ => fun
  | [d1, d2, d3, d4, d5, d6, d7, d8] => { results := [.lit (.bool true)], args := [d1, d2, d3, d4, d5, d6, d7, d8] }
  | _ => none }
def walkOffsRow : OpenClaim := { program := "ytmkhpahkcicfnaa", sum := "fb0eeee0e8ed67081b9745a07133215284991c8cd540027720d6182c8b02bfeb", func := "trunnion/trunnionlaw5.WalkOffs", spec := "walkOffs", unfollowed := true, recurses := true, apart := false }
def WalkOffsSaid : Prop := walkOffsRow.holds Try.pinned (OpenSpec.ofChange walkOffsSpec)

/-- ITS FALSE NEIGHBOUR: 'it returns false'. Refute it at one input. -/
def walkOffsWrong : ChangeSpec := { name := "walkOffs", fn := fun _ => fun
  | [d1, d2, d3, d4, d5, d6, d7, d8] => { results := [.lit (.bool false)], args := [d1, d2, d3, d4, d5, d6, d7, d8] }
  | _ => none }
def WalkOffsWrongFalsely : Prop := walkOffsRow.holds Try.pinned (OpenSpec.ofChange walkOffsWrong)

/-- 'trunnionlaw5.WalkMaps': WHATEVER THE INPUT: true; the input reads as it did. -/
def walkMapsSpec : ChangeSpec := { name := "walkMaps", fn := fun _ => fun
  | [d1, d2, d3, d4] => { results := [.lit (.bool true)], args := [d1, d2, d3, d4] }
  | _ => none }
def walkMapsRow : OpenClaim := { program := "ytmkhpahkcicfnaa", sum := "fb0eeee0e8ed67081b9745a07133215284991c8cd540027720d6182c8b02bfeb", func := "trunnion/trunnionlaw5.WalkMaps", spec := "walkMaps", unfollowed := true, recurses := true, apart := false }
def WalkMapsSaid : Prop := walkMapsRow.holds Try.pinned (OpenSpec.ofChange walkMapsSpec)

/-- ITS FALSE NEIGHBOUR: 'it returns false'. Refute it at one input. -/
def walkMapsWrong : ChangeSpec := { name := "walkMaps", fn := fun _ => fun
  | [d1, d2, d3, d4] => { results := [.lit (.bool false)], args := [d1, d2, d3, d4] }
  | _ => none }
def WalkMapsWrongFalsely : Prop := walkMapsRow.holds Try.pinned (OpenSpec.ofChange walkMapsWrong)

/-- 'trunnionlaw5.WalkFar': WHATEVER THE INPUT: true; the input reads as it did. -/
def walkFarSpec : ChangeSpec := { name := "walkFar", fn := fun _ => fun
  | [d1, d2, d3, d4, d5] => { results := [.lit (.bool true)], args := [d1, d2, d3, d4, d5] }
  | _ => none }
def walkFarRow : OpenClaim := { program := "ytmkhpahkcicfnaa", sum := "fb0eeee0e8ed67081b9745a07133215284991c8cd540027720d6182c8b02bfeb", func := "trunnion/trunnionlaw5.WalkFar", spec := "walkFar", unfollowed := true, recurses := true, apart := false }
def WalkFarSaid : Prop := walkFarRow.holds Try.pinned (OpenSpec.ofChange walkFarSpec)

/-- ITS FALSE NEIGHBOUR: 'it returns false'. Refute it at one input. -/
def walkFarWrong : ChangeSpec := { name := "walkFar", fn := fun _ => fun
  | [d1, d2, d3, d4, d5] => { results := [.lit (.bool false)], args := [d1, d2, d3, d4, d5] }
  | _ => none }
def WalkFarWrongFalsely : Prop := walkFarRow.holds Try.pinned (OpenSpec.ofChange walkFarWrong)

/-- 'trunnionlaw5.WalkEntry': WHATEVER THE INPUT: true; the input reads as it did. -/
def walkEntrySpec : ChangeSpec := { name := "walkEntry", fn := fun _ => fun
  | [d1, d2, d3, d4, d5] => { results := [.lit (.bool true)], args := [d1, d2, d3, d4, d5] }
  | _ => none }
def walkEntryRow : OpenClaim := { program := "ytmkhpahkcicfnaa", sum := "fb0eeee0e8ed67081b9745a07133215284991c8cd540027720d6182c8b02bfeb", func := "trunnion/trunnionlaw5.WalkEntry", spec := "walkEntry", unfollowed := true, recurses := true, apart := false }
def WalkEntrySaid : Prop := walkEntryRow.holds Try.pinned (OpenSpec.ofChange walkEntrySpec)

/-- ITS FALSE NEIGHBOUR: 'it returns false'. Refute it at one input. -/
def walkEntryWrong : ChangeSpec := { name := "walkEntry", fn := fun _ => fun
  | [d1, d2, d3, d4, d5] => { results := [.lit (.bool false)], args := [d1, d2, d3, d4, d5] }
  | _ => none }
def WalkEntryWrongFalsely : Prop := walkEntryRow.holds Try.pinned (OpenSpec.ofChange walkEntryWrong)

/- THE SECOND FORM. 'bulk': how many values and letters a reading holds, each counted each time it is reached (what is shared counts as often as it is met; a slice's spare places count too). A statement '..UptoSaid' is the law's where the arguments, and the package variables that the reading takes, are together of bulk at most 1048576: NARROWER than '..Said'. Prove '..Said' where nothing that the law and all that it calls make is longer than what came in: it says more and counts as full. Else prove '..UptoSaid'. A law counts once. -/
mutual
def uptoBulk {H : Type} : DataW H → Nat
  | .lit (.string bytes) => bytes.length + 1
  | .lit _ => 1
  | .nil => 1
  | .ptr d => uptoBulk d + 1
  | .slice elems spare => uptoBulkAll elems + uptoBulkAll spare + 1
  | .agg parts => uptoBulkAll parts + 1
  | .iface _ d => uptoBulk d + 1
  | .map entries => uptoBulkEntries entries + 1
  | .held _ => 1
def uptoBulkAll {H : Type} : List (DataW H) → Nat
  | [] => 0
  | d :: r => uptoBulk d + uptoBulkAll r
def uptoBulkEntries {H : Type} : List (Lit × DataW H) → Nat
  | [] => 0
  | x :: r => uptoBulkEntry x + uptoBulkEntries r
def uptoBulkEntry {H : Type} : Lit × DataW H → Nat
  | (.string bytes, d) => bytes.length + uptoBulk d + 1
  | (_, d) => uptoBulk d + 1
 end
def uptoSmall : (H : Type) → List (DataW H) → Bool := fun _ ds => decide (uptoBulkAll ds ≤ 1048576)
def OpenSpec.upto (s : _root_.Go.ChangeSpec) : _root_.Go.OpenSpec := { _root_.Go.OpenSpec.ofChange s with cond := some uptoSmall }

/-- 'trunnionlaw4.PhysHalves', WHERE WHAT IT READS IS OF BULK AT MOST 1048576: true; the input reads as it did. -/
def physHalvesUptoRow : OpenClaim := { program := "ytmkhpahkcicfnaa", sum := "fb0eeee0e8ed67081b9745a07133215284991c8cd540027720d6182c8b02bfeb", func := "trunnion/trunnionlaw4.PhysHalves", spec := "physHalves", apart := false, narrowed := true }
def PhysHalvesUptoSaid : Prop := physHalvesUptoRow.holds Try.pinned (OpenSpec.upto physHalvesSpec)

/-- 'trunnionlaw4.PhysApart', WHERE WHAT IT READS IS OF BULK AT MOST 1048576: true; the input reads as it did. -/
def physApartUptoRow : OpenClaim := { program := "ytmkhpahkcicfnaa", sum := "fb0eeee0e8ed67081b9745a07133215284991c8cd540027720d6182c8b02bfeb", func := "trunnion/trunnionlaw4.PhysApart", spec := "physApart", apart := false, narrowed := true }
def PhysApartUptoSaid : Prop := physApartUptoRow.holds Try.pinned (OpenSpec.upto physApartSpec)

/-- 'trunnionlaw4.PhysPlays', WHERE WHAT IT READS IS OF BULK AT MOST 1048576: true; the input reads as it did. -/
def physPlaysUptoRow : OpenClaim := { program := "ytmkhpahkcicfnaa", sum := "fb0eeee0e8ed67081b9745a07133215284991c8cd540027720d6182c8b02bfeb", func := "trunnion/trunnionlaw4.PhysPlays", spec := "physPlays", apart := false, narrowed := true }
def PhysPlaysUptoSaid : Prop := physPlaysUptoRow.holds Try.pinned (OpenSpec.upto physPlaysSpec)

/-- 'trunnionlaw4.PhysEdges', WHERE WHAT IT READS IS OF BULK AT MOST 1048576: true; the input reads as it did. -/
def physEdgesUptoRow : OpenClaim := { program := "ytmkhpahkcicfnaa", sum := "fb0eeee0e8ed67081b9745a07133215284991c8cd540027720d6182c8b02bfeb", func := "trunnion/trunnionlaw4.PhysEdges", spec := "physEdges", apart := false, narrowed := true }
def PhysEdgesUptoSaid : Prop := physEdgesUptoRow.holds Try.pinned (OpenSpec.upto physEdgesSpec)

/-- 'trunnionlaw4.PhysRows', WHERE WHAT IT READS IS OF BULK AT MOST 1048576: true; the input reads as it did. -/
def physRowsUptoRow : OpenClaim := { program := "ytmkhpahkcicfnaa", sum := "fb0eeee0e8ed67081b9745a07133215284991c8cd540027720d6182c8b02bfeb", func := "trunnion/trunnionlaw4.PhysRows", spec := "physRows", apart := false, narrowed := true }
def PhysRowsUptoSaid : Prop := physRowsUptoRow.holds Try.pinned (OpenSpec.upto physRowsSpec)

/-- 'trunnionlaw5.WalkBits', WHERE WHAT IT READS IS OF BULK AT MOST 1048576: true; the input reads as it did. -/
def walkBitsUptoRow : OpenClaim := { program := "ytmkhpahkcicfnaa", sum := "fb0eeee0e8ed67081b9745a07133215284991c8cd540027720d6182c8b02bfeb", func := "trunnion/trunnionlaw5.WalkBits", spec := "walkBits", unfollowed := true, recurses := true, apart := false, narrowed := true }
def WalkBitsUptoSaid : Prop := walkBitsUptoRow.holds Try.pinned (OpenSpec.upto walkBitsSpec)

/-- 'trunnionlaw5.WalkUser', WHERE WHAT IT READS IS OF BULK AT MOST 1048576: true; the input reads as it did. -/
def walkUserUptoRow : OpenClaim := { program := "ytmkhpahkcicfnaa", sum := "fb0eeee0e8ed67081b9745a07133215284991c8cd540027720d6182c8b02bfeb", func := "trunnion/trunnionlaw5.WalkUser", spec := "walkUser", unfollowed := true, recurses := true, apart := false, narrowed := true }
def WalkUserUptoSaid : Prop := walkUserUptoRow.holds Try.pinned (OpenSpec.upto walkUserSpec)

/-- 'trunnionlaw5.WalkTwo', WHERE WHAT IT READS IS OF BULK AT MOST 1048576: true; the input reads as it did. -/
def walkTwoUptoRow : OpenClaim := { program := "ytmkhpahkcicfnaa", sum := "fb0eeee0e8ed67081b9745a07133215284991c8cd540027720d6182c8b02bfeb", func := "trunnion/trunnionlaw5.WalkTwo", spec := "walkTwo", unfollowed := true, recurses := true, apart := false, narrowed := true }
def WalkTwoUptoSaid : Prop := walkTwoUptoRow.holds Try.pinned (OpenSpec.upto walkTwoSpec)

/-- 'trunnionlaw5.WalkOffs', WHERE WHAT IT READS IS OF BULK AT MOST 1048576: true; the input reads as it did. -/
def walkOffsUptoRow : OpenClaim := { program := "ytmkhpahkcicfnaa", sum := "fb0eeee0e8ed67081b9745a07133215284991c8cd540027720d6182c8b02bfeb", func := "trunnion/trunnionlaw5.WalkOffs", spec := "walkOffs", unfollowed := true, recurses := true, apart := false, narrowed := true }
def WalkOffsUptoSaid : Prop := walkOffsUptoRow.holds Try.pinned (OpenSpec.upto walkOffsSpec)

/-- 'trunnionlaw5.WalkMaps', WHERE WHAT IT READS IS OF BULK AT MOST 1048576: true; the input reads as it did. -/
def walkMapsUptoRow : OpenClaim := { program := "ytmkhpahkcicfnaa", sum := "fb0eeee0e8ed67081b9745a07133215284991c8cd540027720d6182c8b02bfeb", func := "trunnion/trunnionlaw5.WalkMaps", spec := "walkMaps", unfollowed := true, recurses := true, apart := false, narrowed := true }
def WalkMapsUptoSaid : Prop := walkMapsUptoRow.holds Try.pinned (OpenSpec.upto walkMapsSpec)

/-- 'trunnionlaw5.WalkFar', WHERE WHAT IT READS IS OF BULK AT MOST 1048576: true; the input reads as it did. -/
def walkFarUptoRow : OpenClaim := { program := "ytmkhpahkcicfnaa", sum := "fb0eeee0e8ed67081b9745a07133215284991c8cd540027720d6182c8b02bfeb", func := "trunnion/trunnionlaw5.WalkFar", spec := "walkFar", unfollowed := true, recurses := true, apart := false, narrowed := true }
def WalkFarUptoSaid : Prop := walkFarUptoRow.holds Try.pinned (OpenSpec.upto walkFarSpec)

/-- 'trunnionlaw5.WalkEntry', WHERE WHAT IT READS IS OF BULK AT MOST 1048576: true; the input reads as it did. -/
def walkEntryUptoRow : OpenClaim := { program := "ytmkhpahkcicfnaa", sum := "fb0eeee0e8ed67081b9745a07133215284991c8cd540027720d6182c8b02bfeb", func := "trunnion/trunnionlaw5.WalkEntry", spec := "walkEntry", unfollowed := true, recurses := true, apart := false, narrowed := true }
def WalkEntryUptoSaid : Prop := walkEntryUptoRow.holds Try.pinned (OpenSpec.upto walkEntrySpec)

end Rows
end Go.Proofs.Ytmkhpahkcicfnaa
