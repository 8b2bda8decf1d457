/-
  No cell of these rows narrows 'for every input' (looked for: loops, veiled, ifaces, maps, wideKeys, modest, calm, conditions, laid).
  DERIVED. THE GIVEN ROWS OF THIS SEAT. 11 by the template 'for every input the law returns true; each argument reads behind the call as it read before'; 0 by the template 'total and deterministic' (their statements: YtdhkbephofnfdaaTotals.lean).
  GIVEN WITH THE SEED: the statements are not yours to turn. If you find one false, say at which input.
  Laid BY PROGRAM, IN A SANDBOX (cutbox-rows.mjs): the forced cells as the released guide's own fill.sh prints them over the translation e9eeed55566ec785… (all of the seat's roots in one cut). By AI agents, Wed Nov 11 2026. No macro, syntax, notation, axiom, sorry.
-/
import Derived.Test.YtdhkbephofnfdaaChecked
import GoSem.Claim
import GoSem.ClaimJoined
import GoSem.ClaimMapViews
import Derived.JoinedTies
import Derived.KernelRfl
namespace Go.Proofs.Ytdhkbephofnfdaa
/- THE CELL 'sum', in the pinned program and in every row, IS THE sha256 OF THE DUMP (.gsa) THAT YtdhkbephofnfdaaProg.lean LOADS. Nothing in Lean hashes anything: it is a label: what it is worth is what the hold of that sum in a sandbox is worth. -/
noncomputable def Try.pinned : Pinned := { name := "ytdhkbephofnfdaa", sum := "e9eeed55566ec785307d93a5d662c01d59a4ff1e7b880ab60b90f32195ad3b80", checked := Try.checked }
namespace Rows
def none {H : Type} : Left H := { results := [], args := [] }

/-- 'trunnionlaw14.ConfigWrong': WHATEVER THE INPUT: true; the input reads as it did. -/
def configWrongSpec : ChangeSpec := { name := "configWrong", fn := fun _ => fun
  | [d1, d2] => { results := [.lit (.bool true)], args := [d1, d2] }
  | _ => none }
def configWrongRow : OpenClaim := { program := "ytdhkbephofnfdaa", sum := "e9eeed55566ec785307d93a5d662c01d59a4ff1e7b880ab60b90f32195ad3b80", func := "trunnion/trunnionlaw14.ConfigWrong", spec := "configWrong", unfollowed := true, recurses := true, apart := false }
def ConfigWrongSaid : Prop := configWrongRow.holds Try.pinned (OpenSpec.ofChange configWrongSpec)

/-- ITS FALSE NEIGHBOUR: 'it returns false'. Refute it at one input. -/
def configWrongWrong : ChangeSpec := { name := "configWrong", fn := fun _ => fun
  | [d1, d2] => { results := [.lit (.bool false)], args := [d1, d2] }
  | _ => none }
def ConfigWrongWrongFalsely : Prop := configWrongRow.holds Try.pinned (OpenSpec.ofChange configWrongWrong)

/-- 'trunnionlaw14.ConfigMany': WHATEVER THE INPUT: true; the input reads as it did. -/
def configManySpec : ChangeSpec := { name := "configMany", fn := fun _ => fun
  | [d1, d2, d3, d4, d5] => { results := [.lit (.bool true)], args := [d1, d2, d3, d4, d5] }
  | _ => none }
def configManyRow : OpenClaim := { program := "ytdhkbephofnfdaa", sum := "e9eeed55566ec785307d93a5d662c01d59a4ff1e7b880ab60b90f32195ad3b80", func := "trunnion/trunnionlaw14.ConfigMany", spec := "configMany", unfollowed := true, recurses := true, apart := false }
def ConfigManySaid : Prop := configManyRow.holds Try.pinned (OpenSpec.ofChange configManySpec)

/-- ITS FALSE NEIGHBOUR: 'it returns false'. Refute it at one input. -/
def configManyWrong : ChangeSpec := { name := "configMany", fn := fun _ => fun
  | [d1, d2, d3, d4, d5] => { results := [.lit (.bool false)], args := [d1, d2, d3, d4, d5] }
  | _ => none }
def ConfigManyWrongFalsely : Prop := configManyRow.holds Try.pinned (OpenSpec.ofChange configManyWrong)

/-- 'trunnionlaw14.ConfigTwice': WHATEVER THE INPUT: true; the input reads as it did. -/
def configTwiceSpec : ChangeSpec := { name := "configTwice", fn := fun _ => fun
  | [d1, d2, d3] => { results := [.lit (.bool true)], args := [d1, d2, d3] }
  | _ => none }
def configTwiceRow : OpenClaim := { program := "ytdhkbephofnfdaa", sum := "e9eeed55566ec785307d93a5d662c01d59a4ff1e7b880ab60b90f32195ad3b80", func := "trunnion/trunnionlaw14.ConfigTwice", spec := "configTwice", unfollowed := true, recurses := true, apart := false }
def ConfigTwiceSaid : Prop := configTwiceRow.holds Try.pinned (OpenSpec.ofChange configTwiceSpec)

/-- ITS FALSE NEIGHBOUR: 'it returns false'. Refute it at one input. -/
def configTwiceWrong : ChangeSpec := { name := "configTwice", fn := fun _ => fun
  | [d1, d2, d3] => { results := [.lit (.bool false)], args := [d1, d2, d3] }
  | _ => none }
def ConfigTwiceWrongFalsely : Prop := configTwiceRow.holds Try.pinned (OpenSpec.ofChange configTwiceWrong)

/-- 'trunnionlaw16.FramesTell': WHATEVER THE INPUT: true; the input reads as it did. -/
def framesTellSpec : ChangeSpec := { name := "framesTell", fn := fun _ => fun
  | [d1, d2, d3, d4] => { results := [.lit (.bool true)], args := [d1, d2, d3, d4] }
  | _ => none }
def framesTellRow : OpenClaim := { program := "ytdhkbephofnfdaa", sum := "e9eeed55566ec785307d93a5d662c01d59a4ff1e7b880ab60b90f32195ad3b80", func := "trunnion/trunnionlaw16.FramesTell", spec := "framesTell", unfollowed := true, recurses := true, apart := false }
def FramesTellSaid : Prop := framesTellRow.holds Try.pinned (OpenSpec.ofChange framesTellSpec)

/-- ITS FALSE NEIGHBOUR: 'it returns false'. Refute it at one input. -/
def framesTellWrong : ChangeSpec := { name := "framesTell", fn := fun _ => fun
  | [d1, d2, d3, d4] => { results := [.lit (.bool false)], args := [d1, d2, d3, d4] }
  | _ => none }
def FramesTellWrongFalsely : Prop := framesTellRow.holds Try.pinned (OpenSpec.ofChange framesTellWrong)

/-- 'trunnionlaw16.FramesApart': WHATEVER THE INPUT: true; the input reads as it did. -/
def framesApartSpec : ChangeSpec := { name := "framesApart", fn := fun _ => fun
  | [d] => { results := [.lit (.bool true)], args := [d] }
  | _ => none }
def framesApartRow : OpenClaim := { program := "ytdhkbephofnfdaa", sum := "e9eeed55566ec785307d93a5d662c01d59a4ff1e7b880ab60b90f32195ad3b80", func := "trunnion/trunnionlaw16.FramesApart", spec := "framesApart", unfollowed := true, recurses := true, apart := false }
def FramesApartSaid : Prop := framesApartRow.holds Try.pinned (OpenSpec.ofChange framesApartSpec)

/-- ITS FALSE NEIGHBOUR: 'it returns false'. Refute it at one input. -/
def framesApartWrong : ChangeSpec := { name := "framesApart", fn := fun _ => fun
  | [d] => { results := [.lit (.bool false)], args := [d] }
  | _ => none }
def FramesApartWrongFalsely : Prop := framesApartRow.holds Try.pinned (OpenSpec.ofChange framesApartWrong)

/-- 'trunnionlaw16.FramesRows': WHATEVER THE INPUT: true; the input reads as it did. -/
def framesRowsSpec : ChangeSpec := { name := "framesRows", fn := fun _ => fun
  | [d1, d2] => { results := [.lit (.bool true)], args := [d1, d2] }
  | _ => none }
def framesRowsRow : OpenClaim := { program := "ytdhkbephofnfdaa", sum := "e9eeed55566ec785307d93a5d662c01d59a4ff1e7b880ab60b90f32195ad3b80", func := "trunnion/trunnionlaw16.FramesRows", spec := "framesRows", unfollowed := true, recurses := true, apart := false }
def FramesRowsSaid : Prop := framesRowsRow.holds Try.pinned (OpenSpec.ofChange framesRowsSpec)

/-- ITS FALSE NEIGHBOUR: 'it returns false'. Refute it at one input. -/
def framesRowsWrong : ChangeSpec := { name := "framesRows", fn := fun _ => fun
  | [d1, d2] => { results := [.lit (.bool false)], args := [d1, d2] }
  | _ => none }
def FramesRowsWrongFalsely : Prop := framesRowsRow.holds Try.pinned (OpenSpec.ofChange framesRowsWrong)

/-- 'trunnionlaw21.HealthSees': WHATEVER THE INPUT: true; the input reads as it did. -/
def healthSeesSpec : ChangeSpec := { name := "healthSees", fn := fun _ => fun
  | [d1, d2] => { results := [.lit (.bool true)], args := [d1, d2] }
  | _ => none }
def healthSeesRow : OpenClaim := { program := "ytdhkbephofnfdaa", sum := "e9eeed55566ec785307d93a5d662c01d59a4ff1e7b880ab60b90f32195ad3b80", func := "trunnion/trunnionlaw21.HealthSees", spec := "healthSees", unfollowed := true, recurses := true, apart := false }
def HealthSeesSaid : Prop := healthSeesRow.holds Try.pinned (OpenSpec.ofChange healthSeesSpec)

/-- ITS FALSE NEIGHBOUR: 'it returns false'. Refute it at one input. -/
def healthSeesWrong : ChangeSpec := { name := "healthSees", fn := fun _ => fun
  | [d1, d2] => { results := [.lit (.bool false)], args := [d1, d2] }
  | _ => none }
def HealthSeesWrongFalsely : Prop := healthSeesRow.holds Try.pinned (OpenSpec.ofChange healthSeesWrong)

/-- 'trunnionlaw21.HealthMany': WHATEVER THE INPUT: true; the input reads as it did. -/
def healthManySpec : ChangeSpec := { name := "healthMany", fn := fun _ => fun
  | [d] => { results := [.lit (.bool true)], args := [d] }
  | _ => none }
def healthManyRow : OpenClaim := { program := "ytdhkbephofnfdaa", sum := "e9eeed55566ec785307d93a5d662c01d59a4ff1e7b880ab60b90f32195ad3b80", func := "trunnion/trunnionlaw21.HealthMany", spec := "healthMany", unfollowed := true, recurses := true, apart := false }
def HealthManySaid : Prop := healthManyRow.holds Try.pinned (OpenSpec.ofChange healthManySpec)

/-- ITS FALSE NEIGHBOUR: 'it returns false'. Refute it at one input. -/
def healthManyWrong : ChangeSpec := { name := "healthMany", fn := fun _ => fun
  | [d] => { results := [.lit (.bool false)], args := [d] }
  | _ => none }
def HealthManyWrongFalsely : Prop := healthManyRow.holds Try.pinned (OpenSpec.ofChange healthManyWrong)

/-- 'trunnionlaw21.HealthParts': WHATEVER THE INPUT: true; the input reads as it did. -/
def healthPartsSpec : ChangeSpec := { name := "healthParts", fn := fun _ => fun
  | [d1, d2] => { results := [.lit (.bool true)], args := [d1, d2] }
  | _ => none }
def healthPartsRow : OpenClaim := { program := "ytdhkbephofnfdaa", sum := "e9eeed55566ec785307d93a5d662c01d59a4ff1e7b880ab60b90f32195ad3b80", func := "trunnion/trunnionlaw21.HealthParts", spec := "healthParts", unfollowed := true, recurses := true, apart := false }
def HealthPartsSaid : Prop := healthPartsRow.holds Try.pinned (OpenSpec.ofChange healthPartsSpec)

/-- ITS FALSE NEIGHBOUR: 'it returns false'. Refute it at one input. -/
def healthPartsWrong : ChangeSpec := { name := "healthParts", fn := fun _ => fun
  | [d1, d2] => { results := [.lit (.bool false)], args := [d1, d2] }
  | _ => none }
def HealthPartsWrongFalsely : Prop := healthPartsRow.holds Try.pinned (OpenSpec.ofChange healthPartsWrong)

/-- 'trunnionlaw14.ConfigPacks': WHATEVER THE INPUT: true; the input reads as it did. -/
def configPacksSpec : ChangeSpec := { name := "configPacks", fn := fun _ => fun
  | [d1, d2] => { results := [.lit (.bool true)], args := [d1, d2] }
  | _ => none }
def configPacksRow : OpenClaim := { program := "ytdhkbephofnfdaa", sum := "e9eeed55566ec785307d93a5d662c01d59a4ff1e7b880ab60b90f32195ad3b80", func := "trunnion/trunnionlaw14.ConfigPacks", spec := "configPacks", unfollowed := true, recurses := true, apart := false }
def ConfigPacksSaid : Prop := configPacksRow.holds Try.pinned (OpenSpec.ofChange configPacksSpec)

/-- ITS FALSE NEIGHBOUR: 'it returns false'. Refute it at one input. -/
def configPacksWrong : ChangeSpec := { name := "configPacks", fn := fun _ => fun
  | [d1, d2] => { results := [.lit (.bool false)], args := [d1, d2] }
  | _ => none }
def ConfigPacksWrongFalsely : Prop := configPacksRow.holds Try.pinned (OpenSpec.ofChange configPacksWrong)

/-- 'trunnionlaw14.ConfigReads': WHATEVER THE INPUT: true; the input reads as it did. -/
def configReadsSpec : ChangeSpec := { name := "configReads", fn := fun _ => fun
  | [d] => { results := [.lit (.bool true)], args := [d] }
  | _ => none }
def configReadsRow : OpenClaim := { program := "ytdhkbephofnfdaa", sum := "e9eeed55566ec785307d93a5d662c01d59a4ff1e7b880ab60b90f32195ad3b80", func := "trunnion/trunnionlaw14.ConfigReads", spec := "configReads", unfollowed := true, recurses := true, apart := false }
def ConfigReadsSaid : Prop := configReadsRow.holds Try.pinned (OpenSpec.ofChange configReadsSpec)

/-- ITS FALSE NEIGHBOUR: 'it returns false'. Refute it at one input. -/
def configReadsWrong : ChangeSpec := { name := "configReads", fn := fun _ => fun
  | [d] => { results := [.lit (.bool false)], args := [d] }
  | _ => none }
def ConfigReadsWrongFalsely : Prop := configReadsRow.holds Try.pinned (OpenSpec.ofChange configReadsWrong)

/- THE SECOND FORM. 'bulk': how many values and letters a reading holds, each counted each time it is reached (what is shared counts as often as it is met; a slice's spare places count too). A statement '..UptoSaid' is the law's where the arguments, and the package variables that the reading takes, are together of bulk at most 1048576: NARROWER than '..Said'. Prove '..Said' where nothing that the law and all that it calls make is longer than what came in: it says more and counts as full. Else prove '..UptoSaid'. A law counts once. -/
mutual
def uptoBulk {H : Type} : DataW H → Nat
  | .lit (.string bytes) => bytes.length + 1
  | .lit _ => 1
  | .nil => 1
  | .ptr d => uptoBulk d + 1
  | .slice elems spare => uptoBulkAll elems + uptoBulkAll spare + 1
  | .agg parts => uptoBulkAll parts + 1
  | .iface _ d => uptoBulk d + 1
  | .map entries => uptoBulkEntries entries + 1
  | .held _ => 1
def uptoBulkAll {H : Type} : List (DataW H) → Nat
  | [] => 0
  | d :: r => uptoBulk d + uptoBulkAll r
def uptoBulkEntries {H : Type} : List (Lit × DataW H) → Nat
  | [] => 0
  | x :: r => uptoBulkEntry x + uptoBulkEntries r
def uptoBulkEntry {H : Type} : Lit × DataW H → Nat
  | (.string bytes, d) => bytes.length + uptoBulk d + 1
  | (_, d) => uptoBulk d + 1
 end
def uptoSmall : (H : Type) → List (DataW H) → Bool := fun _ ds => decide (uptoBulkAll ds ≤ 1048576)
def OpenSpec.upto (s : _root_.Go.ChangeSpec) : _root_.Go.OpenSpec := { _root_.Go.OpenSpec.ofChange s with cond := some uptoSmall }

/-- 'trunnionlaw14.ConfigWrong', WHERE WHAT IT READS IS OF BULK AT MOST 1048576: true; the input reads as it did. -/
def configWrongUptoRow : OpenClaim := { program := "ytdhkbephofnfdaa", sum := "e9eeed55566ec785307d93a5d662c01d59a4ff1e7b880ab60b90f32195ad3b80", func := "trunnion/trunnionlaw14.ConfigWrong", spec := "configWrong", unfollowed := true, recurses := true, apart := false, narrowed := true }
def ConfigWrongUptoSaid : Prop := configWrongUptoRow.holds Try.pinned (OpenSpec.upto configWrongSpec)

/-- 'trunnionlaw14.ConfigMany', WHERE WHAT IT READS IS OF BULK AT MOST 1048576: true; the input reads as it did. -/
def configManyUptoRow : OpenClaim := { program := "ytdhkbephofnfdaa", sum := "e9eeed55566ec785307d93a5d662c01d59a4ff1e7b880ab60b90f32195ad3b80", func := "trunnion/trunnionlaw14.ConfigMany", spec := "configMany", unfollowed := true, recurses := true, apart := false, narrowed := true }
def ConfigManyUptoSaid : Prop := configManyUptoRow.holds Try.pinned (OpenSpec.upto configManySpec)

/-- 'trunnionlaw14.ConfigTwice', WHERE WHAT IT READS IS OF BULK AT MOST 1048576: true; the input reads as it did. -/
def configTwiceUptoRow : OpenClaim := { program := "ytdhkbephofnfdaa", sum := "e9eeed55566ec785307d93a5d662c01d59a4ff1e7b880ab60b90f32195ad3b80", func := "trunnion/trunnionlaw14.ConfigTwice", spec := "configTwice", unfollowed := true, recurses := true, apart := false, narrowed := true }
def ConfigTwiceUptoSaid : Prop := configTwiceUptoRow.holds Try.pinned (OpenSpec.upto configTwiceSpec)

/-- 'trunnionlaw16.FramesTell', WHERE WHAT IT READS IS OF BULK AT MOST 1048576: true; the input reads as it did. -/
def framesTellUptoRow : OpenClaim := { program := "ytdhkbephofnfdaa", sum := "e9eeed55566ec785307d93a5d662c01d59a4ff1e7b880ab60b90f32195ad3b80", func := "trunnion/trunnionlaw16.FramesTell", spec := "framesTell", unfollowed := true, recurses := true, apart := false, narrowed := true }
def FramesTellUptoSaid : Prop := framesTellUptoRow.holds Try.pinned (OpenSpec.upto framesTellSpec)

/-- 'trunnionlaw16.FramesApart', WHERE WHAT IT READS IS OF BULK AT MOST 1048576: true; the input reads as it did. -/
def framesApartUptoRow : OpenClaim := { program := "ytdhkbephofnfdaa", sum := "e9eeed55566ec785307d93a5d662c01d59a4ff1e7b880ab60b90f32195ad3b80", func := "trunnion/trunnionlaw16.FramesApart", spec := "framesApart", unfollowed := true, recurses := true, apart := false, narrowed := true }
def FramesApartUptoSaid : Prop := framesApartUptoRow.holds Try.pinned (OpenSpec.upto framesApartSpec)

/-- 'trunnionlaw16.FramesRows', WHERE WHAT IT READS IS OF BULK AT MOST 1048576: true; the input reads as it did. -/
def framesRowsUptoRow : OpenClaim := { program := "ytdhkbephofnfdaa", sum := "e9eeed55566ec785307d93a5d662c01d59a4ff1e7b880ab60b90f32195ad3b80", func := "trunnion/trunnionlaw16.FramesRows", spec := "framesRows", unfollowed := true, recurses := true, apart := false, narrowed := true }
def FramesRowsUptoSaid : Prop := framesRowsUptoRow.holds Try.pinned (OpenSpec.upto framesRowsSpec)

/-- 'trunnionlaw21.HealthSees', WHERE WHAT IT READS IS OF BULK AT MOST 1048576: true; the input reads as it did. -/
def healthSeesUptoRow : OpenClaim := { program := "ytdhkbephofnfdaa", sum := "e9eeed55566ec785307d93a5d662c01d59a4ff1e7b880ab60b90f32195ad3b80", func := "trunnion/trunnionlaw21.HealthSees", spec := "healthSees", unfollowed := true, recurses := true, apart := false, narrowed := true }
def HealthSeesUptoSaid : Prop := healthSeesUptoRow.holds Try.pinned (OpenSpec.upto healthSeesSpec)

/-- 'trunnionlaw21.HealthMany', WHERE WHAT IT READS IS OF BULK AT MOST 1048576: true; the input reads as it did. -/
def healthManyUptoRow : OpenClaim := { program := "ytdhkbephofnfdaa", sum := "e9eeed55566ec785307d93a5d662c01d59a4ff1e7b880ab60b90f32195ad3b80", func := "trunnion/trunnionlaw21.HealthMany", spec := "healthMany", unfollowed := true, recurses := true, apart := false, narrowed := true }
def HealthManyUptoSaid : Prop := healthManyUptoRow.holds Try.pinned (OpenSpec.upto healthManySpec)

/-- 'trunnionlaw21.HealthParts', WHERE WHAT IT READS IS OF BULK AT MOST 1048576: true; the input reads as it did. -/
def healthPartsUptoRow : OpenClaim := { program := "ytdhkbephofnfdaa", sum := "e9eeed55566ec785307d93a5d662c01d59a4ff1e7b880ab60b90f32195ad3b80", func := "trunnion/trunnionlaw21.HealthParts", spec := "healthParts", unfollowed := true, recurses := true, apart := false, narrowed := true }
def HealthPartsUptoSaid : Prop := healthPartsUptoRow.holds Try.pinned (OpenSpec.upto healthPartsSpec)

/-- 'trunnionlaw14.ConfigPacks', WHERE WHAT IT READS IS OF BULK AT MOST 1048576: true; the input reads as it did. -/
def configPacksUptoRow : OpenClaim := { program := "ytdhkbephofnfdaa", sum := "e9eeed55566ec785307d93a5d662c01d59a4ff1e7b880ab60b90f32195ad3b80", func := "trunnion/trunnionlaw14.ConfigPacks", spec := "configPacks", unfollowed := true, recurses := true, apart := false, narrowed := true }
def ConfigPacksUptoSaid : Prop := configPacksUptoRow.holds Try.pinned (OpenSpec.upto configPacksSpec)

/-- 'trunnionlaw14.ConfigReads', WHERE WHAT IT READS IS OF BULK AT MOST 1048576: true; the input reads as it did. -/
def configReadsUptoRow : OpenClaim := { program := "ytdhkbephofnfdaa", sum := "e9eeed55566ec785307d93a5d662c01d59a4ff1e7b880ab60b90f32195ad3b80", func := "trunnion/trunnionlaw14.ConfigReads", spec := "configReads", unfollowed := true, recurses := true, apart := false, narrowed := true }
def ConfigReadsUptoSaid : Prop := configReadsUptoRow.holds Try.pinned (OpenSpec.upto configReadsSpec)

end Rows
end Go.Proofs.Ytdhkbephofnfdaa
