/-
  No cell of these rows narrows 'for every input' (looked for: loops, veiled, ifaces, maps, wideKeys, modest, calm, conditions, laid).
  DERIVED. THE GIVEN ROWS OF THIS SEAT. 6 by the template 'for every input the law returns true; each argument reads behind the call as it read before'; 0 by the template 'total and deterministic' (their statements: YtiedfglkjkaefaaTotals.lean).
  GIVEN WITH THE SEED: the statements are not yours to turn. If you find one false, say at which input.
  Laid BY PROGRAM, IN A SANDBOX (cutbox-rows.mjs): the forced cells as the released guide's own fill.sh prints them over the translation 5f02f3452bf33cc2… (all of the seat's roots in one cut). By AI agents, Wed Nov 11 2026. No macro, syntax, notation, axiom, sorry.
-/
import Derived.Test.YtiedfglkjkaefaaChecked
import GoSem.Claim
import GoSem.ClaimJoined
import GoSem.ClaimMapViews
import Derived.JoinedTies
import Derived.KernelRfl
namespace Go.Proofs.Ytiedfglkjkaefaa
/- THE CELL 'sum', in the pinned program and in every row, IS THE sha256 OF THE DUMP (.gsa) THAT YtiedfglkjkaefaaProg.lean LOADS. Nothing in Lean hashes anything: it is a label: what it is worth is what the hold of that sum in a sandbox is worth. -/
noncomputable def Try.pinned : Pinned := { name := "ytiedfglkjkaefaa", sum := "5f02f3452bf33cc2ad69fb40f2a6075ee28f03fb1cda100b39be7f170247063f", checked := Try.checked }
namespace Rows
def none {H : Type} : Left H := { results := [], args := [] }

/-- 'trunnionlaw18.PortsApart': WHATEVER THE INPUT: true; the input reads as it did. -/
def portsApartSpec : ChangeSpec := { name := "portsApart", fn := fun _ => fun
  | [d1, d2, d3] => { results := [.lit (.bool true)], args := [d1, d2, d3] }
  | _ => none }
def portsApartRow : OpenClaim := { program := "ytiedfglkjkaefaa", sum := "5f02f3452bf33cc2ad69fb40f2a6075ee28f03fb1cda100b39be7f170247063f", func := "trunnion/trunnionlaw18.PortsApart", spec := "portsApart", unfollowed := true, recurses := true, apart := false }
def PortsApartSaid : Prop := portsApartRow.holds Try.pinned (OpenSpec.ofChange portsApartSpec)

/-- ITS FALSE NEIGHBOUR: 'it returns false'. Refute it at one input. -/
def portsApartWrong : ChangeSpec := { name := "portsApart", fn := fun _ => fun
  | [d1, d2, d3] => { results := [.lit (.bool false)], args := [d1, d2, d3] }
  | _ => none }
def PortsApartWrongFalsely : Prop := portsApartRow.holds Try.pinned (OpenSpec.ofChange portsApartWrong)

/-- 'trunnionlaw18.PortsSample': WHATEVER THE INPUT: true; the input reads as it did. -/
def portsSampleSpec : ChangeSpec := { name := "portsSample", fn := fun _ => fun
  | [d1, d2] => { results := [.lit (.bool true)], args := [d1, d2] }
  | _ => none }
def portsSampleRow : OpenClaim := { program := "ytiedfglkjkaefaa", sum := "5f02f3452bf33cc2ad69fb40f2a6075ee28f03fb1cda100b39be7f170247063f", func := "trunnion/trunnionlaw18.PortsSample", spec := "portsSample", unfollowed := true, recurses := true, apart := false }
def PortsSampleSaid : Prop := portsSampleRow.holds Try.pinned (OpenSpec.ofChange portsSampleSpec)

/-- ITS FALSE NEIGHBOUR: 'it returns false'. Refute it at one input. -/
def portsSampleWrong : ChangeSpec := { name := "portsSample", fn := fun _ => fun
  | [d1, d2] => { results := [.lit (.bool false)], args := [d1, d2] }
  | _ => none }
def PortsSampleWrongFalsely : Prop := portsSampleRow.holds Try.pinned (OpenSpec.ofChange portsSampleWrong)

/-- 'trunnionlaw18.PortsShort': WHATEVER THE INPUT: true; the input reads as it did. -/
def portsShortSpec : ChangeSpec := { name := "portsShort", fn := fun _ => fun
  | [d1, d2, d3] => { results := [.lit (.bool true)], args := [d1, d2, d3] }
  | _ => none }
def portsShortRow : OpenClaim := { program := "ytiedfglkjkaefaa", sum := "5f02f3452bf33cc2ad69fb40f2a6075ee28f03fb1cda100b39be7f170247063f", func := "trunnion/trunnionlaw18.PortsShort", spec := "portsShort", unfollowed := true, recurses := true, apart := false }
def PortsShortSaid : Prop := portsShortRow.holds Try.pinned (OpenSpec.ofChange portsShortSpec)

/-- ITS FALSE NEIGHBOUR: 'it returns false'. Refute it at one input. -/
def portsShortWrong : ChangeSpec := { name := "portsShort", fn := fun _ => fun
  | [d1, d2, d3] => { results := [.lit (.bool false)], args := [d1, d2, d3] }
  | _ => none }
def PortsShortWrongFalsely : Prop := portsShortRow.holds Try.pinned (OpenSpec.ofChange portsShortWrong)

/-- 'trunnionlaw18.PortsOrder': WHATEVER THE INPUT: true; the input reads as it did. -/
def portsOrderSpec : ChangeSpec := { name := "portsOrder", fn := fun _ => fun
  | [d1, d2] => { results := [.lit (.bool true)], args := [d1, d2] }
  | _ => none }
def portsOrderRow : OpenClaim := { program := "ytiedfglkjkaefaa", sum := "5f02f3452bf33cc2ad69fb40f2a6075ee28f03fb1cda100b39be7f170247063f", func := "trunnion/trunnionlaw18.PortsOrder", spec := "portsOrder", unfollowed := true, recurses := true, apart := false }
def PortsOrderSaid : Prop := portsOrderRow.holds Try.pinned (OpenSpec.ofChange portsOrderSpec)

/-- ITS FALSE NEIGHBOUR: 'it returns false'. Refute it at one input. -/
def portsOrderWrong : ChangeSpec := { name := "portsOrder", fn := fun _ => fun
  | [d1, d2] => { results := [.lit (.bool false)], args := [d1, d2] }
  | _ => none }
def PortsOrderWrongFalsely : Prop := portsOrderRow.holds Try.pinned (OpenSpec.ofChange portsOrderWrong)

/-- 'trunnionlaw18.PortsCodes': WHATEVER THE INPUT: true; the input reads as it did. -/
def portsCodesSpec : ChangeSpec := { name := "portsCodes", fn := fun _ => fun
  | [d] => { results := [.lit (.bool true)], args := [d] }
  | _ => none }
def portsCodesRow : OpenClaim := { program := "ytiedfglkjkaefaa", sum := "5f02f3452bf33cc2ad69fb40f2a6075ee28f03fb1cda100b39be7f170247063f", func := "trunnion/trunnionlaw18.PortsCodes", spec := "portsCodes", unfollowed := true, recurses := true, apart := false }
def PortsCodesSaid : Prop := portsCodesRow.holds Try.pinned (OpenSpec.ofChange portsCodesSpec)

/-- ITS FALSE NEIGHBOUR: 'it returns false'. Refute it at one input. -/
def portsCodesWrong : ChangeSpec := { name := "portsCodes", fn := fun _ => fun
  | [d] => { results := [.lit (.bool false)], args := [d] }
  | _ => none }
def PortsCodesWrongFalsely : Prop := portsCodesRow.holds Try.pinned (OpenSpec.ofChange portsCodesWrong)

/-- 'trunnionlaw18.PortsPlay': WHATEVER THE INPUT: true; the input reads as it did. -/
def portsPlaySpec : ChangeSpec := { name := "portsPlay", fn := fun _ => fun
  | [d1, d2] => { results := [.lit (.bool true)], args := [d1, d2] }
  | _ => none }
def portsPlayRow : OpenClaim := { program := "ytiedfglkjkaefaa", sum := "5f02f3452bf33cc2ad69fb40f2a6075ee28f03fb1cda100b39be7f170247063f", func := "trunnion/trunnionlaw18.PortsPlay", spec := "portsPlay", unfollowed := true, recurses := true, apart := false }
def PortsPlaySaid : Prop := portsPlayRow.holds Try.pinned (OpenSpec.ofChange portsPlaySpec)

/-- ITS FALSE NEIGHBOUR: 'it returns false'. Refute it at one input. -/
def portsPlayWrong : ChangeSpec := { name := "portsPlay", fn := fun _ => fun
  | [d1, d2] => { results := [.lit (.bool false)], args := [d1, d2] }
  | _ => none }
def PortsPlayWrongFalsely : Prop := portsPlayRow.holds Try.pinned (OpenSpec.ofChange portsPlayWrong)

/- THE SECOND FORM. 'bulk': how many values and letters a reading holds, each counted each time it is reached (what is shared counts as often as it is met; a slice's spare places count too). A statement '..UptoSaid' is the law's where the arguments, and the package variables that the reading takes, are together of bulk at most 1048576: NARROWER than '..Said'. Prove '..Said' where nothing that the law and all that it calls make is longer than what came in: it says more and counts as full. Else prove '..UptoSaid'. A law counts once. -/
mutual
def uptoBulk {H : Type} : DataW H → Nat
  | .lit (.string bytes) => bytes.length + 1
  | .lit _ => 1
  | .nil => 1
  | .ptr d => uptoBulk d + 1
  | .slice elems spare => uptoBulkAll elems + uptoBulkAll spare + 1
  | .agg parts => uptoBulkAll parts + 1
  | .iface _ d => uptoBulk d + 1
  | .map entries => uptoBulkEntries entries + 1
  | .held _ => 1
def uptoBulkAll {H : Type} : List (DataW H) → Nat
  | [] => 0
  | d :: r => uptoBulk d + uptoBulkAll r
def uptoBulkEntries {H : Type} : List (Lit × DataW H) → Nat
  | [] => 0
  | x :: r => uptoBulkEntry x + uptoBulkEntries r
def uptoBulkEntry {H : Type} : Lit × DataW H → Nat
  | (.string bytes, d) => bytes.length + uptoBulk d + 1
  | (_, d) => uptoBulk d + 1
 end
def uptoSmall : (H : Type) → List (DataW H) → Bool := fun _ ds => decide (uptoBulkAll ds ≤ 1048576)
def OpenSpec.upto (s : _root_.Go.ChangeSpec) : _root_.Go.OpenSpec := { _root_.Go.OpenSpec.ofChange s with cond := some uptoSmall }

/-- 'trunnionlaw18.PortsApart', WHERE WHAT IT READS IS OF BULK AT MOST 1048576: true; the input reads as it did. -/
def portsApartUptoRow : OpenClaim := { program := "ytiedfglkjkaefaa", sum := "5f02f3452bf33cc2ad69fb40f2a6075ee28f03fb1cda100b39be7f170247063f", func := "trunnion/trunnionlaw18.PortsApart", spec := "portsApart", unfollowed := true, recurses := true, apart := false, narrowed := true }
def PortsApartUptoSaid : Prop := portsApartUptoRow.holds Try.pinned (OpenSpec.upto portsApartSpec)

/-- 'trunnionlaw18.PortsSample', WHERE WHAT IT READS IS OF BULK AT MOST 1048576: true; the input reads as it did. -/
def portsSampleUptoRow : OpenClaim := { program := "ytiedfglkjkaefaa", sum := "5f02f3452bf33cc2ad69fb40f2a6075ee28f03fb1cda100b39be7f170247063f", func := "trunnion/trunnionlaw18.PortsSample", spec := "portsSample", unfollowed := true, recurses := true, apart := false, narrowed := true }
def PortsSampleUptoSaid : Prop := portsSampleUptoRow.holds Try.pinned (OpenSpec.upto portsSampleSpec)

/-- 'trunnionlaw18.PortsShort', WHERE WHAT IT READS IS OF BULK AT MOST 1048576: true; the input reads as it did. -/
def portsShortUptoRow : OpenClaim := { program := "ytiedfglkjkaefaa", sum := "5f02f3452bf33cc2ad69fb40f2a6075ee28f03fb1cda100b39be7f170247063f", func := "trunnion/trunnionlaw18.PortsShort", spec := "portsShort", unfollowed := true, recurses := true, apart := false, narrowed := true }
def PortsShortUptoSaid : Prop := portsShortUptoRow.holds Try.pinned (OpenSpec.upto portsShortSpec)

/-- 'trunnionlaw18.PortsOrder', WHERE WHAT IT READS IS OF BULK AT MOST 1048576: true; the input reads as it did. -/
def portsOrderUptoRow : OpenClaim := { program := "ytiedfglkjkaefaa", sum := "5f02f3452bf33cc2ad69fb40f2a6075ee28f03fb1cda100b39be7f170247063f", func := "trunnion/trunnionlaw18.PortsOrder", spec := "portsOrder", unfollowed := true, recurses := true, apart := false, narrowed := true }
def PortsOrderUptoSaid : Prop := portsOrderUptoRow.holds Try.pinned (OpenSpec.upto portsOrderSpec)

/-- 'trunnionlaw18.PortsCodes', WHERE WHAT IT READS IS OF BULK AT MOST 1048576: true; the input reads as it did. -/
def portsCodesUptoRow : OpenClaim := { program := "ytiedfglkjkaefaa", sum := "5f02f3452bf33cc2ad69fb40f2a6075ee28f03fb1cda100b39be7f170247063f", func := "trunnion/trunnionlaw18.PortsCodes", spec := "portsCodes", unfollowed := true, recurses := true, apart := false, narrowed := true }
def PortsCodesUptoSaid : Prop := portsCodesUptoRow.holds Try.pinned (OpenSpec.upto portsCodesSpec)

/-- 'trunnionlaw18.PortsPlay', WHERE WHAT IT READS IS OF BULK AT MOST 1048576: true; the input reads as it did. -/
def portsPlayUptoRow : OpenClaim := { program := "ytiedfglkjkaefaa", sum := "5f02f3452bf33cc2ad69fb40f2a6075ee28f03fb1cda100b39be7f170247063f", func := "trunnion/trunnionlaw18.PortsPlay", spec := "portsPlay", unfollowed := true, recurses := true, apart := false, narrowed := true }
def PortsPlayUptoSaid : Prop := portsPlayUptoRow.holds Try.pinned (OpenSpec.upto portsPlaySpec)

end Rows
end Go.Proofs.Ytiedfglkjkaefaa
