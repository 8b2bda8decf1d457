/-
  No cell of these rows narrows 'for every input' (looked for: loops, veiled, ifaces, maps, wideKeys, modest, calm, conditions, laid).
  DERIVED. THE GIVEN ROWS OF THIS SEAT. 7 by the template 'for every input the law returns true; each argument reads behind the call as it read before'; 0 by the template 'total and deterministic' (their statements: YtmbdimcjpdofoaaTotals.lean).
  GIVEN WITH THE SEED: the statements are not yours to turn. If you find one false, say at which input.
  Laid BY PROGRAM, IN A SANDBOX (cutbox-rows.mjs): the forced cells as the released guide's own fill.sh prints them over the translation e257f0a5d2f78f53… (all of the seat's roots in one cut). By AI agents, Wed Nov 11 2026. No macro, syntax, notation, axiom, sorry.
-/
import Derived.Test.YtmbdimcjpdofoaaChecked
import GoSem.Claim
import GoSem.ClaimJoined
import GoSem.ClaimMapViews
import Derived.JoinedTies
import Derived.KernelRfl
namespace Go.Proofs.Ytmbdimcjpdofoaa
/- THE CELL 'sum', in the pinned program and in every row, IS THE sha256 OF THE DUMP (.gsa) THAT YtmbdimcjpdofoaaProg.lean LOADS. Nothing in Lean hashes anything: it is a label: what it is worth is what the hold of that sum in a sandbox is worth. -/
noncomputable def Try.pinned : Pinned := { name := "ytmbdimcjpdofoaa", sum := "e257f0a5d2f78f537b7e7095172c5206bc9101f86eaa72e22b948d99ade48417", checked := Try.checked }
namespace Rows
def none {H : Type} : Left H := { results := [], args := [] }

/-- 'trunnionlaw15.PlanParts': WHATEVER THE INPUT: true; the input reads as it did. -/
def planPartsSpec : ChangeSpec := { name := "planParts", fn := fun _ => fun
  | [d1, d2, d3, d4] => { results := [.lit (.bool true)], args := [d1, d2, d3, d4] }
  | _ => none }
def planPartsRow : OpenClaim := { program := "ytmbdimcjpdofoaa", sum := "e257f0a5d2f78f537b7e7095172c5206bc9101f86eaa72e22b948d99ade48417", func := "trunnion/trunnionlaw15.PlanParts", spec := "planParts", unfollowed := true, recurses := true, apart := false }
def PlanPartsSaid : Prop := planPartsRow.holds Try.pinned (OpenSpec.ofChange planPartsSpec)

/-- ITS FALSE NEIGHBOUR: 'it returns false'. Refute it at one input. -/
def planPartsWrong : ChangeSpec := { name := "planParts", fn := fun _ => fun
  | [d1, d2, d3, d4] => { results := [.lit (.bool false)], args := [d1, d2, d3, d4] }
  | _ => none }
def PlanPartsWrongFalsely : Prop := planPartsRow.holds Try.pinned (OpenSpec.ofChange planPartsWrong)

/-- 'trunnionlaw15.PlanTicks': WHATEVER THE INPUT: true; the input reads as it did. -/
def planTicksSpec : ChangeSpec := { name := "planTicks", fn := fun _ => fun
  | [d1, d2] => { results := [.lit (.bool true)], args := [d1, d2] }
  | _ => none }
def planTicksRow : OpenClaim := { program := "ytmbdimcjpdofoaa", sum := "e257f0a5d2f78f537b7e7095172c5206bc9101f86eaa72e22b948d99ade48417", func := "trunnion/trunnionlaw15.PlanTicks", spec := "planTicks", unfollowed := true, recurses := true, apart := false }
def PlanTicksSaid : Prop := planTicksRow.holds Try.pinned (OpenSpec.ofChange planTicksSpec)

/-- ITS FALSE NEIGHBOUR: 'it returns false'. Refute it at one input. -/
def planTicksWrong : ChangeSpec := { name := "planTicks", fn := fun _ => fun
  | [d1, d2] => { results := [.lit (.bool false)], args := [d1, d2] }
  | _ => none }
def PlanTicksWrongFalsely : Prop := planTicksRow.holds Try.pinned (OpenSpec.ofChange planTicksWrong)

/-- 'trunnionlaw15.PlanShares': WHATEVER THE INPUT: true; the input reads as it did. -/
def planSharesSpec : ChangeSpec := { name := "planShares", fn := fun _ => fun
  | [d1, d2, d3] => { results := [.lit (.bool true)], args := [d1, d2, d3] }
  | _ => none }
def planSharesRow : OpenClaim := { program := "ytmbdimcjpdofoaa", sum := "e257f0a5d2f78f537b7e7095172c5206bc9101f86eaa72e22b948d99ade48417", func := "trunnion/trunnionlaw15.PlanShares", spec := "planShares", unfollowed := true, recurses := true, apart := false }
def PlanSharesSaid : Prop := planSharesRow.holds Try.pinned (OpenSpec.ofChange planSharesSpec)

/-- ITS FALSE NEIGHBOUR: 'it returns false'. Refute it at one input. -/
def planSharesWrong : ChangeSpec := { name := "planShares", fn := fun _ => fun
  | [d1, d2, d3] => { results := [.lit (.bool false)], args := [d1, d2, d3] }
  | _ => none }
def PlanSharesWrongFalsely : Prop := planSharesRow.holds Try.pinned (OpenSpec.ofChange planSharesWrong)

/-- 'trunnionlaw15.PlanFull': WHATEVER THE INPUT: true; the input reads as it did. -/
def planFullSpec : ChangeSpec := { name := "planFull", fn := fun _ => fun
  | [d1, d2, d3] => { results := [.lit (.bool true)], args := [d1, d2, d3] }
  | _ => none }
def planFullRow : OpenClaim := { program := "ytmbdimcjpdofoaa", sum := "e257f0a5d2f78f537b7e7095172c5206bc9101f86eaa72e22b948d99ade48417", func := "trunnion/trunnionlaw15.PlanFull", spec := "planFull", unfollowed := true, recurses := true, apart := false }
def PlanFullSaid : Prop := planFullRow.holds Try.pinned (OpenSpec.ofChange planFullSpec)

/-- ITS FALSE NEIGHBOUR: 'it returns false'. Refute it at one input. -/
def planFullWrong : ChangeSpec := { name := "planFull", fn := fun _ => fun
  | [d1, d2, d3] => { results := [.lit (.bool false)], args := [d1, d2, d3] }
  | _ => none }
def PlanFullWrongFalsely : Prop := planFullRow.holds Try.pinned (OpenSpec.ofChange planFullWrong)

/-- 'trunnionlaw15.PlanLater': WHATEVER THE INPUT: true; the input reads as it did. -/
def planLaterSpec : ChangeSpec := { name := "planLater", fn := fun _ => fun
  | [d1, d2, d3, d4] => { results := [.lit (.bool true)], args := [d1, d2, d3, d4] }
  | _ => none }
def planLaterRow : OpenClaim := { program := "ytmbdimcjpdofoaa", sum := "e257f0a5d2f78f537b7e7095172c5206bc9101f86eaa72e22b948d99ade48417", func := "trunnion/trunnionlaw15.PlanLater", spec := "planLater", unfollowed := true, recurses := true, apart := false }
def PlanLaterSaid : Prop := planLaterRow.holds Try.pinned (OpenSpec.ofChange planLaterSpec)

/-- ITS FALSE NEIGHBOUR: 'it returns false'. Refute it at one input. -/
def planLaterWrong : ChangeSpec := { name := "planLater", fn := fun _ => fun
  | [d1, d2, d3, d4] => { results := [.lit (.bool false)], args := [d1, d2, d3, d4] }
  | _ => none }
def PlanLaterWrongFalsely : Prop := planLaterRow.holds Try.pinned (OpenSpec.ofChange planLaterWrong)

/-- 'trunnionlaw15.PlanCounts': WHATEVER THE INPUT: true; the input reads as it did. -/
def planCountsSpec : ChangeSpec := { name := "planCounts", fn := fun _ => fun
  | [d1, d2, d3, d4] => { results := [.lit (.bool true)], args := [d1, d2, d3, d4] }
  | _ => none }
def planCountsRow : OpenClaim := { program := "ytmbdimcjpdofoaa", sum := "e257f0a5d2f78f537b7e7095172c5206bc9101f86eaa72e22b948d99ade48417", func := "trunnion/trunnionlaw15.PlanCounts", spec := "planCounts", unfollowed := true, recurses := true, apart := false }
def PlanCountsSaid : Prop := planCountsRow.holds Try.pinned (OpenSpec.ofChange planCountsSpec)

/-- ITS FALSE NEIGHBOUR: 'it returns false'. Refute it at one input. -/
def planCountsWrong : ChangeSpec := { name := "planCounts", fn := fun _ => fun
  | [d1, d2, d3, d4] => { results := [.lit (.bool false)], args := [d1, d2, d3, d4] }
  | _ => none }
def PlanCountsWrongFalsely : Prop := planCountsRow.holds Try.pinned (OpenSpec.ofChange planCountsWrong)

/-- 'trunnionlaw15.PlanSteps': WHATEVER THE INPUT: true; the input reads as it did. -/
def planStepsSpec : ChangeSpec := { name := "planSteps", fn := fun _ => fun
  | [d1, d2, d3, d4] => { results := [.lit (.bool true)], args := [d1, d2, d3, d4] }
  | _ => none }
def planStepsRow : OpenClaim := { program := "ytmbdimcjpdofoaa", sum := "e257f0a5d2f78f537b7e7095172c5206bc9101f86eaa72e22b948d99ade48417", func := "trunnion/trunnionlaw15.PlanSteps", spec := "planSteps", unfollowed := true, recurses := true, apart := false }
def PlanStepsSaid : Prop := planStepsRow.holds Try.pinned (OpenSpec.ofChange planStepsSpec)

/-- ITS FALSE NEIGHBOUR: 'it returns false'. Refute it at one input. -/
def planStepsWrong : ChangeSpec := { name := "planSteps", fn := fun _ => fun
  | [d1, d2, d3, d4] => { results := [.lit (.bool false)], args := [d1, d2, d3, d4] }
  | _ => none }
def PlanStepsWrongFalsely : Prop := planStepsRow.holds Try.pinned (OpenSpec.ofChange planStepsWrong)

/- THE SECOND FORM. 'bulk': how many values and letters a reading holds, each counted each time it is reached (what is shared counts as often as it is met; a slice's spare places count too). A statement '..UptoSaid' is the law's where the arguments, and the package variables that the reading takes, are together of bulk at most 1048576: NARROWER than '..Said'. Prove '..Said' where nothing that the law and all that it calls make is longer than what came in: it says more and counts as full. Else prove '..UptoSaid'. A law counts once. -/
mutual
def uptoBulk {H : Type} : DataW H → Nat
  | .lit (.string bytes) => bytes.length + 1
  | .lit _ => 1
  | .nil => 1
  | .ptr d => uptoBulk d + 1
  | .slice elems spare => uptoBulkAll elems + uptoBulkAll spare + 1
  | .agg parts => uptoBulkAll parts + 1
  | .iface _ d => uptoBulk d + 1
  | .map entries => uptoBulkEntries entries + 1
  | .held _ => 1
def uptoBulkAll {H : Type} : List (DataW H) → Nat
  | [] => 0
  | d :: r => uptoBulk d + uptoBulkAll r
def uptoBulkEntries {H : Type} : List (Lit × DataW H) → Nat
  | [] => 0
  | x :: r => uptoBulkEntry x + uptoBulkEntries r
def uptoBulkEntry {H : Type} : Lit × DataW H → Nat
  | (.string bytes, d) => bytes.length + uptoBulk d + 1
  | (_, d) => uptoBulk d + 1
 end
def uptoSmall : (H : Type) → List (DataW H) → Bool := fun _ ds => decide (uptoBulkAll ds ≤ 1048576)
def OpenSpec.upto (s : _root_.Go.ChangeSpec) : _root_.Go.OpenSpec := { _root_.Go.OpenSpec.ofChange s with cond := some uptoSmall }

/-- 'trunnionlaw15.PlanParts', WHERE WHAT IT READS IS OF BULK AT MOST 1048576: true; the input reads as it did. -/
def planPartsUptoRow : OpenClaim := { program := "ytmbdimcjpdofoaa", sum := "e257f0a5d2f78f537b7e7095172c5206bc9101f86eaa72e22b948d99ade48417", func := "trunnion/trunnionlaw15.PlanParts", spec := "planParts", unfollowed := true, recurses := true, apart := false, narrowed := true }
def PlanPartsUptoSaid : Prop := planPartsUptoRow.holds Try.pinned (OpenSpec.upto planPartsSpec)

/-- 'trunnionlaw15.PlanTicks', WHERE WHAT IT READS IS OF BULK AT MOST 1048576: true; the input reads as it did. -/
def planTicksUptoRow : OpenClaim := { program := "ytmbdimcjpdofoaa", sum := "e257f0a5d2f78f537b7e7095172c5206bc9101f86eaa72e22b948d99ade48417", func := "trunnion/trunnionlaw15.PlanTicks", spec := "planTicks", unfollowed := true, recurses := true, apart := false, narrowed := true }
def PlanTicksUptoSaid : Prop := planTicksUptoRow.holds Try.pinned (OpenSpec.upto planTicksSpec)

/-- 'trunnionlaw15.PlanShares', WHERE WHAT IT READS IS OF BULK AT MOST 1048576: true; the input reads as it did. -/
def planSharesUptoRow : OpenClaim := { program := "ytmbdimcjpdofoaa", sum := "e257f0a5d2f78f537b7e7095172c5206bc9101f86eaa72e22b948d99ade48417", func := "trunnion/trunnionlaw15.PlanShares", spec := "planShares", unfollowed := true, recurses := true, apart := false, narrowed := true }
def PlanSharesUptoSaid : Prop := planSharesUptoRow.holds Try.pinned (OpenSpec.upto planSharesSpec)

/-- 'trunnionlaw15.PlanFull', WHERE WHAT IT READS IS OF BULK AT MOST 1048576: true; the input reads as it did. -/
def planFullUptoRow : OpenClaim := { program := "ytmbdimcjpdofoaa", sum := "e257f0a5d2f78f537b7e7095172c5206bc9101f86eaa72e22b948d99ade48417", func := "trunnion/trunnionlaw15.PlanFull", spec := "planFull", unfollowed := true, recurses := true, apart := false, narrowed := true }
def PlanFullUptoSaid : Prop := planFullUptoRow.holds Try.pinned (OpenSpec.upto planFullSpec)

/-- 'trunnionlaw15.PlanLater', WHERE WHAT IT READS IS OF BULK AT MOST 1048576: true; the input reads as it did. -/
def planLaterUptoRow : OpenClaim := { program := "ytmbdimcjpdofoaa", sum := "e257f0a5d2f78f537b7e7095172c5206bc9101f86eaa72e22b948d99ade48417", func := "trunnion/trunnionlaw15.PlanLater", spec := "planLater", unfollowed := true, recurses := true, apart := false, narrowed := true }
def PlanLaterUptoSaid : Prop := planLaterUptoRow.holds Try.pinned (OpenSpec.upto planLaterSpec)

/-- 'trunnionlaw15.PlanCounts', WHERE WHAT IT READS IS OF BULK AT MOST 1048576: true; the input reads as it did. -/
def planCountsUptoRow : OpenClaim := { program := "ytmbdimcjpdofoaa", sum := "e257f0a5d2f78f537b7e7095172c5206bc9101f86eaa72e22b948d99ade48417", func := "trunnion/trunnionlaw15.PlanCounts", spec := "planCounts", unfollowed := true, recurses := true, apart := false, narrowed := true }
def PlanCountsUptoSaid : Prop := planCountsUptoRow.holds Try.pinned (OpenSpec.upto planCountsSpec)

/-- 'trunnionlaw15.PlanSteps', WHERE WHAT IT READS IS OF BULK AT MOST 1048576: true; the input reads as it did. -/
def planStepsUptoRow : OpenClaim := { program := "ytmbdimcjpdofoaa", sum := "e257f0a5d2f78f537b7e7095172c5206bc9101f86eaa72e22b948d99ade48417", func := "trunnion/trunnionlaw15.PlanSteps", spec := "planSteps", unfollowed := true, recurses := true, apart := false, narrowed := true }
def PlanStepsUptoSaid : Prop := planStepsUptoRow.holds Try.pinned (OpenSpec.upto planStepsSpec)

end Rows
end Go.Proofs.Ytmbdimcjpdofoaa
