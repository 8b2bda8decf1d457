/- HealthMany: a thousand events are kept, the last ones, while all are counted. No condition. -/
import Derived.Test.YtdhkbephofnfdaaHMany
import Derived.Test.YtdhkbephofnfdaaRow
namespace Go.Proofs.Ytdhkbephofnfdaa
open Go.ChangeShapes Go.WideShapes Go.ChangeAt Go.RowKit

set_option maxRecDepth 100000 in
theorem healthMany_walk : LawWalk 10 Try.f10 := by
  intro H enc W base args ds p hval hA
  rw [Try.params10] at hA hval
  obtain ⟨l⟩ := args
  obtain ⟨v0, l0, d0, e0, p0, q0, rfl, rfl, rfl, h0, hA0⟩ := trodAll_cons hA
  obtain ⟨rfl, rfl, rfl⟩ := trodAll_nil hA0
  obtain ⟨a0, rfl, rfl, rfl, w0⟩ := open_int Try.underlying3 (hval 0 3 v0 rfl rfl) h0
  exact many_thm a0 W

set_option maxRecDepth 100000 in
theorem healthMany_lifted (os : Os) (started : os.Started) (H : Type) (enc : TypeId × Value → H) :
    ReturnsInHanded {} Try.checked os 10 .any (Rows.healthManySpec.pre6 enc Try.prog Try.f10 Rows.healthManyRow.domain false) (Rows.healthManySpec.post enc Try.prog Try.f10 false true false false) :=
  law_lifted (s := Rows.healthManySpec) Try.func10 (by kernel_rfl) rfl (by kernel_rfl) (by kernel_rfl)
    (fun H ds h => by
      match ds, h with
      | [d0], _ => rfl)
    healthMany_walk os started H enc
    (ChangeSpec.witness6 (enc := enc) (C := Try.checked) false ⟨#[], #[.int .i64 0], []⟩ 8 (by kernel_rfl) (by kernel_rfl) (by kernel_rfl) (by kernel_rfl))

set_option maxRecDepth 100000 in
/-- THE STATEMENT. -/
theorem healthMany_holds : Rows.HealthManySaid :=
  OpenClaim.holds_of_wide 10 Try.f10 rfl rfl rfl rfl rfl rfl rfl ⟨rfl, rfl, rfl, rfl, rfl⟩ rfl rfl rfl rfl rfl (by kernel_rfl) Try.func10 (by kernel_rfl)
    (of_decide_eq_true (by kernel_rfl)) (by unfold Func.isWrapper; first | (rw [if_pos (by decide +kernel)]; kernel_rfl) | (rw [if_neg (by decide +kernel)]; exact ⟨rfl, rfl⟩))
    (fun os started H enc _ => healthMany_lifted os started H enc)
#print axioms healthMany_holds
end Go.Proofs.Ytdhkbephofnfdaa

