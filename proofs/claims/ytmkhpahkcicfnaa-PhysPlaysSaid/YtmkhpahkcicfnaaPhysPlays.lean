/- PhysPlays: what every row of calls makes of a memory, and what each answers. No condition. -/
import Derived.Test.YtmkhpahkcicfnaaPhysPl
import Derived.Test.YtmkhpahkcicfnaaRow
namespace Go.Proofs.Ytmkhpahkcicfnaa
open Go.RowKit Go.ChangeShapes Go.WideShapes Go.ChangeAt

set_option maxRecDepth 100000 in
theorem physPlays_walk : LawWalk 5 Try.f5 := by
  intro H enc W base args ds p hval hA
  rw [Try.params5] at hA hval
  obtain ⟨v0, v1, d0, d1, p0, p1, rfl, rfl, rfl, h0, h1⟩ := trodAll_two hA
  obtain ⟨a0, rfl, rfl, rfl, w0⟩ := open_int Try.underlying3 (hval 0 3 v0 rfl rfl) h0
  obtain ⟨ao, cap, l, rfl, hL, hok⟩ := open_bacts (hval 1 32 v1 rfl rfl) h1
  by_cases h : l.length ≤ 100 ∧ a0 ≤ 300
  · exact plays_in a0 W hL hok h.1 h.2
  · exact plays_out a0 W hL h

set_option maxRecDepth 100000 in
theorem physPlays_lifted (os : Os) (started : os.Started) (H : Type) (enc : TypeId × Value → H) :
    ReturnsInHanded {} Try.checked os 5 .any (Rows.physPlaysSpec.pre6 enc Try.prog Try.f5 Rows.physPlaysRow.domain false) (Rows.physPlaysSpec.post enc Try.prog Try.f5 false true false false) :=
  law_lifted (s := Rows.physPlaysSpec) Try.func5 (by kernel_rfl) rfl (by kernel_rfl) (by kernel_rfl)
    (fun H ds h => by
      match ds, h with
      | [d0, d1], _ => rfl)
    physPlays_walk os started H enc
    (ChangeSpec.witness6 (enc := enc) (C := Try.checked) false ⟨#[], #[.int .i64 0, .slice none 0 0], []⟩ 8 (by kernel_rfl) (by kernel_rfl) (by kernel_rfl) (by kernel_rfl))

set_option maxRecDepth 100000 in
/-- THE STATEMENT. -/
theorem physPlays_holds : Rows.PhysPlaysSaid :=
  OpenClaim.holds_of_wide 5 Try.f5 rfl rfl rfl rfl rfl rfl rfl ⟨rfl, rfl, rfl, rfl, rfl⟩ rfl rfl rfl rfl rfl (by kernel_rfl) Try.func5 (by kernel_rfl)
    (of_decide_eq_true (by kernel_rfl)) (by unfold Func.isWrapper; first | (rw [if_pos (by decide +kernel)]; kernel_rfl) | (rw [if_neg (by decide +kernel)]; exact ⟨rfl, rfl⟩))
    (fun os started H enc _ => physPlays_lifted os started H enc)
#print axioms physPlays_holds
end Go.Proofs.Ytmkhpahkcicfnaa
