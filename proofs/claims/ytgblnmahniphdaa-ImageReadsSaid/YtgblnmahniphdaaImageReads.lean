/- ImageReads: what all bytes are as an image, or that they are none. No condition. -/
import Derived.Test.YtgblnmahniphdaaImgRd
import Derived.Test.YtgblnmahniphdaaRow
namespace Go.Proofs.Ytgblnmahniphdaa
open Go.RowKit Go.ChangeShapes Go.WideShapes Go.ChangeAt Go.Deep

set_option maxRecDepth 100000 in
theorem imageReads_walk : LawWalk 8 Try.f8 := by
  intro H enc W base args ds p hval hA
  rw [Try.params8] at hA hval
  obtain ⟨l⟩ := args
  obtain ⟨v0, l0, d0, e0, p0, q0, rfl, rfl, rfl, h0, hA0⟩ := trodAll_cons hA
  obtain ⟨rfl, rfl, rfl⟩ := trodAll_nil hA0
  obtain ⟨f0, t0⟩ := Trod_slice Try.underlying37 (hval 0 37 v0 rfl rfl) h0
  obtain ⟨ao, m, c, xs, rfl, hL, ho, hx⟩ := read_bytes t0
  by_cases h : m ≤ 20000
  · exact imageReads_in W hL hx h
  · exact imageReads_out W (by omega)

set_option maxRecDepth 100000 in
theorem imageReads_lifted (os : Os) (started : os.Started) (H : Type) (enc : TypeId × Value → H) :
    ReturnsInHanded {} Try.checked os 8 .any (Rows.imageReadsSpec.pre6 enc Try.prog Try.f8 Rows.imageReadsRow.domain false) (Rows.imageReadsSpec.post enc Try.prog Try.f8 false true false false) :=
  law_lifted (s := Rows.imageReadsSpec) Try.func8 (by kernel_rfl) rfl (by kernel_rfl) (by kernel_rfl)
    (fun H ds h => by
      match ds, h with
      | [d0], _ => rfl)
    imageReads_walk os started H enc
    (ChangeSpec.witness6 (enc := enc) (C := Try.checked) false ⟨#[], #[.slice none 0 0], []⟩ 8 (by kernel_rfl) (by kernel_rfl) (by kernel_rfl) (by kernel_rfl))

set_option maxRecDepth 100000 in
/-- THE STATEMENT. -/
theorem imageReads_holds : Rows.ImageReadsSaid :=
  OpenClaim.holds_of_wide 8 Try.f8 rfl rfl rfl rfl rfl rfl rfl ⟨rfl, rfl, rfl, rfl, rfl⟩ rfl rfl rfl rfl rfl (by kernel_rfl) Try.func8 (by kernel_rfl)
    (of_decide_eq_true (by kernel_rfl)) (by unfold Func.isWrapper; first | (rw [if_pos (by decide +kernel)]; kernel_rfl) | (rw [if_neg (by decide +kernel)]; exact ⟨rfl, rfl⟩))
    (fun os started H enc _ => imageReads_lifted os started H enc)
#print axioms imageReads_holds
end Go.Proofs.Ytgblnmahniphdaa
