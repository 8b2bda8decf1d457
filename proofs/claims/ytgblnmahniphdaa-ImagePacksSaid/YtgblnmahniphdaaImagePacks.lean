/- ImagePacks: whether every image is one, its bytes, and that these are read again. No condition. -/
import Derived.Test.YtgblnmahniphdaaImgPk
import Derived.Test.YtgblnmahniphdaaRow
namespace Go.Proofs.Ytgblnmahniphdaa
open Go.RowKit Go.ChangeShapes Go.WideShapes Go.ChangeAt Go.Deep

set_option maxRecDepth 100000 in
theorem imagePacks_walk : LawWalk 7 Try.f7 := by
  intro H enc W base args ds p hval hA
  rw [Try.params7] at hA hval
  obtain ⟨l⟩ := args
  obtain ⟨v0, l0, d0, e0, p0, q0, rfl, rfl, rfl, h0, hA0⟩ := trodAll_cons hA
  obtain ⟨v1, l1, d1, e1, p1, q1, rfl, rfl, rfl, h1, hA1⟩ := trodAll_cons hA0
  obtain ⟨rfl, rfl, rfl⟩ := trodAll_nil hA1
  obtain ⟨e, ao, m, c, xs, rfl, hL, ho, hx⟩ := open_img (hval 0 39 v0 rfl rfl) h0
  obtain ⟨f, bo, n, d, ys, rfl, hM, ho2, hy⟩ := open_img (hval 1 39 v1 rfl rfl) h1
  by_cases h : 20000 < m ∨ 20000 < n
  · exact packs_out e f m c n d ao bo W h
  · exact packs_in e f m c n d ao bo xs ys W hL hx hM hy (by omega) (by omega)

set_option maxRecDepth 100000 in
theorem imagePacks_lifted (os : Os) (started : os.Started) (H : Type) (enc : TypeId × Value → H) :
    ReturnsInHanded {} Try.checked os 7 .any (Rows.imagePacksSpec.pre6 enc Try.prog Try.f7 Rows.imagePacksRow.domain false) (Rows.imagePacksSpec.post enc Try.prog Try.f7 false true false false) :=
  law_lifted (s := Rows.imagePacksSpec) Try.func7 (by kernel_rfl) rfl (by kernel_rfl) (by kernel_rfl)
    (fun H ds h => by
      match ds, h with
      | [d0, d1], _ => rfl)
    imagePacks_walk os started H enc
    (ChangeSpec.witness6 (enc := enc) (C := Try.checked) false ⟨#[], #[.agg #[.int .i64 0, .slice none 0 0], .agg #[.int .i64 0, .slice none 0 0]], []⟩ 8 (by kernel_rfl) (by kernel_rfl) (by kernel_rfl) (by kernel_rfl))

set_option maxRecDepth 100000 in
/-- THE STATEMENT. -/
theorem imagePacks_holds : Rows.ImagePacksSaid :=
  OpenClaim.holds_of_wide 7 Try.f7 rfl rfl rfl rfl rfl rfl rfl ⟨rfl, rfl, rfl, rfl, rfl⟩ rfl rfl rfl rfl rfl (by kernel_rfl) Try.func7 (by kernel_rfl)
    (of_decide_eq_true (by kernel_rfl)) (by unfold Func.isWrapper; first | (rw [if_pos (by decide +kernel)]; kernel_rfl) | (rw [if_neg (by decide +kernel)]; exact ⟨rfl, rfl⟩))
    (fun os started H enc _ => imagePacks_lifted os started H enc)
#print axioms imagePacks_holds
end Go.Proofs.Ytgblnmahniphdaa
