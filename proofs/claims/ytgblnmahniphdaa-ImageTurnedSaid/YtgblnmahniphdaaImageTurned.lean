/- ImageTurned: no byte of a packed image may be another one. No condition. -/
import Derived.Test.YtgblnmahniphdaaImgTu
import Derived.Test.YtgblnmahniphdaaRow
namespace Go.Proofs.Ytgblnmahniphdaa
open Go.RowKit Go.ChangeShapes Go.WideShapes Go.ChangeAt Go.Deep

set_option maxRecDepth 100000 in
theorem imageTurned_walk : LawWalk 9 Try.f9 := by
  intro H enc W base args ds p hval hA
  rw [Try.params9] at hA hval
  obtain ⟨l⟩ := args
  obtain ⟨v0, l0, d0, e0, p0, q0, rfl, rfl, rfl, h0, hA0⟩ := trodAll_cons hA
  obtain ⟨v1, l1, d1, e1, p1, q1, rfl, rfl, rfl, h1, hA1⟩ := trodAll_cons hA0
  obtain ⟨v2, l2, d2, e2, p2, q2, rfl, rfl, rfl, h2, hA2⟩ := trodAll_cons hA1
  obtain ⟨rfl, rfl, rfl⟩ := trodAll_nil hA2
  obtain ⟨e, ao, m, c, xs, rfl, hL, ho, hx⟩ := open_img (hval 0 39 v0 rfl rfl) h0
  obtain ⟨a1, rfl, rfl, rfl, w1⟩ := open_int Try.underlying3 (hval 1 3 v1 rfl rfl) h1
  obtain ⟨a2, rfl, rfl, rfl, w2⟩ := open_int Try.underlying5 (hval 2 5 v2 rfl rfl) h2
  have hy : 0 ≤ a2 ∧ a2 < 256 := by simp [Lit.wf, IntKind.min, IntKind.max, IntKind.signed, IntKind.bits] at w2; omega
  by_cases h : 5000 < m ∨ ¬ chkI e m = 0 ∨ a1 < 0 ∨ a2 = 0
  · exact turned_out e a1 a2 m c ao W h
  · rw [not_or, not_or, not_or, Decidable.not_not] at h
    exact turned_in e a1 a2 m c ao xs W hL hx hy h.1 h.2.1 h.2.2.1 h.2.2.2

set_option maxRecDepth 100000 in
theorem imageTurned_lifted (os : Os) (started : os.Started) (H : Type) (enc : TypeId × Value → H) :
    ReturnsInHanded {} Try.checked os 9 .any (Rows.imageTurnedSpec.pre6 enc Try.prog Try.f9 Rows.imageTurnedRow.domain false) (Rows.imageTurnedSpec.post enc Try.prog Try.f9 false true false false) :=
  law_lifted (s := Rows.imageTurnedSpec) Try.func9 (by kernel_rfl) rfl (by kernel_rfl) (by kernel_rfl)
    (fun H ds h => by
      match ds, h with
      | [d0, d1, d2], _ => rfl)
    imageTurned_walk os started H enc
    (ChangeSpec.witness6 (enc := enc) (C := Try.checked) false ⟨#[], #[.agg #[.int .i64 0, .slice none 0 0], .int .i64 0, .int .u8 0], []⟩ 8 (by kernel_rfl) (by kernel_rfl) (by kernel_rfl) (by kernel_rfl))

set_option maxRecDepth 100000 in
/-- THE STATEMENT. -/
theorem imageTurned_holds : Rows.ImageTurnedSaid :=
  OpenClaim.holds_of_wide 9 Try.f9 rfl rfl rfl rfl rfl rfl rfl ⟨rfl, rfl, rfl, rfl, rfl⟩ rfl rfl rfl rfl rfl (by kernel_rfl) Try.func9 (by kernel_rfl)
    (of_decide_eq_true (by kernel_rfl)) (by unfold Func.isWrapper; first | (rw [if_pos (by decide +kernel)]; kernel_rfl) | (rw [if_neg (by decide +kernel)]; exact ⟨rfl, rfl⟩))
    (fun os started H enc _ => imageTurned_lifted os started H enc)
#print axioms imageTurned_holds
end Go.Proofs.Ytgblnmahniphdaa
