/- PortsSample: of a channel of samples the last message is read, as often as one likes. No condition. -/
import Derived.Test.YtiedfglkjkaefaaPoSmp
import Derived.Test.YtiedfglkjkaefaaRow
namespace Go.Proofs.Ytiedfglkjkaefaa
open Go.RowKit Go.ChangeShapes Go.WideShapes Go.ChangeAt Go.Deep

set_option maxRecDepth 100000 in
theorem portsSample_walk : LawWalk 4 Try.f4 := by
  intro H enc W base args ds p hval hA
  rw [Try.params4] at hA hval
  obtain ⟨l⟩ := args
  obtain ⟨v0, l0, d0, e0, p0, q0, rfl, rfl, rfl, h0, hA0⟩ := trodAll_cons hA
  obtain ⟨v1, l1, d1, e1, p1, q1, rfl, rfl, rfl, h1, hA1⟩ := trodAll_cons hA0
  obtain ⟨rfl, rfl, rfl⟩ := trodAll_nil hA1
  obtain ⟨ao0, c0, l0s, rfl, hL0, hB0, hO0⟩ := open_bb (hval 0 40 v0 rfl rfl) h0
  obtain ⟨m0, hm0⟩ : ∃ m, l0s.length = m := ⟨_, rfl⟩
  rw [hm0] at hL0 hO0 ⊢
  obtain ⟨a1, rfl, rfl, rfl, w1⟩ := open_int Try.underlying3 (hval 1 3 v1 rfl rfl) h1
  by_cases h : m0 ≤ 50 ∧ 1 ≤ a1 ∧ a1 ≤ 20
  · obtain ⟨reads, rfl⟩ := Int.eq_ofNat_of_zero_le (show 0 ≤ a1 by omega)
    exact sample_in reads W hm0 hL0 hB0 hO0 ⟨h.1, by omega, by omega⟩
  · exact sample_out a1 W h

set_option maxRecDepth 100000 in
theorem portsSample_lifted (os : Os) (started : os.Started) (H : Type) (enc : TypeId × Value → H) :
    ReturnsInHanded {} Try.checked os 4 .any (Rows.portsSampleSpec.pre6 enc Try.prog Try.f4 Rows.portsSampleRow.domain false) (Rows.portsSampleSpec.post enc Try.prog Try.f4 false true false false) :=
  law_lifted (s := Rows.portsSampleSpec) Try.func4 (by kernel_rfl) rfl (by kernel_rfl) (by kernel_rfl)
    (fun H ds h => by
      match ds, h with
      | [d0, d1], _ => rfl)
    portsSample_walk os started H enc
    (ChangeSpec.witness6 (enc := enc) (C := Try.checked) false ⟨#[], #[.slice none 0 0, .int .i64 0], []⟩ 8 (by kernel_rfl) (by kernel_rfl) (by kernel_rfl) (by kernel_rfl))

set_option maxRecDepth 100000 in
/-- THE STATEMENT. -/
theorem portsSample_holds : Rows.PortsSampleSaid :=
  OpenClaim.holds_of_wide 4 Try.f4 rfl rfl rfl rfl rfl rfl rfl ⟨rfl, rfl, rfl, rfl, rfl⟩ rfl rfl rfl rfl rfl (by kernel_rfl) Try.func4 (by kernel_rfl)
    (of_decide_eq_true (by kernel_rfl)) (by unfold Func.isWrapper; first | (rw [if_pos (by decide +kernel)]; kernel_rfl) | (rw [if_neg (by decide +kernel)]; exact ⟨rfl, rfl⟩))
    (fun os started H enc _ => portsSample_lifted os started H enc)
#print axioms portsSample_holds
end Go.Proofs.Ytiedfglkjkaefaa

