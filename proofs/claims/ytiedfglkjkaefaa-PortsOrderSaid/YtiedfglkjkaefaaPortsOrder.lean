/- PortsOrder: messages come in the order in which they were written, none lost, none twice; a full queue refuses and an empty one has none. No condition. -/
import Derived.Test.YtiedfglkjkaefaaPoOrd
import Derived.Test.YtiedfglkjkaefaaRow
namespace Go.Proofs.Ytiedfglkjkaefaa
open Go.RowKit Go.ChangeShapes Go.WideShapes Go.ChangeAt Go.Deep

set_option maxRecDepth 100000 in
theorem portsOrder_walk : LawWalk 6 Try.f6 := by
  intro H enc W base args ds p hval hA
  rw [Try.params6] at hA hval
  obtain ⟨l⟩ := args
  obtain ⟨v0, l0, d0, e0, p0, q0, rfl, rfl, rfl, h0, hA0⟩ := trodAll_cons hA
  obtain ⟨v1, l1, d1, e1, p1, q1, rfl, rfl, rfl, h1, hA1⟩ := trodAll_cons hA0
  obtain ⟨rfl, rfl, rfl⟩ := trodAll_nil hA1
  obtain ⟨a0, rfl, rfl, rfl, w0⟩ := open_int Try.underlying3 (hval 0 3 v0 rfl rfl) h0
  obtain ⟨ao1, c1, l1s, rfl, hL1, hO1⟩ := open_bools (hval 1 44 v1 rfl rfl) h1
  obtain ⟨m1, hm1⟩ : ∃ m, l1s.length = m := ⟨_, rfl⟩
  rw [hm1] at hL1 hO1 ⊢
  by_cases h : m1 ≤ 300 ∧ 1 ≤ a0 ∧ a0 ≤ 16
  · exact order_in a0 W hm1 hL1 hO1 h
  · exact order_out a0 W h

set_option maxRecDepth 100000 in
theorem portsOrder_lifted (os : Os) (started : os.Started) (H : Type) (enc : TypeId × Value → H) :
    ReturnsInHanded {} Try.checked os 6 .any (Rows.portsOrderSpec.pre6 enc Try.prog Try.f6 Rows.portsOrderRow.domain false) (Rows.portsOrderSpec.post enc Try.prog Try.f6 false true false false) :=
  law_lifted (s := Rows.portsOrderSpec) Try.func6 (by kernel_rfl) rfl (by kernel_rfl) (by kernel_rfl)
    (fun H ds h => by
      match ds, h with
      | [d0, d1], _ => rfl)
    portsOrder_walk os started H enc
    (ChangeSpec.witness6 (enc := enc) (C := Try.checked) false ⟨#[], #[.int .i64 0, .slice none 0 0], []⟩ 8 (by kernel_rfl) (by kernel_rfl) (by kernel_rfl) (by kernel_rfl))

set_option maxRecDepth 100000 in
/-- THE STATEMENT. -/
theorem portsOrder_holds : Rows.PortsOrderSaid :=
  OpenClaim.holds_of_wide 6 Try.f6 rfl rfl rfl rfl rfl rfl rfl ⟨rfl, rfl, rfl, rfl, rfl⟩ rfl rfl rfl rfl rfl (by kernel_rfl) Try.func6 (by kernel_rfl)
    (of_decide_eq_true (by kernel_rfl)) (by unfold Func.isWrapper; first | (rw [if_pos (by decide +kernel)]; kernel_rfl) | (rw [if_neg (by decide +kernel)]; exact ⟨rfl, rfl⟩))
    (fun os started H enc _ => portsOrder_lifted os started H enc)
#print axioms portsOrder_holds
end Go.Proofs.Ytiedfglkjkaefaa

