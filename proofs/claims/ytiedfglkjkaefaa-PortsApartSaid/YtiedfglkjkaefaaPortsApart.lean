/- PortsApart: what goes through one channel turns nothing of the others. No condition. -/
import Derived.Test.YtiedfglkjkaefaaPoApart
import Derived.Test.YtiedfglkjkaefaaRow
namespace Go.Proofs.Ytiedfglkjkaefaa
open Go.RowKit Go.ChangeShapes Go.WideShapes Go.ChangeAt Go.Deep

set_option maxRecDepth 100000 in
theorem portsApart_walk : LawWalk 3 Try.f3 := by
  intro H enc W base args ds p hval hA
  rw [Try.params3] at hA hval
  obtain ⟨l⟩ := args
  obtain ⟨v0, l0, d0, e0, p0, q0, rfl, rfl, rfl, h0, hA0⟩ := trodAll_cons hA
  obtain ⟨v1, l1, d1, e1, p1, q1, rfl, rfl, rfl, h1, hA1⟩ := trodAll_cons hA0
  obtain ⟨v2, l2, d2, e2, p2, q2, rfl, rfl, rfl, h2, hA2⟩ := trodAll_cons hA1
  obtain ⟨rfl, rfl, rfl⟩ := trodAll_nil hA2
  obtain ⟨ao0, c0, xs0, rfl, hL0, hB0, hO0⟩ := open_bytes (hval 0 22 v0 rfl rfl) h0
  obtain ⟨m0, hm0⟩ : ∃ m, xs0.length = m := ⟨_, rfl⟩
  rw [hm0] at hL0 hO0 ⊢
  have A0 : Arg W ao0 m0 c0 xs0 := ⟨hm0, hL0.src, hO0, hB0⟩
  have M0 : m0 ≤ maxLen := Nat.le_trans hL0.le hL0.mx
  obtain ⟨ao1, c1, xs1, rfl, hL1, hB1, hO1⟩ := open_bytes (hval 1 22 v1 rfl rfl) h1
  obtain ⟨m1, hm1⟩ : ∃ m, xs1.length = m := ⟨_, rfl⟩
  rw [hm1] at hL1 hO1 ⊢
  have A1 : Arg W ao1 m1 c1 xs1 := ⟨hm1, hL1.src, hO1, hB1⟩
  have M1 : m1 ≤ maxLen := Nat.le_trans hL1.le hL1.mx
  obtain ⟨ao2, c2, xs2, rfl, hL2, hB2, hO2⟩ := open_bytes (hval 2 22 v2 rfl rfl) h2
  obtain ⟨m2, hm2⟩ : ∃ m, xs2.length = m := ⟨_, rfl⟩
  rw [hm2] at hL2 hO2 ⊢
  have A2 : Arg W ao2 m2 c2 xs2 := ⟨hm2, hL2.src, hO2, hB2⟩
  have M2 : m2 ≤ maxLen := Nat.le_trans hL2.le hL2.mx
  by_cases h : 0 < m0 ∧ m0 ≤ 16 ∧ 0 < m1 ∧ m1 ≤ 16 ∧ 0 < m2 ∧ m2 ≤ 16
  · exact apart_in W A0 A1 A2 h
  · exact apart_out W h M0 M1 M2

set_option maxRecDepth 100000 in
theorem portsApart_lifted (os : Os) (started : os.Started) (H : Type) (enc : TypeId × Value → H) :
    ReturnsInHanded {} Try.checked os 3 .any (Rows.portsApartSpec.pre6 enc Try.prog Try.f3 Rows.portsApartRow.domain false) (Rows.portsApartSpec.post enc Try.prog Try.f3 false true false false) :=
  law_lifted (s := Rows.portsApartSpec) Try.func3 (by kernel_rfl) rfl (by kernel_rfl) (by kernel_rfl)
    (fun H ds h => by
      match ds, h with
      | [d0, d1, d2], _ => rfl)
    portsApart_walk os started H enc
    (ChangeSpec.witness6 (enc := enc) (C := Try.checked) false ⟨#[], #[.slice none 0 0, .slice none 0 0, .slice none 0 0], []⟩ 8 (by kernel_rfl) (by kernel_rfl) (by kernel_rfl) (by kernel_rfl))

set_option maxRecDepth 100000 in
/-- THE STATEMENT. -/
theorem portsApart_holds : Rows.PortsApartSaid :=
  OpenClaim.holds_of_wide 3 Try.f3 rfl rfl rfl rfl rfl rfl rfl ⟨rfl, rfl, rfl, rfl, rfl⟩ rfl rfl rfl rfl rfl (by kernel_rfl) Try.func3 (by kernel_rfl)
    (of_decide_eq_true (by kernel_rfl)) (by unfold Func.isWrapper; first | (rw [if_pos (by decide +kernel)]; kernel_rfl) | (rw [if_neg (by decide +kernel)]; exact ⟨rfl, rfl⟩))
    (fun os started H enc _ => portsApart_lifted os started H enc)
#print axioms portsApart_holds
end Go.Proofs.Ytiedfglkjkaefaa

