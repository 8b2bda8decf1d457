/- PortsShort: a message that is longer than what may be read stays, and one just as long is read. No condition. -/
import Derived.Test.YtiedfglkjkaefaaPoShort
import Derived.Test.YtiedfglkjkaefaaRow
namespace Go.Proofs.Ytiedfglkjkaefaa
open Go.RowKit Go.ChangeShapes Go.WideShapes Go.ChangeAt Go.Deep

set_option maxRecDepth 100000 in
theorem portsShort_walk : LawWalk 5 Try.f5 := by
  intro H enc W base args ds p hval hA
  rw [Try.params5] at hA hval
  obtain ⟨l⟩ := args
  obtain ⟨v0, l0, d0, e0, p0, q0, rfl, rfl, rfl, h0, hA0⟩ := trodAll_cons hA
  obtain ⟨v1, l1, d1, e1, p1, q1, rfl, rfl, rfl, h1, hA1⟩ := trodAll_cons hA0
  obtain ⟨v2, l2, d2, e2, p2, q2, rfl, rfl, rfl, h2, hA2⟩ := trodAll_cons hA1
  obtain ⟨rfl, rfl, rfl⟩ := trodAll_nil hA2
  obtain ⟨ao0, c0, xs0, rfl, hL0, hB0, hO0⟩ := open_bytes (hval 0 22 v0 rfl rfl) h0
  obtain ⟨m0, hm0⟩ : ∃ m, xs0.length = m := ⟨_, rfl⟩
  rw [hm0] at hL0 hO0 ⊢
  have A0 : Arg W ao0 m0 c0 xs0 := ⟨hm0, hL0.src, hO0, hB0⟩
  have M0 : m0 ≤ maxLen := Nat.le_trans hL0.le hL0.mx
  obtain ⟨a1, rfl, rfl, rfl, w1⟩ := open_int Try.underlying3 (hval 1 3 v1 rfl rfl) h1
  obtain ⟨a2, rfl, rfl, rfl⟩ := open_bool Try.underlying4 (hval 2 4 v2 rfl rfl) h2
  by_cases h : 0 < m0 ∧ m0 ≤ 64
  · by_cases hm : a1 < (m0 : Int)
    · cases a2
      · exact short_false_long a1 W A0 h hm
      · exact short_true_long a1 W A0 h hm
    · cases a2
      · exact short_false_fits a1 W A0 h (by omega)
      · exact short_true_fits a1 W A0 h (by omega)
  · exact short_out a1 a2 W h

set_option maxRecDepth 100000 in
theorem portsShort_lifted (os : Os) (started : os.Started) (H : Type) (enc : TypeId × Value → H) :
    ReturnsInHanded {} Try.checked os 5 .any (Rows.portsShortSpec.pre6 enc Try.prog Try.f5 Rows.portsShortRow.domain false) (Rows.portsShortSpec.post enc Try.prog Try.f5 false true false false) :=
  law_lifted (s := Rows.portsShortSpec) Try.func5 (by kernel_rfl) rfl (by kernel_rfl) (by kernel_rfl)
    (fun H ds h => by
      match ds, h with
      | [d0, d1, d2], _ => rfl)
    portsShort_walk os started H enc
    (ChangeSpec.witness6 (enc := enc) (C := Try.checked) false ⟨#[], #[.slice none 0 0, .int .i64 0, .bool false], []⟩ 8 (by kernel_rfl) (by kernel_rfl) (by kernel_rfl) (by kernel_rfl))

set_option maxRecDepth 100000 in
/-- THE STATEMENT. -/
theorem portsShort_holds : Rows.PortsShortSaid :=
  OpenClaim.holds_of_wide 5 Try.f5 rfl rfl rfl rfl rfl rfl rfl ⟨rfl, rfl, rfl, rfl, rfl⟩ rfl rfl rfl rfl rfl (by kernel_rfl) Try.func5 (by kernel_rfl)
    (of_decide_eq_true (by kernel_rfl)) (by unfold Func.isWrapper; first | (rw [if_pos (by decide +kernel)]; kernel_rfl) | (rw [if_neg (by decide +kernel)]; exact ⟨rfl, rfl⟩))
    (fun os started H enc _ => portsShort_lifted os started H enc)
#print axioms portsShort_holds
end Go.Proofs.Ytiedfglkjkaefaa

