/- PortsPlay: the code's Net and the reference's answer alike at every run of moves. No condition. -/
import Derived.Test.YtiedfglkjkaefaaPoPl
import Derived.Test.YtiedfglkjkaefaaRow
namespace Go.Proofs.Ytiedfglkjkaefaa
open Go.RowKit Go.ChangeShapes Go.WideShapes Go.ChangeAt Go.Deep

set_option maxRecDepth 100000 in
theorem portsPlay_walk : LawWalk 8 Try.f8 := by
  intro H enc W base args ds p hval hA
  rw [Try.params8] at hA hval
  obtain ⟨l⟩ := args
  obtain ⟨v0, l0, d0, e0, p0, q0, rfl, rfl, rfl, h0, hA0⟩ := trodAll_cons hA
  obtain ⟨v1, l1, d1, e1, p1, q1, rfl, rfl, rfl, h1, hA1⟩ := trodAll_cons hA0
  obtain ⟨rfl, rfl, rfl⟩ := trodAll_nil hA1
  obtain ⟨C, ap, ac, aw, cp, cc, cw, rfl, hC, hO⟩ := open_cfg (hval 0 32 v0 rfl rfl) h0
  obtain ⟨ao1, c1, l1s, rfl, hL1, hB1, hO1⟩ := open_pacts (hval 1 54 v1 rfl rfl) h1
  obtain ⟨m1, hm1⟩ : ∃ m, l1s.length = m := ⟨_, rfl⟩
  rw [hm1] at hL1 hO1 ⊢
  have hlm : m1 ≤ maxLen := Nat.le_trans hL1.le hL1.mx
  unfold cfgCells
  obtain ⟨pg, h1⟩ : ∃ x, C.pages = x := ⟨_, rfl⟩
  obtain ⟨mj, h2⟩ : ∃ x, C.major = x := ⟨_, rfl⟩
  obtain ⟨sw, h3⟩ : ∃ x, C.switch = x := ⟨_, rfl⟩
  obtain ⟨np, h4⟩ : ∃ x, C.parts.length = x := ⟨_, rfl⟩
  obtain ⟨nc, h5⟩ : ∃ x, C.chans.length = x := ⟨_, rfl⟩
  obtain ⟨nw, h6⟩ : ∃ x, C.wins.length = x := ⟨_, rfl⟩
  have NA : NumsOf C pg mj sw np nc nw := ⟨h1, h2, h3, h4, h5, h6⟩
  rw [h1, h2, h3, h4, h5, h6]
  cases hb : bigV C
  · by_cases hl : m1 ≤ 200
    · by_cases h0 : chk C = 0
      · exact plays_in W hC NA hlm hb hl h0 hm1 hL1 hO1 hB1 (fun ad e hn => hO.cs ad e (by rw [h5]; exact hn))
      · exact plays_no W hC NA hb hl h0
    · exact plays_out W hC NA (.inr ⟨hb, by omega⟩)
  · exact plays_out W hC NA (.inl hb)


set_option maxRecDepth 100000 in
theorem portsPlay_lifted (os : Os) (started : os.Started) (H : Type) (enc : TypeId × Value → H) :
    ReturnsInHanded {} Try.checked os 8 .any (Rows.portsPlaySpec.pre6 enc Try.prog Try.f8 Rows.portsPlayRow.domain false) (Rows.portsPlaySpec.post enc Try.prog Try.f8 false true false false) :=
  law_lifted (s := Rows.portsPlaySpec) Try.func8 (by kernel_rfl) rfl (by kernel_rfl) (by kernel_rfl)
    (fun H ds h => by
      match ds, h with
      | [d0, d1], _ => rfl)
    portsPlay_walk os started H enc
    (ChangeSpec.witness6 (enc := enc) (C := Try.checked) false ⟨#[], #[.agg #[.int .i64 0, .int .i64 0, .int .i64 0, .slice none 0 0, .slice none 0 0, .slice none 0 0], .slice none 0 0], []⟩ 8 (by kernel_rfl) (by kernel_rfl) (by kernel_rfl) (by kernel_rfl))

set_option maxRecDepth 100000 in
/-- THE STATEMENT. -/
theorem portsPlay_holds : Rows.PortsPlaySaid :=
  OpenClaim.holds_of_wide 8 Try.f8 rfl rfl rfl rfl rfl rfl rfl ⟨rfl, rfl, rfl, rfl, rfl⟩ rfl rfl rfl rfl rfl (by kernel_rfl) Try.func8 (by kernel_rfl)
    (of_decide_eq_true (by kernel_rfl)) (by unfold Func.isWrapper; first | (rw [if_pos (by decide +kernel)]; kernel_rfl) | (rw [if_neg (by decide +kernel)]; exact ⟨rfl, rfl⟩))
    (fun os started H enc _ => portsPlay_lifted os started H enc)
#print axioms portsPlay_holds
end Go.Proofs.Ytiedfglkjkaefaa
