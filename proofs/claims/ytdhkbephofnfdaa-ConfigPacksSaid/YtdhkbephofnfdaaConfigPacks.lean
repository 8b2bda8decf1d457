/- ConfigPacks: whether every configuration is one, its bytes, and that these are read again. No condition. -/
import Derived.Test.YtdhkbephofnfdaaCfgPk
import Derived.Test.YtdhkbephofnfdaaCfgArg
import Derived.Test.YtdhkbephofnfdaaRow
namespace Go.Proofs.Ytdhkbephofnfdaa
open Go.RowKit Go.ChangeShapes Go.WideShapes Go.ChangeAt Go.Deep

theorem small_of {C : Cfg} (h : bigV C = false) : C.parts.length ≤ 20 ∧ C.chans.length ≤ 40 ∧ C.wins.length ≤ 60 := by
  unfold bigV at h
  simp only [Bool.or_eq_false_iff, decide_eq_false_iff_not] at h
  omega

set_option maxRecDepth 100000 in
theorem configPacks_walk : LawWalk 12 Try.f12 := by
  intro H enc W base args ds p hval hA
  rw [Try.params12] at hA hval
  obtain ⟨l⟩ := args
  obtain ⟨v0, l0, d0, e0, p0, q0, rfl, rfl, rfl, h0, hA0⟩ := trodAll_cons hA
  obtain ⟨v1, l1, d1, e1, p1, q1, rfl, rfl, rfl, h1, hA1⟩ := trodAll_cons hA0
  obtain ⟨rfl, rfl, rfl⟩ := trodAll_nil hA1
  obtain ⟨C, ap, ac, aw, cp, cc, cw, rfl, CA, -⟩ := open_cfg (hval 0 27 v0 rfl rfl) h0
  obtain ⟨O, ap', ac', aw', cp', cc', cw', rfl, CB, -⟩ := open_cfg (hval 1 27 v1 rfl rfl) h1
  cases hC : bigV C
  · cases hO : bigV O
    · obtain ⟨s1, s2, s3⟩ := small_of hC
      exact packs_in W CA CB ⟨rfl, rfl, rfl, rfl, rfl, rfl⟩ ⟨rfl, rfl, rfl, rfl, rfl, rfl⟩ hC hO s1 s2 s3
    · exact packs_out W CA CB ⟨rfl, rfl, rfl, rfl, rfl, rfl⟩ ⟨rfl, rfl, rfl, rfl, rfl, rfl⟩ (.inr ⟨hC, hO⟩)
  · exact packs_out W CA CB ⟨rfl, rfl, rfl, rfl, rfl, rfl⟩ ⟨rfl, rfl, rfl, rfl, rfl, rfl⟩ (.inl hC)

set_option maxRecDepth 100000 in
theorem configPacks_lifted (os : Os) (started : os.Started) (H : Type) (enc : TypeId × Value → H) :
    ReturnsInHanded {} Try.checked os 12 .any (Rows.configPacksSpec.pre6 enc Try.prog Try.f12 Rows.configPacksRow.domain false) (Rows.configPacksSpec.post enc Try.prog Try.f12 false true false false) :=
  law_lifted (s := Rows.configPacksSpec) Try.func12 (by kernel_rfl) rfl (by kernel_rfl) (by kernel_rfl)
    (fun H ds h => by
      match ds, h with
      | [d0, d1], _ => rfl)
    configPacks_walk os started H enc
    (ChangeSpec.witness6 (enc := enc) (C := Try.checked) false ⟨#[], #[.agg #[.int .i64 0, .int .i64 0, .int .i64 0, .slice none 0 0, .slice none 0 0, .slice none 0 0], .agg #[.int .i64 0, .int .i64 0, .int .i64 0, .slice none 0 0, .slice none 0 0, .slice none 0 0]], []⟩ 8 (by kernel_rfl) (by kernel_rfl) (by kernel_rfl) (by kernel_rfl))

set_option maxRecDepth 100000 in
/-- THE STATEMENT. -/
theorem configPacks_holds : Rows.ConfigPacksSaid :=
  OpenClaim.holds_of_wide 12 Try.f12 rfl rfl rfl rfl rfl rfl rfl ⟨rfl, rfl, rfl, rfl, rfl⟩ rfl rfl rfl rfl rfl (by kernel_rfl) Try.func12 (by kernel_rfl)
    (of_decide_eq_true (by kernel_rfl)) (by unfold Func.isWrapper; first | (rw [if_pos (by decide +kernel)]; kernel_rfl) | (rw [if_neg (by decide +kernel)]; exact ⟨rfl, rfl⟩))
    (fun os started H enc _ => configPacks_lifted os started H enc)
#print axioms configPacks_holds
end Go.Proofs.Ytdhkbephofnfdaa
