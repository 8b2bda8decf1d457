/- HealthSees: what is to be done at every look, and which events there were. No condition. -/
import Derived.Test.YtdhkbephofnfdaaHSees
import Derived.Test.YtdhkbephofnfdaaCfgArg
import Derived.Test.YtdhkbephofnfdaaRead
import Derived.Test.YtdhkbephofnfdaaRow
namespace Go.Proofs.Ytdhkbephofnfdaa
open Go.RowKit Go.ChangeShapes Go.WideShapes Go.ChangeAt Go.Deep

theorem read_look {H : Type} {enc : TypeId × Value → H} {W : World} {base : Nat} {sp : Nat → Bool} {hd : Bool} {fuel : Nat} {cs : List Value} {x : DataW H × List MemPlace} (hc : cs.length = 4) (h : DataW.trod enc Try.prog W base sp hd fuel 58 cs = some x) : ∃ p : LookD, lookCells p = cs ∧ True := by
  obtain ⟨_, hs⟩ := read_struct Try.underlying58 (by kernel_rfl) (by kernel_rfl) h
  obtain ⟨v0, y0, n0, e0, t0⟩ := hs 0 _ rfl
  obtain ⟨v1, y1, n1, e1, t1⟩ := hs 1 _ rfl
  obtain ⟨v2, y2, n2, e2, t2⟩ := hs 2 _ rfl
  obtain ⟨v3, y3, n3, e3, t3⟩ := hs 3 _ rfl
  obtain ⟨z0, rfl, _⟩ := read_int Try.underlying3 t0
  obtain ⟨z1, rfl, _⟩ := read_int Try.underlying3 t1
  obtain ⟨z2, rfl⟩ := read_bool Try.underlying4 t2
  obtain ⟨z3, rfl⟩ := read_bool Try.underlying4 t3
  refine ⟨⟨z0, z1, z2, z3⟩, ?_, trivial⟩
  match cs, hc with
  | [c0, c1, c2, c3], _ =>
    have e0' : c0 = .int .i64 z0 := by simpa using e0
    have e1' : c1 = .int .i64 z1 := by simpa using e1
    have e2' : c2 = .bool z2 := by simpa using e2
    have e3' : c3 = .bool z3 := by simpa using e3
    rw [e0', e1', e2', e3']
    rfl

set_option maxRecDepth 100000 in
theorem healthSees_walk : LawWalk 9 Try.f9 := by
  intro H enc W base args ds p hval hA
  rw [Try.params9] at hA hval
  obtain ⟨l⟩ := args
  obtain ⟨v0, l0, d0, e0, p0, q0, rfl, rfl, rfl, h0, hA0⟩ := trodAll_cons hA
  obtain ⟨v1, l1, d1, e1, p1, q1, rfl, rfl, rfl, h1, hA1⟩ := trodAll_cons hA0
  obtain ⟨rfl, rfl, rfl⟩ := trodAll_nil hA1
  obtain ⟨C, ap, ac, aw, cp, cc, cw, rfl, hC, _⟩ := open_cfg (hval 0 27 v0 rfl rfl) h0
  obtain ⟨f1, t1⟩ := Trod_slice Try.underlying52 (hval 1 52 v1 rfl rfl) h1
  obtain ⟨lo, c, ls, rfl, hL, _, _⟩ := read_slice lookCells (fun _ => True) 4 (fun _ => rfl) (by decide) Try.underlying52 (by kernel_rfl) (fun _ _ _ hc ht => read_look hc ht) t1
  by_cases h : bigV C = true ∨ 3000 < ls.length
  · exact sees_out W hC lo ls.length c h
  · rw [not_or] at h
    exact sees_in W hC lo ls.length c ls hL (by simpa using h.1) (by omega)

set_option maxRecDepth 100000 in
theorem healthSees_lifted (os : Os) (started : os.Started) (H : Type) (enc : TypeId × Value → H) :
    ReturnsInHanded {} Try.checked os 9 .any (Rows.healthSeesSpec.pre6 enc Try.prog Try.f9 Rows.healthSeesRow.domain false) (Rows.healthSeesSpec.post enc Try.prog Try.f9 false true false false) :=
  law_lifted (s := Rows.healthSeesSpec) Try.func9 (by kernel_rfl) rfl (by kernel_rfl) (by kernel_rfl)
    (fun H ds h => by
      match ds, h with
      | [d0, d1], _ => rfl)
    healthSees_walk os started H enc
    (ChangeSpec.witness6 (enc := enc) (C := Try.checked) false ⟨#[], #[.agg #[.int .i64 0, .int .i64 0, .int .i64 0, .slice none 0 0, .slice none 0 0, .slice none 0 0], .slice none 0 0], []⟩ 8 (by kernel_rfl) (by kernel_rfl) (by kernel_rfl) (by kernel_rfl))

set_option maxRecDepth 100000 in
/-- THE STATEMENT. -/
theorem healthSees_holds : Rows.HealthSeesSaid :=
  OpenClaim.holds_of_wide 9 Try.f9 rfl rfl rfl rfl rfl rfl rfl ⟨rfl, rfl, rfl, rfl, rfl⟩ rfl rfl rfl rfl rfl (by kernel_rfl) Try.func9 (by kernel_rfl)
    (of_decide_eq_true (by kernel_rfl)) (by unfold Func.isWrapper; first | (rw [if_pos (by decide +kernel)]; kernel_rfl) | (rw [if_neg (by decide +kernel)]; exact ⟨rfl, rfl⟩))
    (fun os started H enc _ => healthSees_lifted os started H enc)
#print axioms healthSees_holds
end Go.Proofs.Ytdhkbephofnfdaa
