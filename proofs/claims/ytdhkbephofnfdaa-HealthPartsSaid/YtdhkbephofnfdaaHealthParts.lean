/- HealthParts: what one partition does turns nothing of the others' counts; a partition that halts is one event, however often it is seen. No condition. -/
import Derived.Test.YtdhkbephofnfdaaHParts
import Derived.Test.YtdhkbephofnfdaaRead
import Derived.Test.YtdhkbephofnfdaaRow
namespace Go.Proofs.Ytdhkbephofnfdaa
open Go.RowKit Go.ChangeShapes Go.WideShapes Go.ChangeAt Go.Deep

theorem ints_flat (xs : List Int) : xs.flatMap (fun x => [Value.int .i64 x]) = xs.map (Value.int .i64) := by
  induction xs with
  | nil => rfl
  | cons x xs ih => rw [List.flatMap_cons, ih]; rfl
theorem read_ints {H : Type} {enc : TypeId × Value → H} {W : World} {base : Nat} {sp : Nat → Bool} {hd : Bool} {fuel : Nat} {v : Value} {x : DataW H × List MemPlace} (h : DataW.trod enc Try.prog W base sp hd fuel 50 [v] = some x) :
    ∃ (ao : Option Addr) (m c : Nat) (xs : List Int), v = .slice ao m c ∧ Lst W ao m c (xs.map (Value.int .i64)) 1 := by
  obtain ⟨ao, c, xs, rfl, hL, ho, hg⟩ := read_slice (fun x : Int => [Value.int .i64 x]) (fun _ => True) 1 (fun _ => rfl) (by decide) Try.underlying50 (by kernel_rfl) (fun _ cs _ hc ht => by
    match cs, hc with
    | [c], _ =>
      obtain ⟨n, rfl, _⟩ := read_int Try.underlying3 ht
      exact ⟨n, rfl, trivial⟩) h
  rw [ints_flat] at hL
  exact ⟨ao, xs.length, c, xs, rfl, hL⟩

set_option maxRecDepth 100000 in
theorem healthParts_walk : LawWalk 11 Try.f11 := by
  intro H enc W base args ds p hval hA
  rw [Try.params11] at hA hval
  obtain ⟨l⟩ := args
  obtain ⟨v0, l0, d0, e0, p0, q0, rfl, rfl, rfl, h0, hA0⟩ := trodAll_cons hA
  obtain ⟨v1, l1, d1, e1, p1, q1, rfl, rfl, rfl, h1, hA1⟩ := trodAll_cons hA0
  obtain ⟨rfl, rfl, rfl⟩ := trodAll_nil hA1
  obtain ⟨f0, t0⟩ := Trod_slice Try.underlying50 (hval 0 50 v0 rfl rfl) h0
  obtain ⟨ao, m, c, xs, rfl, hL⟩ := read_ints t0
  obtain ⟨a1, rfl, rfl, rfl, w1⟩ := open_int Try.underlying3 (hval 1 3 v1 rfl rfl) h1
  by_cases h : 300 < m ∨ a1 < 0 ∨ 1 < a1
  · exact parts_out a1 ao m c W h
  · exact parts_in a1 ao m c xs W hL (by omega) (by omega)

set_option maxRecDepth 100000 in
theorem healthParts_lifted (os : Os) (started : os.Started) (H : Type) (enc : TypeId × Value → H) :
    ReturnsInHanded {} Try.checked os 11 .any (Rows.healthPartsSpec.pre6 enc Try.prog Try.f11 Rows.healthPartsRow.domain false) (Rows.healthPartsSpec.post enc Try.prog Try.f11 false true false false) :=
  law_lifted (s := Rows.healthPartsSpec) Try.func11 (by kernel_rfl) rfl (by kernel_rfl) (by kernel_rfl)
    (fun H ds h => by
      match ds, h with
      | [d0, d1], _ => rfl)
    healthParts_walk os started H enc
    (ChangeSpec.witness6 (enc := enc) (C := Try.checked) false ⟨#[], #[.slice none 0 0, .int .i64 0], []⟩ 8 (by kernel_rfl) (by kernel_rfl) (by kernel_rfl) (by kernel_rfl))

set_option maxRecDepth 100000 in
/-- THE STATEMENT. -/
theorem healthParts_holds : Rows.HealthPartsSaid :=
  OpenClaim.holds_of_wide 11 Try.f11 rfl rfl rfl rfl rfl rfl rfl ⟨rfl, rfl, rfl, rfl, rfl⟩ rfl rfl rfl rfl rfl (by kernel_rfl) Try.func11 (by kernel_rfl)
    (of_decide_eq_true (by kernel_rfl)) (by unfold Func.isWrapper; first | (rw [if_pos (by decide +kernel)]; kernel_rfl) | (rw [if_neg (by decide +kernel)]; exact ⟨rfl, rfl⟩))
    (fun os started H enc _ => healthParts_lifted os started H enc)
#print axioms healthParts_holds
end Go.Proofs.Ytdhkbephofnfdaa
