/- ConfigReads: what all bytes are as a configuration, or that they are none. No condition. -/
import Derived.Test.YtdhkbephofnfdaaCfgRd
import Derived.Test.YtdhkbephofnfdaaRow
namespace Go.Proofs.Ytdhkbephofnfdaa
open Go.RowKit Go.ChangeShapes Go.WideShapes Go.ChangeAt Go.Deep

theorem u8s_flat1 (l : List Int) : l.flatMap (fun x => [Value.int .u8 x]) = u8s l := by
  induction l with
  | nil => rfl
  | cons a l ih => rw [List.flatMap_cons, ih]; rfl
theorem read_byte1 {H : Type} {enc : TypeId × Value → H} {W : World} {base : Nat} {sp : Nat → Bool} {hd : Bool} {fuel : Nat} {cs : List Value} {x : DataW H × List MemPlace} (hc : cs.length = 1) (h : DataW.trod enc Try.prog W base sp hd fuel 5 cs = some x) : ∃ p : Int, [Value.int .u8 p] = cs ∧ (0 ≤ p ∧ p < 256) := by
  match cs, hc with
  | [c], _ =>
    obtain ⟨n, rfl, hw⟩ := read_int Try.underlying5 h
    exact ⟨n, rfl, by simp [Lit.wf, IntKind.min, IntKind.max, IntKind.signed, IntKind.bits] at hw; omega⟩

set_option maxRecDepth 100000 in
theorem configReads_walk : LawWalk 13 Try.f13 := by
  intro H enc W base args ds p hval hA
  rw [Try.params13] at hA hval
  obtain ⟨l⟩ := args
  obtain ⟨v0, l0, d0, e0, p0, q0, rfl, rfl, rfl, h0, hA0⟩ := trodAll_cons hA
  obtain ⟨rfl, rfl, rfl⟩ := trodAll_nil hA0
  obtain ⟨f0, t0⟩ := Trod_slice Try.underlying59 (hval 0 59 v0 rfl rfl) h0
  obtain ⟨ao, c, xs, rfl, hL, ho, hg⟩ := read_slice (fun x : Int => [Value.int .u8 x]) (fun p => 0 ≤ p ∧ p < 256) 1 (fun _ => rfl) (by decide) Try.underlying59 (by kernel_rfl) (fun _ _ _ hc ht => read_byte1 hc ht) t0
  rw [u8s_flat1] at hL
  obtain ⟨m, hm⟩ : ∃ m, xs.length = m := ⟨_, rfl⟩
  rw [hm] at hL ho ⊢
  by_cases h : m ≤ 5000
  · exact configReads_in W hm hL hg h ho
  · exact configReads_out W (by omega)

set_option maxRecDepth 100000 in
theorem configReads_lifted (os : Os) (started : os.Started) (H : Type) (enc : TypeId × Value → H) :
    ReturnsInHanded {} Try.checked os 13 .any (Rows.configReadsSpec.pre6 enc Try.prog Try.f13 Rows.configReadsRow.domain false) (Rows.configReadsSpec.post enc Try.prog Try.f13 false true false false) :=
  law_lifted (s := Rows.configReadsSpec) Try.func13 (by kernel_rfl) rfl (by kernel_rfl) (by kernel_rfl)
    (fun H ds h => by
      match ds, h with
      | [d0], _ => rfl)
    configReads_walk os started H enc
    (ChangeSpec.witness6 (enc := enc) (C := Try.checked) false ⟨#[], #[.slice none 0 0], []⟩ 8 (by kernel_rfl) (by kernel_rfl) (by kernel_rfl) (by kernel_rfl))

set_option maxRecDepth 100000 in
/-- THE STATEMENT. -/
theorem configReads_holds : Rows.ConfigReadsSaid :=
  OpenClaim.holds_of_wide 13 Try.f13 rfl rfl rfl rfl rfl rfl rfl ⟨rfl, rfl, rfl, rfl, rfl⟩ rfl rfl rfl rfl rfl (by kernel_rfl) Try.func13 (by kernel_rfl)
    (of_decide_eq_true (by kernel_rfl)) (by unfold Func.isWrapper; first | (rw [if_pos (by decide +kernel)]; kernel_rfl) | (rw [if_neg (by decide +kernel)]; exact ⟨rfl, rfl⟩))
    (fun os started H enc _ => configReads_lifted os started H enc)
#print axioms configReads_holds
end Go.Proofs.Ytdhkbephofnfdaa
