/- trunnionlaw17.alive; an argument of entries. -/
import Derived.Test.YtadcmelbcahecaaShG
import Derived.Test.YtadcmelbcahecaaBoth
import Derived.Test.YtadcmelbcahecaaPokeArg
import Derived.Test.YtadcmelbcahecaaRow
namespace Go.Proofs.Ytadcmelbcahecaa
open Go.RowKit Go.ChangeShapes Go.WideShapes Go.Deep

theorem pgN_2 : pgN 2 = 8192 := rfl

theorem alive_ents (f : Nat → Int) : entsL 8192 f 0 2 4 0 10 = [⟨0, 4, 30⟩, ⟨1, 5, 30⟩] := by
  kernel_rfl

set_option maxRecDepth 100000 in
set_option maxHeartbeats 1000000 in
theorem alive17 (w : World) : Calls Try.prog 11 #[] w fun e w' => e = .returned (.bool true) ∧ Below w.heap.size w w' := by
  have HB := both_any 2 (ao := none) (cap := 0) [] w (Lst.none w 2) (fun ad h => by cases h)
  rw [pgN_2] at HB
  obtain ⟨f, hf⟩ : ∃ f, pokes 8192 [] (fun _ => 0) = f := ⟨_, rfl⟩
  rw [hf] at HB
  simp only [List.length_nil] at HB
  clear hf
  go_enter Try.func11, Try.ntmps11
  go_wp2_with fail
  refine HB.mono ?_
  rintro e w1 ⟨a, b, c, d, rfl, M1, R1, C1, ha, hb, hc, hd⟩
  go_wp2_with fail
  refine (build_lst M1 0 2 4 0 10 _ (alive_ents f)).mono ?_
  rintro e w2 ⟨ao, cap, rfl, EA, C2⟩
  obtain ⟨g', o, rfl⟩ := EA.lst.pos (by decide)
  obtain ⟨g, hg, hg1, hg2⟩ := EA.at_ _ rfl
  cases hg
  have c00 := Lst.cell0 (n := 3) (fun _ => rfl) EA.lst 0 (by decide) (by decide) rfl
  have c01 := Lst.cell (n := 3) (fun _ => rfl) EA.lst 0 1 (by decide) (by decide) rfl
  have c02 := Lst.cell (n := 3) (fun _ => rfl) EA.lst 0 2 (by decide) (by decide) rfl
  have c10 := Lst.cell0 (n := 3) (fun _ => rfl) EA.lst 1 (by decide) (by decide) rfl
  have c11 := Lst.cell (n := 3) (fun _ => rfl) EA.lst 1 1 (by decide) (by decide) rfl
  have c12 := Lst.cell (n := 3) (fun _ => rfl) EA.lst 1 2 (by decide) (by decide) rfl
  simp only [Nat.zero_mul, Nat.one_mul, Nat.zero_add, Nat.reduceAdd] at c00 c01 c02 c10 c11 c12
  clear HB M1 R1 EA
  go_wp2_with fail
  go_ret
  exact ⟨rfl, (C1.below_of (Nat.le_refl _) (fun _ h => h.elim)).trans (C2.below_of C1.size (fun _ h => h.elim))⟩

theorem open_ents {H : Type} {enc : TypeId × Value → H} {W : World} {base : Nat} {v : Value} {d : DataW H} {p : List MemPlace} (hv : Value.okWide Try.prog W .any base 31 v) (h : DataW.Trod enc Try.prog W 0 (fun _ => true) true 31 v d p) :
    ∃ (ao : Option Addr) (cap : Nat) (l : List EntD), v = .slice ao l.length cap ∧ Lst W ao l.length cap (l.flatMap entCells) 3 ∧ (∀ ad, ao = some ad → 0 < l.length → ad.block < W.heap.size) ∧ (∀ x ∈ l, -9223372036854775808 ≤ x.fr ∧ x.fr < 9223372036854775808) := by
  obtain ⟨fuel, hf⟩ := Trod_slice Try.underlying31 hv h
  letI : Inhabited EntD := ⟨⟨0, 0, 0⟩⟩
  obtain ⟨ao, cap, l, h1, h2, h3, h4⟩ := read_slice entCells (fun x => -9223372036854775808 ≤ x.fr ∧ x.fr < 9223372036854775808) 3 (fun _ => rfl) (by decide) Try.underlying31 (by kernel_rfl) (fun fuel cs x hc ht => by
    obtain ⟨_, hs⟩ := read_struct Try.underlying35 (by kernel_rfl) (by kernel_rfl) ht
    obtain ⟨v0, y0, n0, e0, t0⟩ := hs 0 _ rfl
    obtain ⟨v1, y1, n1, e1, t1⟩ := hs 1 _ rfl
    obtain ⟨v2, y2, n2, e2, t2⟩ := hs 2 _ rfl
    obtain ⟨z0, rfl, _⟩ := read_int Try.underlying3 t0
    obtain ⟨z1, rfl, hw1⟩ := read_int Try.underlying3 t1
    obtain ⟨z2, rfl, _⟩ := read_int Try.underlying3 t2
    refine ⟨⟨z0, z1, z2⟩, ?_, by have := i64_of_wf hw1; dsimp only; omega⟩
    match cs, hc with
    | [c0, c1, c2], _ =>
      have e0' : c0 = .int .i64 z0 := by simpa using e0
      have e1' : c1 = .int .i64 z1 := by simpa using e1
      have e2' : c2 = .int .i64 z2 := by simpa using e2
      rw [e0', e1', e2']
      rfl) hf
  exact ⟨ao, cap, l, h1, h2, h3, h4⟩
end Go.Proofs.Ytadcmelbcahecaa
