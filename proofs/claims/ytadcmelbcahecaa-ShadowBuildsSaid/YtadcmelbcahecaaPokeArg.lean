/- An argument of words to be put into a memory. -/
import Derived.Test.YtadcmelbcahecaaBoth
import Derived.Test.YtadcmelbcahecaaRead
import Derived.Deep.DeepCutAuto
namespace Go.Proofs.Ytadcmelbcahecaa
open Go.RowKit Go.ChangeShapes Go.WideShapes Go.Deep

instance : Inhabited PokeD := ⟨⟨0, 0⟩⟩

theorem open_pokes {H : Type} {enc : TypeId × Value → H} {W : World} {base : Nat} {v : Value} {d : DataW H} {p : List MemPlace} (hv : Value.okWide Try.prog W .any base 22 v) (h : DataW.Trod enc Try.prog W 0 (fun _ => true) true 22 v d p) :
    ∃ (ao : Option Addr) (cap : Nat) (l : List PokeD), v = .slice ao l.length cap ∧ Lst W ao l.length cap (l.flatMap pokeCells) 2 ∧ (∀ ad, ao = some ad → 0 < l.length → ad.block < W.heap.size) := by
  obtain ⟨fuel, hf⟩ := Trod_slice Try.underlying22 hv h
  obtain ⟨ao, cap, l, h1, h2, h3, _⟩ := read_slice pokeCells (fun _ => True) 2 (fun _ => rfl) (by decide) Try.underlying22 (by kernel_rfl) (fun fuel cs x hc ht => by
    obtain ⟨_, hs⟩ := read_struct Try.underlying44 (by kernel_rfl) (by kernel_rfl) ht
    obtain ⟨v0, y0, n0, e0, t0⟩ := hs 0 _ rfl
    obtain ⟨v1, y1, n1, e1, t1⟩ := hs 1 _ rfl
    obtain ⟨z0, rfl, _⟩ := read_int Try.underlying3 t0
    obtain ⟨z1, rfl, _⟩ := read_int Try.underlying3 t1
    refine ⟨⟨z0, z1⟩, ?_, trivial⟩
    match cs, hc with
    | [c0, c1], _ =>
      have e0' : c0 = .int .i64 z0 := by simpa using e0
      have e1' : c1 = .int .i64 z1 := by simpa using e1
      rw [e0', e1']
      rfl) hf
  exact ⟨ao, cap, l, h1, h2, h3⟩
end Go.Proofs.Ytadcmelbcahecaa
