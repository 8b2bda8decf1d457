/- What an argument holds: structs of one-cell fields; slices of such structs, of numbers, of whatever has flat cells. -/
import Derived.Test.YtiedfglkjkaefaaLst
import Derived.Deep.Slices
import Derived.Deep.Fields
import Derived.ChangeSame
import Derived.OpenShut
namespace Go.Proofs.Ytiedfglkjkaefaa
open Go.RowKit Go.ChangeShapes Go.WideShapes Go.Deep

section
variable {H : Type} {enc : TypeId × Value → H} {P : Program} {w : World} {base : Nat} {sp : Nat → Bool} {hd : Bool}

/-- The cells of a struct, each with its own reading. -/
theorem read_struct {t : TypeId} {fs : Array Field} (ht : P.underlying t = some (.struct fs)) (hone : oneCellFields P fs = true) (hC : P.cellsOf t = fs.size) {fuel : Nat} {cs : List Value} {x : DataW H × List MemPlace}
    (h : DataW.trod enc P w base sp hd fuel t cs = some x) : cs.length = fs.size ∧ ∀ (j : Nat) (f : Field), fs[j]? = some f → ∃ (v : Value) (y : DataW H × List MemPlace) (n : Nat), cs[j]? = some v ∧ DataW.trod enc P w base sp hd n f.type [v] = some y := by
  obtain ⟨ys, n, _, _, hlen, hyl, hf⟩ := DataW.trod_struct ht h
  rw [hC] at hlen
  refine ⟨hlen, fun j f hj => ?_⟩
  obtain ⟨ho, hk⟩ := hone_of hone j f hj
  have hjl : j < fs.size := (Array.getElem?_eq_some_iff.1 hj).1
  have h1 := hf j f hj
  rw [ho, hk, List.drop_eq_getElem_cons (show j < cs.length by omega), List.take_succ_cons, List.take_zero, List.getElem?_eq_getElem (show j < ys.length by omega)] at h1
  exact ⟨_, _, n, List.getElem?_eq_getElem (by omega), h1⟩

theorem read_int {t : TypeId} {k : IntKind} (ht : P.underlying t = some (.int k)) {fuel : Nat} {v : Value} {x : DataW H × List MemPlace} (h : DataW.trod enc P w base sp hd fuel t [v] = some x) : ∃ n, v = .int k n ∧ (Lit.int k n).wf = true := by
  obtain ⟨n, hv, _, hw⟩ := DataW.trod_int ht h
  exact ⟨n, by simpa using hv, hw⟩
theorem read_bool {t : TypeId} (ht : P.underlying t = some .bool) {fuel : Nat} {v : Value} {x : DataW H × List MemPlace} (h : DataW.trod enc P w base sp hd fuel t [v] = some x) : ∃ b, v = .bool b := by
  obtain ⟨b, hv, _⟩ := DataW.trod_bool ht h
  exact ⟨b, by simpa using hv⟩
theorem read_string {t : TypeId} (ht : P.underlying t = some .string) {fuel : Nat} {v : Value} {x : DataW H × List MemPlace} (h : DataW.trod enc P w base sp hd fuel t [v] = some x) : ∃ s : ByteArray, v = .string s ∧ s.size ≤ maxLen := by
  obtain ⟨s, hv, _, hs⟩ := DataW.trod_string ht h
  exact ⟨s, by simpa using hv, hs⟩

/-- A slice whose elements have flat cells. -/
theorem read_slice {α : Type} [Inhabited α] (cells : α → List Value) (good : α → Prop) (n : Nat) (hn : ∀ x, (cells x).length = n) (hpos : 0 < n) {t e : TypeId} (ht : P.underlying t = some (.slice e)) (hC : P.cellsOf e = n)
    (hread : ∀ (fuel : Nat) (cs : List Value) (x : DataW H × List MemPlace), cs.length = n → DataW.trod enc P w base sp hd fuel e cs = some x → ∃ a : α, cells a = cs ∧ good a)
    {fuel : Nat} {v : Value} {x : DataW H × List MemPlace} (h : DataW.trod enc P w base sp hd fuel t [v] = some x) :
    ∃ (ao : Option Addr) (cap : Nat) (l : List α), v = .slice ao l.length cap ∧ Lst w ao l.length cap (l.flatMap cells) n ∧ (∀ ad, ao = some ad → 0 < l.length → ad.block < w.heap.size) ∧ ∀ a ∈ l, good a := by
  rcases open_slice ht h with ⟨hcs, _⟩ | ⟨a, len, cap, m, fu, D, Pl, hcs, _, hle, hmx, hm, _, hx⟩
  · have hv : v = .slice none 0 0 := by simpa using hcs
    subst hv
    exact ⟨none, 0, [], rfl, Lst.none _ _, fun ad h => (by cases h), by simp⟩
  have hv : v = .slice (some a) len cap := by simpa using hcs
  subst hv
  have hlm : len ≤ m := by rw [hm]; split <;> omega
  have hall : ∀ i, i < len → ∃ y : α, good y ∧ ∀ j, j < n → w.cell? (a.add (i * n + j)) = (cells y)[j]? := by
    intro i hi
    obtain ⟨cs', h1, h2⟩ := hx i (by omega)
    rw [hC] at h1
    obtain ⟨_, h3, h4⟩ := World.cells?_some h1
    obtain ⟨y, hy, hg⟩ := hread _ _ _ h3 h2
    refine ⟨y, hg, fun j hj => ?_⟩
    rw [hy, ← h4 j hj, add_add]
  obtain ⟨F, hF⟩ := choose_lt hall
  have hlen : ((List.range len).map F).length = len := by simp
  have hget : ∀ k (hk : k < ((List.range len).map F).length), ((List.range len).map F)[k] = F k := by intro k hk; simp
  refine ⟨some a, cap, (List.range len).map F, by rw [hlen], ?_, ?_, ?_⟩
  · rw [hlen]
    refine ⟨⟨by rw [flat_length cells n hn, hlen], fun h => (by cases h), fun ad he j u hu => ?_⟩, fun h0 => ?_, hle, hmx⟩
    · injection he with he
      subst he
      have hj : j < len * n := by
        have := (List.getElem?_eq_some_iff.1 hu).1
        rw [flat_length cells n hn, hlen] at this
        exact this
      have h1 : j / n < len := by rw [Nat.div_lt_iff_lt_mul hpos]; exact hj
      have h2 : j % n < n := Nat.mod_lt _ hpos
      have h3 : j / n * n + j % n = j := by rw [Nat.mul_comm]; exact Nat.div_add_mod j n
      have h4 := flat_get cells n hn ((List.range len).map F) (j / n) (j % n) h2 (by rw [hlen]; exact h1)
      rw [h3, hget] at h4
      rw [h4] at hu
      have h5 := (hF (j / n) h1).2 (j % n) h2
      rw [h3, hu] at h5
      exact h5
    · have h5 := (hF 0 h0).2 0 hpos
      have h6 : (cells (F 0))[0]? = some ((cells (F 0))[0]'(by rw [hn]; exact hpos)) := List.getElem?_eq_getElem _
      rw [h6] at h5
      have hs := World.cell?_spot h5
      have e2 : a.spot = none := by
        have : (a.add (0 * n + 0)).spot = none → a.spot = none := by unfold Addr.add; split <;> simp_all
        exact this hs
      obtain ⟨b, o, s⟩ := a
      simp only at e2
      subst e2
      exact ⟨b, o, rfl⟩
  · intro ad he h0
    injection he with he
    subst he
    rw [hlen] at h0
    have h5 := (hF 0 h0).2 0 hpos
    have h6 : (cells (F 0))[0]? = some ((cells (F 0))[0]'(by rw [hn]; exact hpos)) := List.getElem?_eq_getElem _
    rw [h6] at h5
    have hb := World.block_lt_of_cell? w _ h5
    have e1 : (a.add (0 * n + 0)).block = a.block := by unfold Addr.add; split <;> rfl
    rwa [e1] at hb
  · intro y hy
    obtain ⟨i, hi, rfl⟩ := List.mem_map.1 hy
    exact (hF i (List.mem_range.1 hi)).1

theorem Trod_slice {t e : TypeId} {r : Reach} {b0 : Nat} {v : Value} {d : DataW H} {p : List MemPlace} (ht : P.underlying t = some (.slice e)) (hv : Value.okWide P w r b0 t v) (h : DataW.Trod enc P w base sp hd t v d p) : ∃ fuel, DataW.trod enc P w base sp hd fuel t [v] = some (d, p) := by
  obtain ⟨a0, len, cap, rfl⟩ := okWide_slice ht hv
  obtain ⟨fuel, hf⟩ := h
  exact ⟨fuel, by simpa [Value.cells] using hf⟩
end
theorem i64_of_wf {n : Int} (h : (Lit.int .i64 n).wf = true) : -9223372036854775808 ≤ n ∧ n ≤ 9223372036854775807 := by
  simp [Lit.wf, IntKind.min, IntKind.max, IntKind.signed, IntKind.bits] at h
  omega
end Go.Proofs.Ytiedfglkjkaefaa
