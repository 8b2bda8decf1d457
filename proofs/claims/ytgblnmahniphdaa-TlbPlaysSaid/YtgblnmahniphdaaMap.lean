/- A map whose keys are structs of two ints and whose elements are ints, by the function that it tells. -/
import Derived.Test.YtgblnmahniphdaaProg
import Derived.Test.YtgblnmahniphdaaBase
import Derived.DeepKeys4
import Derived.Maps.OwnSet
namespace Go.Proofs.Ytgblnmahniphdaa
open Go.RowKit
open Go.ChangeMaps (setBlock)

theorem row_key : (60 : TypeId) < Try.prog.types.size := of_decide_eq_true (by kernel_rfl)
theorem law_laid : laidOutB Try.prog = true := by kernel_rfl
theorem wide_key : (match Try.prog.underlying 60 with | some (.array _ _) | some (.struct _) => true | _ => false) = true := by rw [Try.underlying60]
theorem keyed : Maps.Keyed Try.prog 60 := Maps.Keyed.of_law (deep_law_laid law_laid (m := 2) (by omega) row_key (by kernel_rfl) wide_key)

theorem cells_key : Try.prog.cellsOf 60 = 2 := by kernel_rfl
theorem cells_int : Try.prog.cellsOf 3 = 1 := by kernel_rfl
abbrev KeyD := Int × Int
def i64ok (n : Int) : Prop := -9223372036854775808 ≤ n ∧ n ≤ 9223372036854775807
def keyV (a : KeyD) : Value := .agg #[.int .i64 a.1, .int .i64 a.2]
def keyOk (a : KeyD) : Prop := i64ok a.1 ∧ i64ok a.2
theorem keyV_inj {a b : KeyD} (h : keyV a = keyV b) : a = b := by
  unfold keyV at h
  injection h with h
  have h1 := congrArg (fun x => x[0]?) h
  have h2 := congrArg (fun x => x[1]?) h
  simp at h1 h2
  exact Prod.ext h1 h2
theorem wf_i64 {n : Int} (h : i64ok n) : (Lit.int .i64 n).wf = true := by
  unfold i64ok at h
  simp [Lit.wf, IntKind.min, IntKind.max, IntKind.signed, IntKind.bits]
  exact h
theorem key_type : Try.prog.keyType 60 = true := by kernel_rfl
theorem key_some {a : KeyD} (h : keyOk a) : ∃ l, keyOf Try.prog 60 (keyV a) = some l := by
  have hf : (keyV a).formed Try.prog 60 = true := by simp [keyV, Value.formed, Try.underlying60, cells_key]
  have w1 := wf_i64 h.1
  have w2 := wf_i64 h.2
  obtain ⟨N, hN⟩ : ∃ N, Try.prog.types.size = N + 1 := ⟨Try.prog.types.size - 1, (Nat.sub_add_cancel (Nat.lt_of_le_of_lt (Nat.zero_le _) row_key)).symm⟩
  unfold keyOf
  rw [Try.underlying60]
  simp only [key_type, hf, Bool.and_self, if_true]
  rw [hN]
  have hc : (keyV a).cells.toList = [.int .i64 a.1, .int .i64 a.2] := by simp [keyV, Value.cells]
  rw [hc]
  simp [Program.keyLits, Try.underlying60, Try.underlying3, cells_key, cells_int, w1, w2]

/-- A map that tells f. -/
def MapFn (w : World) (b : Nat) (f : KeyD → Option Int) : Prop :=
  ∃ es clock, w.heap[b]? = some (.map es clock) ∧ es.toList.Pairwise (fun x y => x.key ≠ y.key) ∧
    (∀ e ∈ es.toList, ∃ a x, keyOk a ∧ e.key = keyV a ∧ e.val = .int .i64 x ∧ f a = some x) ∧
    (∀ a x, f a = some x → ∃ e ∈ es.toList, e.key = keyV a ∧ e.val = .int .i64 x)
namespace MapFn
variable {w w' : World} {b : Nat} {f g : KeyD → Option Int}
theorem lt (h : MapFn w b f) : b < w.heap.size := by
  obtain ⟨es, clock, hb, _⟩ := h
  exact (Array.getElem?_eq_some_iff.1 hb).1
theorem of_block (h : MapFn w b f) (e : w'.heap[b]? = w.heap[b]?) : MapFn w' b f := by
  obtain ⟨es, clock, hb, h1⟩ := h
  exact ⟨es, clock, e.trans hb, h1⟩
theorem chg {P : Nat → Prop} (h : MapFn w b f) (c : Chg w w' P) (hn : ¬ P b) : MapFn w' b f := h.of_block (c.block b h.lt hn)
theorem made (w : World) : MapFn (w.alloc (.map #[] 0)) w.heap.size (fun _ => none) :=
  ⟨#[], 0, heap_alloc_new w _, by simp, by simp, by simp⟩
theorem congr (h : MapFn w b f) (e : ∀ a, f a = g a) : MapFn w b g := by rw [← funext e]; exact h

theorem lookup (h : MapFn w b f) {a : KeyD} (ha : keyOk a) : (Instr.lookup 55 (.map (some b)) (keyV a) true).run Try.prog w = .ok (.tuple #[.int .i64 ((f a).getD 0), .bool (f a).isSome]) w := by
  obtain ⟨es, clock, hb, hd, h1, h2⟩ := h
  obtain ⟨l, hl⟩ := key_some ha
  have hk : ∀ e ∈ es.toList, ∃ l, keyOf Try.prog 60 e.key = some l := fun e he => by
    obtain ⟨a', x, hok, hk, _⟩ := h1 e he
    rw [hk]
    exact key_some hok
  have hz : (zeroValue 3).run Try.prog w = .ok (.int .i64 0) w := by kernel_rfl
  rcases keyed.find w hl es.toList hk with ⟨f1, f2⟩ | ⟨j, e, f1, f2, f3⟩
  · have hn : f a = none := by
      cases hf : f a with
      | none => rfl
      | some x =>
        obtain ⟨e, he, hke, _⟩ := h2 a x hf
        exact absurd hke (f2 e he)
    rw [hn]
    simp [Instr.lookup, run_underlying Try.underlying55, MapKept.run_getObj_map hb, keyed.check w _ hl, f1, hz, Result.andThen]
  · obtain ⟨a', x, hok, hk2, hv, hfa⟩ := h1 e (List.mem_of_getElem? f2)
    have : a' = a := keyV_inj (hk2.symm.trans f3)
    subst this
    rw [hfa]
    simp [Instr.lookup, run_underlying Try.underlying55, MapKept.run_getObj_map hb, keyed.check w _ hl, f1, hv, Result.andThen]

theorem chg_set {o : Obj} (w : World) (b : Nat) : Chg w (setBlock w b o) (fun k => k = b) :=
  ⟨rfl, rfl, rfl, by simp [setBlock], fun k _ hn => by simp [setBlock, Array.getElem?_setIfInBounds]; intro h; exact absurd h.symm hn⟩

theorem update (h : MapFn w b f) {a : KeyD} (ha : keyOk a) (v : Int) : ∃ w', (Instr.mapUpdate 55 (.map (some b)) (keyV a) (.int .i64 v)).run Try.prog w = .ok () w' ∧ MapFn w' b (fun c => if c = a then some v else f c) ∧ Chg w w' (fun k => k = b) ∧ (∀ x, w'.frozen? x = w.frozen? x) := by
  obtain ⟨es, clock, hb, hd, h1, h2⟩ := h
  obtain ⟨l, hl⟩ := key_some ha
  have hk : ∀ e ∈ es.toList, ∃ l, keyOf Try.prog 60 e.key = some l := fun e he => by
    obtain ⟨a', x, hok, hk, _⟩ := h1 e he
    rw [hk]
    exact key_some hok
  rcases keyed.find w hl es.toList hk with ⟨f1, f2⟩ | ⟨j, e, f1, f2, f3⟩
  · refine ⟨setBlock w b (.map (es.push ⟨keyV a, .int .i64 v, clock⟩) (clock + 1)), ?_, ⟨_, _, ChangeMaps.heap_setBlock_same hb _, ?_, ?_, ?_⟩, chg_set w b, fun _ => ChangeMaps.frozen?_setBlock hb _⟩
    · simp [Instr.mapUpdate, run_underlying Try.underlying55, MapKept.run_getObj_map hb, keyed.check w false hl, f1, MapKept.run_setObj_map _ hb, Result.andThen, setBlock]
    · rw [Array.toList_push, List.pairwise_append]
      exact ⟨hd, by simp, fun x hx y hy => by simp at hy; subst hy; exact f2 x hx⟩
    · intro e he
      rw [Array.toList_push] at he
      rcases List.mem_append.1 he with he | he
      · obtain ⟨a', x, hok, hk2, hv, hfa⟩ := h1 e he
        refine ⟨a', x, hok, hk2, hv, ?_⟩
        show (if a' = a then some v else f a') = some x
        rw [if_neg (fun e2 => f2 e he (by rw [hk2, e2]))]
        exact hfa
      · simp at he
        subst he
        exact ⟨a, v, ha, rfl, rfl, by simp⟩
    · intro c x hc
      rw [Array.toList_push]
      have hc : (if c = a then some v else f c) = some x := hc
      by_cases e2 : c = a
      · rw [if_pos e2] at hc
        injection hc with hc
        subst hc e2
        exact ⟨⟨keyV c, .int .i64 v, clock⟩, List.mem_append.2 (.inr (by simp)), rfl, rfl⟩
      · rw [if_neg e2] at hc
        obtain ⟨e, he, h3⟩ := h2 c x hc
        exact ⟨e, List.mem_append.2 (.inl he), h3⟩
  · have hj : j < es.toList.length := (List.getElem?_eq_some_iff.1 f2).1
    have hej : es.toList[j] = e := (List.getElem?_eq_some_iff.1 f2).2
    have hdi := List.pairwise_iff_getElem.1 hd
    have hne : ∀ i (hi : i < es.toList.length), i ≠ j → es.toList[i].key ≠ keyV a := by
      intro i hi hij
      rw [← f3, ← hej]
      by_cases hlt : i < j
      · exact hdi i j hi hj hlt
      · exact fun h => hdi j i hj hi (by omega) h.symm
    have hml : (es.modify j (fun x => { x with key := keyV a, val := .int .i64 v })).toList = es.toList.modify j (fun x => { x with key := keyV a, val := .int .i64 v }) := by simp
    have hget : ∀ i (hi : i < es.toList.length), (es.toList.modify j (fun x => { x with key := keyV a, val := .int .i64 v }))[i]? = some (if i = j then { es.toList[i] with key := keyV a, val := .int .i64 v } else es.toList[i]) := by
      intro i hi
      rw [List.getElem?_modify, List.getElem?_eq_getElem hi]
      by_cases e : i = j
      · subst e; simp
      · have e2 : ¬ j = i := fun h => e h.symm
        simp [e, e2]
    have hks : (es.toList.modify j (fun x => { x with key := keyV a, val := .int .i64 v })).map (·.key) = es.toList.map (·.key) := by
      apply List.ext_getElem?
      intro i
      rw [List.getElem?_map, List.getElem?_map]
      by_cases hi : i < es.toList.length
      · rw [hget i hi, List.getElem?_eq_getElem hi]
        by_cases e2 : i = j
        · subst e2
          rw [if_pos rfl, hej]
          simp [f3]
        · rw [if_neg e2]
      · rw [List.getElem?_eq_none (by simpa using hi), List.getElem?_eq_none (by simpa using hi)]
    refine ⟨setBlock w b (.map (es.modify j (fun x => { x with key := keyV a, val := .int .i64 v })) clock), ?_, ⟨_, _, ChangeMaps.heap_setBlock_same hb _, ?_, ?_, ?_⟩, chg_set w b, fun _ => ChangeMaps.frozen?_setBlock hb _⟩
    · have he : es[j]? = some e := by rw [← Array.getElem?_toList]; exact f2
      have hst := keyed.stays w hl
      simp [Instr.mapUpdate, run_underlying Try.underlying55, MapKept.run_getObj_map hb, keyed.check w false hl, f1, he, f3, hst, MapKept.run_setObj_map _ hb, Result.andThen, setBlock]
    · rw [hml, ← List.pairwise_map (f := fun x : MapEntry => x.key) (R := fun x y => x ≠ y), hks, List.pairwise_map]
      exact hd
    · intro e' he'
      rw [hml] at he'
      obtain ⟨i, hi, rfl⟩ := List.getElem_of_mem he'
      have hi' : i < es.toList.length := by simpa using hi
      have hg := hget i hi'
      rw [List.getElem?_eq_getElem hi] at hg
      injection hg with hg
      rw [hg]
      by_cases e2 : i = j
      · rw [if_pos e2]
        exact ⟨a, v, ha, rfl, rfl, by simp⟩
      · rw [if_neg e2]
        obtain ⟨a', x, hok, hk2, hv, hfa⟩ := h1 _ (List.getElem_mem hi')
        refine ⟨a', x, hok, hk2, hv, ?_⟩
        show (if a' = a then some v else f a') = some x
        rw [if_neg (fun e3 => hne i hi' e2 (by rw [hk2, e3]))]
        exact hfa
    · intro c x hc
      rw [hml]
      have hc : (if c = a then some v else f c) = some x := hc
      by_cases e2 : c = a
      · rw [if_pos e2] at hc
        injection hc with hc
        subst hc e2
        have hg := hget j hj
        rw [if_pos rfl] at hg
        exact ⟨_, List.mem_of_getElem? hg, rfl, rfl⟩
      · rw [if_neg e2] at hc
        obtain ⟨e', he', h3, h4⟩ := h2 c x hc
        obtain ⟨i, hi, rfl⟩ := List.getElem_of_mem he'
        have hij : i ≠ j := fun h => by
          subst h
          rw [hej, f3] at h3
          exact e2 (keyV_inj h3).symm
        have hg := hget i hi
        rw [if_neg hij] at hg
        exact ⟨_, List.mem_of_getElem? hg, h3, h4⟩

theorem delete (h : MapFn w b f) {a : KeyD} (ha : keyOk a) (ty : TypeId) : ∃ w', (Builtin.delete_ #[55, 60] ty #[.map (some b), keyV a]).run Try.prog w = .ok (.tuple #[]) w' ∧ MapFn w' b (fun c => if c = a then none else f c) ∧ Chg w w' (fun k => k = b) ∧ (∀ x, w'.frozen? x = w.frozen? x) := by
  obtain ⟨es, clock, hb, hd, h1, h2⟩ := h
  obtain ⟨l, hl⟩ := key_some ha
  have hk : ∀ e ∈ es.toList, ∃ l, keyOf Try.prog 60 e.key = some l := fun e he => by
    obtain ⟨a', x, hok, hk, _⟩ := h1 e he
    rw [hk]
    exact key_some hok
  rcases keyed.find w hl es.toList hk with ⟨f1, f2⟩ | ⟨j, e, f1, f2, f3⟩
  · refine ⟨setBlock w b (.map es clock), ?_, ⟨_, _, ChangeMaps.heap_setBlock_same hb _, hd, ?_, ?_⟩, chg_set w b, fun _ => ChangeMaps.frozen?_setBlock hb _⟩
    · simp [Builtin.delete_, run_underlying Try.underlying55, MapKept.run_getObj_map hb, keyed.check w _ hl, f1, MapKept.run_setObj_map _ hb, Result.andThen, setBlock]
    · intro e he
      obtain ⟨a', x, hok, hk2, hv, hfa⟩ := h1 e he
      refine ⟨a', x, hok, hk2, hv, ?_⟩
      show (if a' = a then none else f a') = some x
      rw [if_neg (fun e2 => f2 e he (by rw [hk2, e2]))]
      exact hfa
    · intro c x hc
      have hc : (if c = a then none else f c) = some x := hc
      by_cases e2 : c = a
      · rw [if_pos e2] at hc; cases hc
      · rw [if_neg e2] at hc; exact h2 c x hc
  · have hj : j < es.toList.length := (List.getElem?_eq_some_iff.1 f2).1
    have hej : es.toList[j] = e := (List.getElem?_eq_some_iff.1 f2).2
    have hdi := List.pairwise_iff_getElem.1 hd
    have hne : ∀ i (hi : i < es.toList.length), i ≠ j → es.toList[i].key ≠ keyV a := by
      intro i hi hij
      rw [← f3, ← hej]
      by_cases hlt : i < j
      · exact hdi i j hi hj hlt
      · exact fun h => hdi j i hj hi (by omega) h.symm
    have hml : (es.eraseIdxIfInBounds j).toList = es.toList.eraseIdx j := by simp
    refine ⟨setBlock w b (.map (es.eraseIdxIfInBounds j) clock), ?_, ⟨_, _, ChangeMaps.heap_setBlock_same hb _, ?_, ?_, ?_⟩, chg_set w b, fun _ => ChangeMaps.frozen?_setBlock hb _⟩
    · simp [Builtin.delete_, run_underlying Try.underlying55, MapKept.run_getObj_map hb, keyed.check w _ hl, f1, MapKept.run_setObj_map _ hb, Result.andThen, setBlock]
    · rw [hml]
      exact hd.sublist (List.eraseIdx_sublist _ _)
    · intro e' he'
      rw [hml, List.mem_eraseIdx_iff_getElem] at he'
      obtain ⟨i, hi, hij, rfl⟩ := he'
      obtain ⟨a', x, hok, hk2, hv, hfa⟩ := h1 _ (List.getElem_mem hi)
      refine ⟨a', x, hok, hk2, hv, ?_⟩
      show (if a' = a then none else f a') = some x
      rw [if_neg (fun e3 => hne i hi hij (by rw [hk2, e3]))]
      exact hfa
    · intro c x hc
      have hc : (if c = a then none else f c) = some x := hc
      rw [hml]
      by_cases e2 : c = a
      · rw [if_pos e2] at hc; cases hc
      · rw [if_neg e2] at hc
        obtain ⟨e', he', h3, h4⟩ := h2 c x hc
        obtain ⟨i, hi, rfl⟩ := List.getElem_of_mem he'
        have hij : i ≠ j := fun h => by
          subst h
          rw [hej, f3] at h3
          exact e2 (keyV_inj h3).symm
        exact ⟨_, List.mem_eraseIdx_iff_getElem.2 ⟨i, hi, hij, rfl⟩, h3, h4⟩
end MapFn
end Go.Proofs.Ytgblnmahniphdaa
