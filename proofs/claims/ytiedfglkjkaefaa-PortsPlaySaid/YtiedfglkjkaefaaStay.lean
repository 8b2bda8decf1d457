/- What a world keeps: every cell, whatever is marked; bytes of a constant. No program in sight. -/
import Derived.Test.YtiedfglkjkaefaaLst
import Derived.Lib.SlBytesConst
namespace Go.Proofs.Ytiedfglkjkaefaa
open Go.RowKit

/-- Every row of cells is as it was, but perhaps for its mark. -/
structure Stay (w w' : World) : Prop where
  size : w.heap.size ≤ w'.heap.size
  row : ∀ (g : Nat) (cs : Array Value) (t : TypeId) (m : Nat × Nat), w.heap[g]? = some (.cells cs t m) → ∃ m', w'.heap[g]? = some (.cells cs t m')
theorem Stay.refl (w : World) : Stay w w := ⟨Nat.le_refl _, fun _ _ _ m h => ⟨m, h⟩⟩
theorem Stay.trans {w w' w'' : World} (h : Stay w w') (k : Stay w' w'') : Stay w w'' := ⟨Nat.le_trans h.size k.size, fun g cs t m e => by obtain ⟨m', e'⟩ := h.row g cs t m e; exact k.row g cs t m' e'⟩
theorem Stay.of_chg {w w' : World} (c : Chg w w' (fun _ => False)) : Stay w w' := ⟨c.size, fun g cs t m h => ⟨m, by rw [c.block g (Array.getElem?_eq_some_iff.1 h).1 (fun h => h)]; exact h⟩⟩
theorem Stay.cell {w w' : World} (h : Stay w w') {p : Addr} {v : Value} (hc : w.cell? p = some v) : w'.cell? p = some v := by
  unfold World.cell? at hc ⊢
  cases ho : w.heap[p.block]? with
  | none => rw [ho] at hc; cases hc
  | some o =>
    rw [ho] at hc
    cases o with
    | cells cs t m => obtain ⟨m', e⟩ := h.row _ _ _ _ ho; rw [e]; exact hc
    | _ => cases hc
theorem Src.stay {w w' : World} {ao : Option Addr} {m c : Nat} {cells : List Value} {size : Nat} (h : Src w ao m c cells size) (s : Stay w w') : Src w' ao m c cells size := ⟨h.len, h.nil, fun ad e j u hu => s.cell (h.get ad e j u hu)⟩
theorem Lst.stay {w w' : World} {ao : Option Addr} {m c : Nat} {cells : List Value} {size : Nat} (h : Lst w ao m c cells size) (s : Stay w w') : Lst w' ao m c cells size := ⟨h.src.stay s, h.pos, h.le, h.mx⟩

theorem freeze_heap (w : World) (p : Addr) : ∃ f : Obj → Obj, (w.freeze p 1).heap = w.heap.modify p.block f ∧ ∀ cs t m, ∃ m', f (.cells cs t m) = .cells cs t m' := by
  unfold World.freeze
  rw [if_neg (by decide)]
  refine ⟨fun | .cells c elem (lo, hi) => .cells c elem (if lo == hi then (p.off, p.off + 1) else (min lo p.off, max hi (p.off + 1))) | o => o, rfl, fun cs t m => ?_⟩
  obtain ⟨lo, hi⟩ := m
  exact ⟨_, rfl⟩
theorem Stay.freeze (w : World) (p : Addr) : Stay w (w.freeze p 1) := by
  obtain ⟨f, hf, hc⟩ := freeze_heap w p
  refine ⟨by rw [hf]; simp, fun g cs t m h => ?_⟩
  rw [hf, Array.getElem?_modify]
  split
  · rename_i e; subst e; rw [h]; obtain ⟨m', e⟩ := hc cs t m; exact ⟨m', by rw [Option.map_some, e]⟩
  · exact ⟨m, h⟩
theorem Chg.freeze {w w' : World} {P : Nat → Prop} (h : Chg w w' P) (p : Addr) (hp : p.block < w.heap.size → P p.block) : Chg w (w'.freeze p 1) P := by
  obtain ⟨f, hf, _⟩ := freeze_heap w' p
  exact h.trans' (Q := fun k => k = p.block) ⟨by unfold World.freeze; rw [if_neg (by decide)], by unfold World.freeze; rw [if_neg (by decide)], by unfold World.freeze; rw [if_neg (by decide)], by rw [hf]; simp, fun k _ hn => by rw [hf, Array.getElem?_modify]; rw [if_neg (fun e => hn e.symm)]⟩ (fun i hi e => by subst e; exact hp hi)

/-- The conversion behind a constant's bytes: a mark, wherever the row lies. -/
theorem run_convert_row {P : Program} (w : World) (t e : TypeId) (g : Nat) (C : Array Value) (m : Nat × Nat) (n c : Nat) (ht : P.underlying t = some (.slice e)) (he : P.underlying e = some (.int .u8)) (h : w.heap[g]? = some (.cells C e m)) :
    (convert t t (.slice (some ⟨g, 0, none⟩) n c)).run P w = .ok (.slice (some ⟨g, 0, none⟩) n c) (w.freeze ⟨g, C.size, none⟩ 1) := by
  have hsh : w.shape? g = some (e, C.size) := by
    unfold World.shape?
    rw [h]
  simp [convert, run_underlying ht, run_underlying he, markStringish, hsh]
theorem row_src {w : World} {g : Nat} {t : TypeId} {cs : Array Value} {mk : Nat × Nat} (h : w.heap[g]? = some (.cells cs t mk)) (m c size : Nat) (cells : List Value) (hc : cs.toList = cells) (hl : cells.length = m * size) : Src w (some ⟨g, 0, none⟩) m c cells size := by
  subst hc
  refine ⟨hl, fun h => (by cases h), fun ad he j u hu => ?_⟩
  injection he with he
  subst he
  rw [Addr.add_lit, Nat.zero_add, cell_of_row w g j cs t mk h]
  simpa using hu
end Go.Proofs.Ytiedfglkjkaefaa
