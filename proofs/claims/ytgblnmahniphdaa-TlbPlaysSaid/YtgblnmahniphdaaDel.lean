/- slices.Delete of one key; laws of rows that the call owns. -/
import Derived.Test.YtgblnmahniphdaaMap
import Derived.Test.YtgblnmahniphdaaLst
import Derived.Deep.AppendLies
import Derived.StillTailTactics
import Derived.Laws.CopyRow
import Derived.Deep.RegionLaw
import Derived.BigQuiet
namespace Go.Proofs.Ytgblnmahniphdaa
open Go.RowKit

def kCells (a : KeyD) : List Value := [.int .i64 a.1, .int .i64 a.2]
theorem info_key : (Try.prog.info? 60).map (fun i => (i.zero, i.size, i.bytes)) = some (some (.agg #[.int .i64 0, .int .i64 0]), 2, 16) := by kernel_rfl
theorem k_one (l : List KeyD) : ∀ u ∈ l.flatMap kCells, u.oneCell' = true := by
  intro u hu
  obtain ⟨p, _, h⟩ := List.mem_flatMap.1 hu
  simp only [kCells, List.mem_cons, List.not_mem_nil, or_false] at h
  rcases h with rfl | rfl <;> rfl

theorem own_ne {w : World} {base g : Nat} {e t : TypeId} {size : Nat} {v : Value} {n : Nat} {xs : List Value} {cs : Array Value} (h : w.ownsRow base e size v n xs) (hb : Box w g t cs) (he : e ≠ t) : ∀ k, v.ownBlock = some k → k ≠ g := by
  intro k hk e2
  subst e2
  rcases h.2 with ⟨rfl, _⟩ | ⟨b, cap, cur, rfl, _, hh, _⟩
  · cases hk
  · injection hk with hk
    unfold Box at hb
    have hk' : b = k := hk
    subst hk'
    rw [hh] at hb
    injection hb with hb
    injection hb with _ hb
    exact he hb

theorem own_alloc {w : World} {base : Nat} {e : TypeId} {size : Nat} {v : Value} {n : Nat} {xs : List Value} (h : w.ownsRow base e size v n xs) (o : Obj) : (w.alloc o).ownsRow base e size v n xs :=
  own_chg h ((Chg.refl w (fun _ => False)).alloc o) (fun _ _ h => h)
theorem box_grown {w w' : World} {g : Nat} {t : TypeId} {cs : Array Value} {row : Option Nat} (h : Box w g t cs) (hg : World.grownBy w.drew w' row) (hn : some g ≠ row) : Box w' g t cs := (hg.block g h.lt hn).trans h
theorem own_own_ne {w : World} {base base2 : Nat} {e t : TypeId} {size size2 : Nat} {v u : Value} {n m : Nat} {xs ys : List Value} (h : w.ownsRow base e size v n xs) (k : w.ownsRow base2 t size2 u m ys) (he : e ≠ t) : ∀ b, v.ownBlock = some b → u.ownBlock ≠ some b := by
  intro b hb hc
  rcases k.2 with ⟨rfl, _⟩ | ⟨b2, cap, cur, rfl, _, hh, _⟩
  · cases hc
  · injection hc with hc
    have hc' : b2 = b := hc
    subst hc'
    exact own_ne (cs := cur) h hh he _ hb rfl
theorem own_drew {w : World} {base : Nat} {e : TypeId} {size : Nat} {v : Value} {n : Nat} {xs : List Value} (h : w.ownsRow base e size v n xs) : w.drew.ownsRow base e size v n xs := h

theorem own_frozen {w : World} {base : Nat} {e : TypeId} {size : Nat} {g n cap : Nat} {xs : List Value} (h : w.ownsRow base e size (.slice (some ⟨g, 0, none⟩) n cap) n xs) : ∀ k, w.frozen? ⟨g, k, none⟩ = false := by
  intro k
  rcases h.2 with ⟨h0, _⟩ | ⟨b, cap', cur, hv, _, hh, _⟩
  · cases h0
  · injection hv with hv
    injection hv with hv
    have : g = b := congrArg Addr.block hv
    subst this
    simp [World.frozen?, hh]
theorem own_block {w : World} {base : Nat} {e : TypeId} {size : Nat} {v : Value} {n : Nat} {xs : List Value} (h : w.ownsRow base e size v n xs) (hn : 0 < n) : ∃ g cap, v = .slice (some ⟨g, 0, none⟩) n cap ∧ base ≤ g ∧ g < w.heap.size ∧ n ≤ cap ∧ cap ≤ maxLen := by
  obtain ⟨ao, cap, rfl, h1, h2, h3, h4⟩ := own_form h
  cases ao with
  | none => have := (h3 rfl).1; omega
  | some ad => obtain ⟨g, rfl, h5, h6⟩ := h4 ad rfl; exact ⟨g, cap, rfl, h5, h6, h1, h2⟩
theorem own_lst {w : World} {base : Nat} {e : TypeId} {size : Nat} {ao : Option Addr} {cap n : Nat} {xs : List Value} (h : w.ownsRow base e size (.slice ao n cap) n xs) : Lst w ao n cap xs size := by
  obtain ⟨ao', cap', hv, h1, h2, h3, h4⟩ := own_form h
  injection hv with e1 e2 e3
  subst e1; subst e3
  refine ⟨own_src h, fun hp => ?_, h1, h2⟩
  cases ao with
  | none => have := (h3 rfl).1; omega
  | some ad => obtain ⟨g, rfl, _⟩ := h4 ad rfl; exact ⟨g, 0, rfl⟩

theorem own_take {w : World} {base g cap n : Nat} {e : TypeId} {size : Nat} {xs : List Value} (h : w.ownsRow base e size (.slice (some ⟨g, 0, none⟩) n cap) n xs) (i : Nat) (hi : i ≤ n) : w.ownsRow base e size (.slice (some ⟨g, 0, none⟩) i cap) i (xs.take (i * size)) := by
  have hm : i * size ≤ n * size := Nat.mul_le_mul_right _ hi
  refine ⟨by rw [List.length_take, h.1]; omega, .inr ?_⟩
  rcases h.2 with ⟨h0, _⟩ | ⟨b, cap', cur, hv, hb, hh, hc, hmx, hs, ht⟩
  · cases h0
  · injection hv with e1 e2 e3
    subst e3
    refine ⟨b, cap, cur, ?_, hb, hh, by omega, hmx, hs, by rw [← ht, List.take_take, Nat.min_eq_left hm]⟩
    rw [e1]
theorem own_cells {w : World} {base g cap n : Nat} {e : TypeId} {size : Nat} {xs : List Value} (h : w.ownsRow base e size (.slice (some ⟨g, 0, none⟩) n cap) n xs) : ∀ j u, xs[j]? = some u → w.cell? ⟨g, j, none⟩ = some u := by
  intro j u hu
  rcases h.2 with ⟨h0, _⟩ | ⟨b, cap', cur, hv, hb, hh, hc, hmx, hs, ht⟩
  · cases h0
  · injection hv with e1 e2 e3
    injection e1 with e1
    have : g = b := congrArg Addr.block e1
    subst this
    rw [cell_of_row w g j cur e (0, 0) hh]
    rw [← ht, List.getElem?_take] at hu
    split at hu
    · simpa using hu
    · cases hu
theorem own_cap {w : World} {base g cap n : Nat} {e : TypeId} {size : Nat} {xs : List Value} (h : w.ownsRow base e size (.slice (some ⟨g, 0, none⟩) n cap) n xs) : n ≤ cap ∧ cap ≤ maxLen ∧ base ≤ g ∧ g < w.heap.size := by
  rcases h.2 with ⟨h0, _⟩ | ⟨b, cap', cur, hv, hb, hh, hc, hmx, hs, ht⟩
  · cases h0
  · injection hv with e1 e2 e3
    injection e1 with e1
    have : g = b := congrArg Addr.block e1
    subst this e3
    exact ⟨hc, hmx, hb, (Array.getElem?_eq_some_iff.1 hh).1⟩

theorem Chg.drewL {w w' : World} {P : Nat → Prop} (h : Chg w.drew w' P) : Chg w w' P := ⟨h.os, h.tape, h.output, h.size, h.block⟩
theorem chg_setRow (w : World) (g : Nat) (cs : Array Value) : Chg w (w.setRow g cs) (fun k => k = g) := ⟨rfl, rfl, rfl, by simp, fun k _ hn => setRow_other w g k cs hn⟩

/-- 'append(s[:i], s[j:]...)' in place: the elements from i to j are cut out. -/
theorem run_append_cut {w : World} {P : Program} {t ty e : TypeId} {i0 : TypeInfo} {base g cap n i j size c : Nat} {ad : Addr} {xs : List Value} (ht : P.underlying t = some (.slice e)) (hi0 : P.info? e = some i0) (hs : i0.size = size)
    (h : w.ownsRow base e size (.slice (some ⟨g, 0, none⟩) n cap) n xs) (h1 : ∀ u ∈ xs, u.oneCell' = true) (hij : i ≤ j) (hj : j ≤ n) (had : j = n ∨ ad = ⟨g, j * size, none⟩) :
    ∃ w', (Builtin.append_ #[t, t] ty #[.slice (some ⟨g, 0, none⟩) i cap, .slice (some ad) (n - j) c]).run P w = .ok (.slice (some ⟨g, 0, none⟩) (i + (n - j)) cap) w' ∧
      w'.ownsRow base e size (.slice (some ⟨g, 0, none⟩) (i + (n - j)) cap) (i + (n - j)) (xs.take (i * size) ++ xs.drop (j * size)) ∧ Chg w w' (fun k => k = g) := by
  subst hs
  have hcap := own_cap h
  have hcells := own_cells h
  have hlen := h.1
  have hjn : j * i0.size ≤ n * i0.size := Nat.mul_le_mul_right _ hj
  have hin : i * i0.size ≤ n * i0.size := Nat.mul_le_mul_right _ (by omega)
  have hT := own_take h i (by omega)
  rcases hT.2 with ⟨h0, _⟩ | ⟨b, cap', cur, hv, hb, hh, hc, hmx, hcs, htk⟩
  · cases h0
  injection hv with e1 e2 e3
  injection e1 with e1
  have : g = b := congrArg Addr.block e1
  subst this e3
  have hl : (xs.drop (j * i0.size)).length = (n - j) * i0.size := by rw [List.length_drop, hlen, Nat.sub_mul]
  have hr := run_append_room (P := P) w t ty e i0 ht hi0 g i cap cur hh ad (n - j) c (xs.drop (j * i0.size)) hl (fun k u hu => by
      rcases had with rfl | rfl
      · rw [List.drop_eq_nil_of_le (by omega)] at hu; cases hu
      · rw [List.getElem?_drop] at hu
        rw [Addr.add_lit]
        exact hcells _ _ hu) (fun u hu => h1 u (List.mem_of_mem_drop hu)) (by omega) (by rw [hl, hcs, ← Nat.add_mul]; exact Nat.mul_le_mul_right _ (by omega))
  have hl2 : (xs.take (i * i0.size) ++ xs.drop (j * i0.size)).length = (i + (n - j)) * i0.size := by
    rw [List.length_append, hl, List.length_take, hlen, Nat.add_mul]
    omega
  have hfit : (i + (n - j)) * i0.size ≤ cap * i0.size := Nat.mul_le_mul_right _ (by omega)
  refine ⟨_, hr, ⟨hl2, .inr ⟨g, cap, _, rfl, hb, setRow_heap w g cur _ e _ hh, by omega, hmx, ?_, ?_⟩⟩, chg_setRow w g _⟩
  · simp only [List.size_toArray, List.length_append, List.length_take, List.length_drop, Array.length_toList]
    have hl' : xs.length - j * i0.size = (n - j) * i0.size := by rw [← hl, List.length_drop]
    rw [hl', hcs]
    rw [Nat.add_mul] at hfit
    clear hl2 hl hr
    omega
  · rw [htk, ← hl2]
    exact List.take_left

theorem size_zc (z : Array Value) (n : Nat) : (Builtin.zeroCells z n).size = n * z.size := by simp [Builtin.zeroCells]
/-- 'clear' behind what is owned. -/
theorem run_clear_own {w : World} {P : Program} {t ty e : TypeId} {z : Value} {size base g cap n m c : Nat} {xs : List Value} (ht : P.underlying t = some (.slice e)) (hz : (zeroValue e).run P w = .ok z w) (hzs : z.cells.size = size) (h1 : ∀ v ∈ z.cells.toList, v.oneCell' = true) (hpos : 0 < size)
    (h : w.ownsRow base e size (.slice (some ⟨g, 0, none⟩) n cap) n xs) (hm : n + m ≤ cap) (hm0 : 0 < m) :
    ∃ w', (Builtin.clear_ #[t] ty #[.slice (some ⟨g, n * size, none⟩) m c]).run P w = .ok (.tuple #[]) w' ∧ w'.ownsRow base e size (.slice (some ⟨g, 0, none⟩) n cap) n xs ∧ Chg w w' (fun k => k = g) := by
  subst hzs
  rcases h.2 with ⟨h0, _⟩ | ⟨b, cap', cur, hv, hb, hh, hc, hmx, hcs, htk⟩
  · cases h0
  injection hv with e1 e2 e3
  injection e1 with e1
  have : g = b := congrArg Addr.block e1
  subst this e3
  have hzl : (Builtin.zeroCells z.cells m).toList.length = m * z.cells.size := by rw [Array.length_toList, size_zc]
  have hfit : n * z.cells.size + m * z.cells.size ≤ cap * z.cells.size := by rw [← Nat.add_mul]; exact Nat.mul_le_mul_right _ hm
  have hone : ∀ v ∈ (Builtin.zeroCells z.cells m).toList, v.oneCell' = true := by
    intro v hv
    simp only [Builtin.zeroCells, Array.toList_map, List.mem_map] at hv
    obtain ⟨k, _, rfl⟩ := hv
    have hk : k % z.cells.size < z.cells.size := Nat.mod_lt _ hpos
    apply h1
    rw [getElem!_pos z.cells _ hk]
    exact Array.getElem_mem_toList hk
  have hst := run_storeCells_at (P := P) g (n * z.cells.size) e (Builtin.zeroCells z.cells m).toList 0 cur w hh (by rw [hzl, hcs]; omega) hone
  obtain ⟨k, rfl⟩ : ∃ k, m = k + 1 := ⟨m - 1, by omega⟩
  refine ⟨w.setRow g (cur.toList.take (n * z.cells.size + 0) ++ (Builtin.zeroCells z.cells (k + 1)).toList ++ cur.toList.drop (n * z.cells.size + 0 + (Builtin.zeroCells z.cells (k + 1)).toList.length)).toArray, ?_, ⟨h.1, .inr ⟨g, cap, _, rfl, hb, setRow_heap w g cur _ e _ hh, hc, hmx, ?_, ?_⟩⟩, chg_setRow w g _⟩
  · simp only [Builtin.clear_, run_underlying ht, hz, hst, Sem.run_bind, Sem.run_pure, Result.andThen_ok, List.getElem?_toArray, List.getElem?_cons_zero]
  · simp only [List.size_toArray, List.length_append, List.length_take, List.length_drop, Array.length_toList]
    rw [Array.length_toList] at hzl
    omega
  · rw [← htk, Nat.add_zero]
    simp only [List.append_assoc]
    rw [List.take_append_of_le_length (by rw [List.length_take, Array.length_toList]; omega), List.take_take, Nat.min_self]

/-- At a step of a region that draws: a builtin of two arguments whose run is known. -/
theorem step_append_of {P : Program} {ops : Array Oper} {o : Oper} {a : Act} {w : World} {K : Act → World → Prop} {Q : Exit → Act → World → Prop} {E : Prop} (hgd : o.guard = none) (s x : Operand) (t : TypeId)
    (ho : o.op = .call { callee := .builtin .append, args := #[s, x], argTypes := #[t, t] }) (v u r : Value) (hs : a.eval s = v) (hx : a.eval x = u) (R : World → Prop)
    (hr : ∃ w', (Builtin.append_ #[t, t] o.type #[v, u]).run P w = .ok r w' ∧ R w') (h : ∀ w', R w' → K (a.put o.dst r) w') :
    if Region.wanted o (yielded ops a.tmps) = true then Oper.wp P o a w K Q else E := by
  have hw : Region.wanted o (yielded ops a.tmps) = true := by simp [Region.wanted, hgd]
  rw [if_pos hw]
  obtain ⟨w', hrun, hR⟩ := hr
  unfold Oper.wp execOp
  simp only [ho, resolve, invoke, builtin, Sem.run_bind, Sem.run_pure, Result.andThen_ok, List.map_toArray, List.map_cons, List.map_nil, hs, hx, hrun]
  exact h w' hR
theorem step_delete_of {P : Program} {ops : Array Oper} {o : Oper} {a : Act} {w : World} {K : Act → World → Prop} {Q : Exit → Act → World → Prop} {E : Prop} (hgd : o.guard = none) (s x : Operand) (t k : TypeId)
    (ho : o.op = .call { callee := .builtin .delete, args := #[s, x], argTypes := #[t, k] }) (v u r : Value) (hs : a.eval s = v) (hx : a.eval x = u) (R : World → Prop)
    (hr : ∃ w', (Builtin.delete_ #[t, k] o.type #[v, u]).run P w = .ok r w' ∧ R w') (h : ∀ w', R w' → K (a.put o.dst r) w') :
    if Region.wanted o (yielded ops a.tmps) = true then Oper.wp P o a w K Q else E := by
  have hw : Region.wanted o (yielded ops a.tmps) = true := by simp [Region.wanted, hgd]
  rw [if_pos hw]
  obtain ⟨w', hrun, hR⟩ := hr
  unfold Oper.wp execOp
  simp only [ho, resolve, invoke, builtin, Sem.run_bind, Sem.run_pure, Result.andThen_ok, List.map_toArray, List.map_cons, List.map_nil, hs, hx, hrun]
  exact h w' hR
/-- At the list of a plain region: 'clear' whose run is known. -/
theorem wpList_clear_of {P : Program} {w : World} {ops : Array Oper} {rest : List Oper} {o : Oper} {a : Act} {Q : Exit → Act → World → Prop} (hgd : o.guard = none) (s : Operand) (t : TypeId)
    (ho : o.op = .call { callee := .builtin .clear, args := #[s], argTypes := #[t] }) (v r : Value) (hs : a.eval s = v) (R : World → Prop)
    (hr : ∃ w', (Builtin.clear_ #[t] o.type #[v]).run P w = .ok r w' ∧ R w') (h : ∀ w', R w' → wpList P ops Q rest (a.put o.dst r) w') : wpList P ops Q (o :: rest) a w := by
  refine wpList_plain hgd fun K' hK' => ?_
  obtain ⟨w', hrun, hR⟩ := hr
  unfold Oper.wp execOp
  simp only [ho, resolve, invoke, builtin, Sem.run_bind, Sem.run_pure, Result.andThen_ok, List.map_toArray, List.map_cons, List.map_nil, hs, hrun]
  exact hK' _ _ (h w' hR)
end Go.Proofs.Ytgblnmahniphdaa
