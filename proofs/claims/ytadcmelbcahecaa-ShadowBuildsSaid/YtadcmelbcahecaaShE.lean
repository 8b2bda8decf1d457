/- shadow: sorting, compacting, deleting in a row of the call. -/
import Derived.Test.YtadcmelbcahecaaShD
import Derived.Test.YtadcmelbcahecaaShLay2
import Derived.Lib.RowBridge
import Derived.Sort.OwnSortedInts
namespace Go.Proofs.Ytadcmelbcahecaa
open Go.RowKit Go.Shelf Go.Sort

theorem chg_putRow (enc : Int → Value) (w : World) (blk off : Nat) (d : Array Int) : Chg w (putRow enc w blk off d) (fun k => k = blk) :=
  ⟨rfl, rfl, rfl, by simp, fun k _ hne => by
    simp only [putRow, mapBlock, Array.getElem?_modify]
    rw [if_neg (fun h => hne h.symm)]⟩
theorem chg_grow (w : World) (os : Array Obj) : Chg w (grow w os) (fun _ => False) :=
  ⟨rfl, rfl, rfl, by simp [grow], fun k hk _ => heap_grow_old w os hk⟩
theorem chg_ahead (w : World) (n : Nat) : Chg w (Go.Sort.ahead w n) (fun _ => False) := ⟨rfl, rfl, rfl, Nat.le_refl _, fun _ _ _ => rfl⟩
theorem holds_chg {w w' : World} {P : Nat → Prop} {blk off : Nat} {d : Array Int} (c : Chg w w' P) (h : Holds (Value.int .i64) w blk off d) (hn : ¬ P blk) : Holds (Value.int .i64) w' blk off d :=
  fun j hj => ⟨c.cell (h j hj).1 hn, (c.frozen (h j hj).1 hn).trans (h j hj).2⟩
theorem holds_pre {w : World} {blk off : Nat} {d : Array Int} {xs ys : List Int} (h : Holds (Value.int .i64) w blk off d) (he : d = (xs ++ ys).toArray) : Holds (Value.int .i64) w blk off xs.toArray := fun j hj => by
  subst he
  have hj' : j < (xs ++ ys).toArray.size := by simp at hj ⊢; omega
  obtain ⟨a, b⟩ := h j hj'
  refine ⟨a.trans ?_, b⟩
  have : j < xs.length := by simpa using hj
  rw [getElem!_pos _ j hj', getElem!_pos _ j hj]
  simp [List.getElem_append_left this]

theorem sort_any (blk cap : Nat) (zs : List Int) (w : World) (hH : Holds (Value.int .i64) w blk 0 zs.toArray) (hb : blk < w.heap.size) (hz : zs.length < 4611686018427387904) :
    Calls Try.prog 32 #[.slice (some ⟨blk, 0, none⟩) zs.length cap] w fun e w' => e = .returned (.tuple #[]) ∧ Holds (Value.int .i64) w' blk 0 (zs.mergeSort fun x y => decide (x ≤ y)).toArray ∧ Chg w w' (fun k => k = blk) := by
  have hcon := Any.slices_Sort_int Try.laySort blk 0 cap zs w hH hb hz
  change Calls Try.prog 32 _ _ _ at hcon
  refine hcon.mono ?_
  rintro e w' ⟨rfl, n, os, rfl⟩
  have h1 := holds_chg (chg_ahead w n) hH (fun h => h)
  have h2 := holds_putRow (Value.int .i64) (Go.Sort.ahead w n) blk 0 zs.toArray (zs.mergeSort fun x y => decide (x ≤ y)).toArray h1 (by simp)
  exact ⟨rfl, holds_chg (chg_grow _ os) h2 (fun h => h), (((chg_ahead w n).mono (fun _ _ h => h.elim)).trans (chg_putRow _ _ _ _ _)).trans' (chg_grow _ os) (fun _ _ h => h.elim)⟩

theorem compact_any (blk cap : Nat) (zs : List Int) (w : World) (hH : Holds (Value.int .i64) w blk 0 zs.toArray) (hz : zs.length ≤ 9223372036854775807) (hc : zs.length ≤ cap) :
    Calls Try.prog 33 #[.slice (some ⟨blk, 0, none⟩) zs.length cap] w fun e w' => e = .returned (.slice (some ⟨blk, 0, none⟩) (Lib.compact zs).length cap) ∧ Holds (Value.int .i64) w' blk 0 (Lib.compact zs).toArray ∧ Chg w w' (fun k => k = blk) := by
  have hcon := Any.slices_Compact_int Try.layCompact blk 0 cap zs w hH hz hc
  change Calls Try.prog 33 _ _ _ at hcon
  refine hcon.mono ?_
  rintro e w' ⟨rfl, n, rfl⟩
  have h1 := holds_chg (chg_ahead w n) hH (fun h => h)
  have h2 := holds_putRow (Value.int .i64) (Go.Sort.ahead w n) blk 0 zs.toArray (Lib.compact zs ++ List.replicate (zs.length - (Lib.compact zs).length) 0).toArray h1 (by have := Lib.compact_length_le zs; simp; omega)
  exact ⟨rfl, holds_pre h2 rfl, ((chg_ahead w n).mono (fun _ _ h => h.elim)).trans (chg_putRow _ _ _ _ _)⟩

set_option maxHeartbeats 1000000 in
theorem tables1_any (lim x : Int) (B : Nat) (W : World) (hc : W.cell? ⟨B, 0, none⟩ = some (.int .i64 lim)) :
    FnGives Try.prog 35 #[.pointer (some ⟨B, 0, none⟩)] #[.int .i64 x] (.bool (decide (lim ≤ x))) W := by
  show Calls Try.prog 35 #[.int .i64 x, .pointer (some ⟨B, 0, none⟩)] W _
  go_enter Try.func35, Try.ntmps35
  go_wp2
  all_goals (go_ret; exact ⟨by simp_all, 0, rfl⟩)

theorem delete_any (lim : Int) (B blk cap : Nat) (zs : List Int) (w : World) (hB : B < w.heap.size) (hne : B ≠ blk) (hcell : w.cell? ⟨B, 0, none⟩ = some (.int .i64 lim)) (hH : Holds (Value.int .i64) w blk 0 zs.toArray) (hz : zs.length ≤ 9223372036854775807) (hc : zs.length ≤ cap) :
    Calls Try.prog 34 #[.slice (some ⟨blk, 0, none⟩) zs.length cap, .func (.func 35) #[] #[.pointer (some ⟨B, 0, none⟩)]] w fun e w' =>
      e = .returned (.slice (some ⟨blk, 0, none⟩) (zs.filter fun x => !decide (lim ≤ x)).length cap) ∧ Holds (Value.int .i64) w' blk 0 (zs.filter fun x => !decide (lim ≤ x)).toArray ∧ Chg w w' (fun k => k = blk) := by
  have eg : ∀ args w, (callFunc 35 args).run Try.prog w = .ok (.enter 35 args) w := enters_of Try.func35 (by kernel_rfl) rfl
  have hcon := AnyE.slices_DeleteFunc Try.layDelete (Value.int .i64) (fun _ => rfl) (fun x => decide (lim ≤ x)) 35 #[.pointer (some ⟨B, 0, none⟩)] eg 0 Try.zeroValue3 blk 0 cap zs.toArray w
    (fun W x hb => tables1_any lim x B W ((hb.cell (p := ⟨B, 0, none⟩) hB).trans hcell))
    (fun n os dk x _ => tables1_any lim x B _ (by
      unfold sortWorld
      rw [cell?_grow _ _ _ (by show B < (putRow _ _ _ _ _).heap.size; rw [size_putRow]; exact hB), cell?_putRow_other _ _ blk 0 _ _ (Or.inl hne)]
      exact hcell)) hH (by simpa using hz) (by simpa using hc)
  change Calls Try.prog 34 _ _ _ at hcon
  simp only [List.size_toArray] at hcon
  refine hcon.mono ?_
  rintro e w' ⟨rfl, n, rfl⟩
  have h1 := holds_chg (chg_ahead w n) hH (fun h => h)
  have h2 := holds_putRow (Value.int .i64) (Go.Sort.ahead w n) blk 0 zs.toArray ((zs.filter fun x => !decide (lim ≤ x)) ++ List.replicate (zs.length - (zs.filter fun x => !decide (lim ≤ x)).length) 0).toArray h1 (by have := List.length_filter_le (fun x => !decide (lim ≤ x)) zs; simp only [List.size_toArray, List.length_append, List.length_replicate]; omega)
  exact ⟨rfl, holds_pre h2 rfl, ((chg_ahead w n).mono (fun _ _ h => h.elim)).trans (chg_putRow _ _ _ _ _)⟩
end Go.Proofs.Ytadcmelbcahecaa
