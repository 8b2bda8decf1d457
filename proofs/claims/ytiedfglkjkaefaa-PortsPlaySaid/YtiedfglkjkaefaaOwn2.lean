/- Rows that the call owns: laws without a program in sight (a part of XDel, for seats that lack the Tlb's types). -/
import Derived.Test.YtiedfglkjkaefaaLst
import Derived.Deep.AppendLies
import Derived.BigQuiet
namespace Go.Proofs.Ytiedfglkjkaefaa
open Go.RowKit

theorem own_alloc {w : World} {base : Nat} {e : TypeId} {size : Nat} {v : Value} {n : Nat} {xs : List Value} (h : w.ownsRow base e size v n xs) (o : Obj) : (w.alloc o).ownsRow base e size v n xs :=
  own_chg h ((Chg.refl w (fun _ => False)).alloc o) (fun _ _ h => h)
theorem own_drew {w : World} {base : Nat} {e : TypeId} {size : Nat} {v : Value} {n : Nat} {xs : List Value} (h : w.ownsRow base e size v n xs) : w.drew.ownsRow base e size v n xs := h

theorem own_frozen {w : World} {base : Nat} {e : TypeId} {size : Nat} {g n cap : Nat} {xs : List Value} (h : w.ownsRow base e size (.slice (some ⟨g, 0, none⟩) n cap) n xs) : ∀ k, w.frozen? ⟨g, k, none⟩ = false := by
  intro k
  rcases h.2 with ⟨h0, _⟩ | ⟨b, cap', cur, hv, _, hh, _⟩
  · cases h0
  · injection hv with hv
    injection hv with hv
    have : g = b := congrArg Addr.block hv
    subst this
    simp [World.frozen?, hh]
theorem own_block {w : World} {base : Nat} {e : TypeId} {size : Nat} {v : Value} {n : Nat} {xs : List Value} (h : w.ownsRow base e size v n xs) (hn : 0 < n) : ∃ g cap, v = .slice (some ⟨g, 0, none⟩) n cap ∧ base ≤ g ∧ g < w.heap.size ∧ n ≤ cap ∧ cap ≤ maxLen := by
  obtain ⟨ao, cap, rfl, h1, h2, h3, h4⟩ := own_form h
  cases ao with
  | none => have := (h3 rfl).1; omega
  | some ad => obtain ⟨g, rfl, h5, h6⟩ := h4 ad rfl; exact ⟨g, cap, rfl, h5, h6, h1, h2⟩
theorem own_lst {w : World} {base : Nat} {e : TypeId} {size : Nat} {ao : Option Addr} {cap n : Nat} {xs : List Value} (h : w.ownsRow base e size (.slice ao n cap) n xs) : Lst w ao n cap xs size := by
  obtain ⟨ao', cap', hv, h1, h2, h3, h4⟩ := own_form h
  injection hv with e1 e2 e3
  subst e1; subst e3
  refine ⟨own_src h, fun hp => ?_, h1, h2⟩
  cases ao with
  | none => have := (h3 rfl).1; omega
  | some ad => obtain ⟨g, rfl, _⟩ := h4 ad rfl; exact ⟨g, 0, rfl⟩

theorem own_take {w : World} {base g cap n : Nat} {e : TypeId} {size : Nat} {xs : List Value} (h : w.ownsRow base e size (.slice (some ⟨g, 0, none⟩) n cap) n xs) (i : Nat) (hi : i ≤ n) : w.ownsRow base e size (.slice (some ⟨g, 0, none⟩) i cap) i (xs.take (i * size)) := by
  have hm : i * size ≤ n * size := Nat.mul_le_mul_right _ hi
  refine ⟨by rw [List.length_take, h.1]; omega, .inr ?_⟩
  rcases h.2 with ⟨h0, _⟩ | ⟨b, cap', cur, hv, hb, hh, hc, hmx, hs, ht⟩
  · cases h0
  · injection hv with e1 e2 e3
    subst e3
    refine ⟨b, cap, cur, ?_, hb, hh, by omega, hmx, hs, by rw [← ht, List.take_take, Nat.min_eq_left hm]⟩
    rw [e1]
theorem own_cells {w : World} {base g cap n : Nat} {e : TypeId} {size : Nat} {xs : List Value} (h : w.ownsRow base e size (.slice (some ⟨g, 0, none⟩) n cap) n xs) : ∀ j u, xs[j]? = some u → w.cell? ⟨g, j, none⟩ = some u := by
  intro j u hu
  rcases h.2 with ⟨h0, _⟩ | ⟨b, cap', cur, hv, hb, hh, hc, hmx, hs, ht⟩
  · cases h0
  · injection hv with e1 e2 e3
    injection e1 with e1
    have : g = b := congrArg Addr.block e1
    subst this
    rw [cell_of_row w g j cur e (0, 0) hh]
    rw [← ht, List.getElem?_take] at hu
    split at hu
    · simpa using hu
    · cases hu
theorem own_cap {w : World} {base g cap n : Nat} {e : TypeId} {size : Nat} {xs : List Value} (h : w.ownsRow base e size (.slice (some ⟨g, 0, none⟩) n cap) n xs) : n ≤ cap ∧ cap ≤ maxLen ∧ base ≤ g ∧ g < w.heap.size := by
  rcases h.2 with ⟨h0, _⟩ | ⟨b, cap', cur, hv, hb, hh, hc, hmx, hs, ht⟩
  · cases h0
  · injection hv with e1 e2 e3
    injection e1 with e1
    have : g = b := congrArg Addr.block e1
    subst this e3
    exact ⟨hc, hmx, hb, (Array.getElem?_eq_some_iff.1 hh).1⟩

theorem Chg.drewL {w w' : World} {P : Nat → Prop} (h : Chg w.drew w' P) : Chg w w' P := ⟨h.os, h.tape, h.output, h.size, h.block⟩
theorem chg_setRow (w : World) (g : Nat) (cs : Array Value) : Chg w (w.setRow g cs) (fun k => k = g) := ⟨rfl, rfl, rfl, by simp, fun k _ hn => setRow_other w g k cs hn⟩


theorem own_ne {w : World} {base g : Nat} {e t : TypeId} {size : Nat} {v : Value} {n : Nat} {xs : List Value} {cs : Array Value} (h : w.ownsRow base e size v n xs) (hb : Box w g t cs) (he : e ≠ t) : ∀ k, v.ownBlock = some k → k ≠ g := by
  intro k hk e2
  subst e2
  rcases h.2 with ⟨rfl, _⟩ | ⟨b, cap, cur, rfl, _, hh, _⟩
  · cases hk
  · injection hk with hk
    unfold Box at hb
    have hk' : b = k := hk
    subst hk'
    rw [hh] at hb
    injection hb with hb
    injection hb with _ hb
    exact he hb
theorem box_grown {w w' : World} {g : Nat} {t : TypeId} {cs : Array Value} {row : Option Nat} (h : Box w g t cs) (hg : World.grownBy w.drew w' row) (hn : some g ≠ row) : Box w' g t cs := (hg.block g h.lt hn).trans h
theorem box_grow {w w' : World} {g : Nat} {t : TypeId} {cs : Array Value} {row : Option Nat} (h : Box w g t cs) (hg : World.grownBy w w' row) (hn : some g ≠ row) : Box w' g t cs := (hg.block g h.lt hn).trans h
theorem own_own_ne {w : World} {base base2 : Nat} {e t : TypeId} {size size2 : Nat} {v u : Value} {n m : Nat} {xs ys : List Value} (h : w.ownsRow base e size v n xs) (k : w.ownsRow base2 t size2 u m ys) (he : e ≠ t) : ∀ b, v.ownBlock = some b → u.ownBlock ≠ some b := by
  intro b hb hc
  rcases k.2 with ⟨rfl, _⟩ | ⟨b2, cap, cur, rfl, _, hh, _⟩
  · cases hc
  · injection hc with hc
    have hc' : b2 = b := hc
    subst hc'
    exact own_ne (cs := cur) h hh he _ hb rfl

/-- An own row: one cell is turned. -/
theorem own_setB {w : World} {base g cap n size : Nat} {e : TypeId} {xs : List Value} (h : w.ownsRow base e size (.slice (some ⟨g, 0, none⟩) n cap) n xs) (j : Nat) (u : Value) :
    (w.setCell ⟨g, j, none⟩ u).ownsRow base e size (.slice (some ⟨g, 0, none⟩) n cap) n (xs.set j u) := by
  rcases h.2 with ⟨h0, _⟩ | ⟨b, cap', cur, hv, hb, hh, hc, hmx, hs, ht⟩
  · cases h0
  · injection hv with e1 e2 e3
    injection e1 with e1
    have : g = b := congrArg Addr.block e1
    subst this e3
    refine ⟨by rw [List.length_set]; exact h.1, .inr ⟨g, cap, cur.setIfInBounds j u, rfl, hb, ?_, hc, hmx, by simpa using hs, ?_⟩⟩
    · have := setCell_eq_setRow w g j cur e (0, 0) u hh
      rw [this]
      exact setRow_heap w g cur _ e _ hh
    · rw [Array.toList_setIfInBounds, ← ht, List.take_set]
end Go.Proofs.Ytiedfglkjkaefaa
