/- Lists of structs that a slice value holds; blocks that are known whole. -/
import Derived.Test.YtiedfglkjkaefaaBase
import Derived.Test.YtiedfglkjkaefaaBytes
namespace Go.Proofs.Ytiedfglkjkaefaa
open Go.RowKit

theorem flat_get {α : Type} {β : Type} (f : α → List β) (n : Nat) (hf : ∀ x, (f x).length = n) : ∀ (l : List α) (k j : Nat), j < n → (hk : k < l.length) → (l.flatMap f)[k * n + j]? = (f l[k])[j]?
  | [], k, j, _, hk => by simp at hk
  | x :: l, 0, j, hj, _ => by
    rw [List.flatMap_cons, Nat.zero_mul, Nat.zero_add, List.getElem?_append_left (by rw [hf]; exact hj)]
    rfl
  | x :: l, k + 1, j, hj, hk => by
    rw [List.flatMap_cons, List.getElem?_append_right (by rw [hf, Nat.succ_mul]; omega), hf, show (k + 1) * n + j - n = k * n + j from by rw [Nat.succ_mul]; omega]
    exact flat_get f n hf l k j hj (by simpa using hk)

theorem flat_length {α : Type} {β : Type} (f : α → List β) (n : Nat) (hf : ∀ x, (f x).length = n) (l : List α) : (l.flatMap f).length = l.length * n := by
  induction l with
  | nil => simp
  | cons x l ih => simp [List.flatMap_cons, hf, ih, Nat.succ_mul]; omega

/-- A list of structs that a slice value holds. -/
structure Lst (w : World) (ao : Option Addr) (len cap : Nat) (cells : List Value) (size : Nat) : Prop where
  src : Src w ao len cap cells size
  pos : 0 < len → ∃ b o, ao = some ⟨b, o, none⟩
  le : len ≤ cap
  mx : cap ≤ maxLen

theorem Lst.chg {w w' : World} {ao : Option Addr} {len cap : Nat} {cells : List Value} {size : Nat} {P : Nat → Prop} (h : Lst w ao len cap cells size) (c : Chg w w' P) (hn : ∀ ad, ao = some ad → ¬ P ad.block) : Lst w' ao len cap cells size :=
  ⟨h.src.chg c hn, h.pos, h.le, h.mx⟩

theorem Lst.cell {α : Type} {f : α → List Value} {n : Nat} {w : World} {b o len cap : Nat} {l : List α} (hf : ∀ x, (f x).length = n) (h : Lst w (some ⟨b, o, none⟩) len cap (l.flatMap f) n) (k j : Nat) (hj : j < n) (hk : k < l.length) {v : Value} (hv : (f l[k])[j]? = some v) :
    w.cell? ⟨b, o + k * n + j, none⟩ = some v := by
  have := h.src.get _ rfl (k * n + j) v (by rw [flat_get f n hf l k j hj hk]; exact hv)
  rw [Addr.add_lit] at this
  rw [Nat.add_assoc]
  exact this

theorem Lst.cell0 {α : Type} {f : α → List Value} {n : Nat} {w : World} {b o len cap : Nat} {l : List α} (hf : ∀ x, (f x).length = n) (h : Lst w (some ⟨b, o, none⟩) len cap (l.flatMap f) n) (k : Nat) (hj : 0 < n) (hk : k < l.length) {v : Value} (hv : (f l[k])[0]? = some v) :
    w.cell? ⟨b, o + k * n, none⟩ = some v := Lst.cell hf h k 0 hj hk hv

/-- A block that is known whole. -/
def Box (w : World) (g : Nat) (t : TypeId) (cs : Array Value) : Prop := w.heap[g]? = some (.cells cs t (0, 0))
theorem Box.lt {w : World} {g : Nat} {t : TypeId} {cs : Array Value} (h : Box w g t cs) : g < w.heap.size := (Array.getElem?_eq_some_iff.1 h).1
theorem Box.new (w : World) (t : TypeId) (cs : Array Value) : Box (w.alloc (.cells cs t)) w.heap.size t cs := heap_alloc_new w _
theorem Box.alloc {w : World} {g : Nat} {t : TypeId} {cs : Array Value} (h : Box w g t cs) (o : Obj) : Box (w.alloc o) g t cs := (Below.heap_alloc w o g h.lt).trans h
theorem Box.chg {w w' : World} {g : Nat} {t : TypeId} {cs : Array Value} {P : Nat → Prop} (h : Box w g t cs) (c : Chg w w' P) (hn : ¬ P g) : Box w' g t cs := (c.block g h.lt hn).trans h
theorem Box.cell {w : World} {g : Nat} {t : TypeId} {cs : Array Value} (h : Box w g t cs) (i : Nat) : w.cell? ⟨g, i, none⟩ = cs[i]? := cell_of_row w g i cs t (0, 0) h
theorem Box.frozen {w : World} {g : Nat} {t : TypeId} {cs : Array Value} (h : Box w g t cs) (i : Nat) : w.frozen? ⟨g, i, none⟩ = false := by
  unfold Box at h
  simp [World.frozen?, h]
theorem Box.drew {w : World} {g : Nat} {t : TypeId} {cs : Array Value} (h : Box w g t cs) : Box w.drew g t cs := h
theorem Box.drewN {w : World} {g : Nat} {t : TypeId} {cs : Array Value} (h : Box w g t cs) (n : Nat) : Box (w.drewN n) g t cs := h
theorem Box.set {w : World} {g : Nat} {t : TypeId} {cs : Array Value} (h : Box w g t cs) (i : Nat) (u : Value) : Box (w.setCell ⟨g, i, none⟩ u) g t (cs.setIfInBounds i u) := by
  unfold Box at h ⊢
  simp [World.setCell, Array.getElem?_modify, h]
theorem Box.far {w : World} {g : Nat} {t : TypeId} {cs : Array Value} (h : Box w g t cs) {p : Addr} (hp : g ≠ p.block) (u : Value) : Box (w.setCell p u) g t cs := (Below.heap_setCell w p u g hp).trans h

/-- A block that is known whole is a source. -/
theorem Box.src {w : World} {g : Nat} {t : TypeId} {cs : Array Value} (h : Box w g t cs) (m c size : Nat) (cells : List Value) (hc : cs.toList = cells) (hl : cells.length = m * size) : Src w (some ⟨g, 0, none⟩) m c cells size := by
  subst hc
  refine ⟨hl, fun h => (by cases h), fun ad he j u hu => ?_⟩
  injection he with he
  subst he
  rw [Addr.add_lit, Nat.zero_add, h.cell j]
  simpa using hu
theorem Box.lst {w : World} {g : Nat} {t : TypeId} {cs : Array Value} (h : Box w g t cs) (m c size : Nat) (cells : List Value) (hc : cs.toList = cells) (hl : cells.length = m * size) (h1 : m ≤ c) (h2 : c ≤ maxLen) : Lst w (some ⟨g, 0, none⟩) m c cells size :=
  ⟨h.src m c size cells hc hl, fun _ => ⟨g, 0, rfl⟩, h1, h2⟩
theorem Lst.none (w : World) (size : Nat) : Lst w none 0 0 [] size := ⟨⟨by simp, fun _ => ⟨rfl, rfl⟩, fun ad h => (by cases h)⟩, fun h => absurd h (by decide), Nat.le_refl _, Nat.zero_le _⟩
theorem Src.set {w : World} {g off m c : Nat} {cells : List Value} {size : Nat} (h : Src w (some ⟨g, off, Option.none⟩) m c cells size) (j : Nat) (u : Value) (hj : j < cells.length) : Src (w.setCell ⟨g, off + j, Option.none⟩ u) (some ⟨g, off, Option.none⟩) m c (cells.set j u) size := by
  refine ⟨by rw [List.length_set]; exact h.len, fun h => (by cases h), fun ad he i v hv => ?_⟩
  injection he with he
  subst he
  rw [Addr.add_lit]
  by_cases hij : i = j
  · subst hij
    have h0 := h.get _ rfl i _ (List.getElem?_eq_getElem hj)
    rw [Addr.add_lit] at h0
    rw [World.cell?_setCell_same (h := h0)]
    rw [List.getElem?_set_self hj] at hv
    exact hv
  · rw [World.cell?_setCell_other (h := fun e : (⟨g, off + j, Option.none⟩ : Addr) = ⟨g, off + i, Option.none⟩ => hij (by injection e with e1 e2; omega))]
    rw [List.getElem?_set_ne (fun e => hij e.symm)] at hv
    have := h.get _ rfl i v hv
    rwa [Addr.add_lit] at this
theorem Src.far {w : World} {ao : Option Addr} {m c : Nat} {cells : List Value} {size : Nat} (h : Src w ao m c cells size) {p : Addr} (hp : ∀ ad, ao = some ad → ad.block ≠ p.block) (u : Value) : Src (w.setCell p u) ao m c cells size :=
  h.chg ((Chg.refl w (fun k => k = p.block)).setCell (fun _ => rfl) u) (fun ad e => hp ad e)
theorem Lst.set {w : World} {g off m c : Nat} {cells : List Value} {size : Nat} (h : Lst w (some ⟨g, off, Option.none⟩) m c cells size) (j : Nat) (u : Value) (hj : j < cells.length) : Lst (w.setCell ⟨g, off + j, Option.none⟩ u) (some ⟨g, off, Option.none⟩) m c (cells.set j u) size :=
  ⟨h.src.set j u hj, h.pos, h.le, h.mx⟩
theorem Lst.set0 {w : World} {g m c : Nat} {cells : List Value} {size : Nat} (h : Lst w (some ⟨g, 0, Option.none⟩) m c cells size) (j : Nat) (u : Value) (hj : j < cells.length) : Lst (w.setCell ⟨g, j, Option.none⟩ u) (some ⟨g, 0, Option.none⟩) m c (cells.set j u) size := by
  have := h.set j u hj
  rwa [Nat.zero_add] at this
theorem Lst.far {w : World} {ao : Option Addr} {m c : Nat} {cells : List Value} {size : Nat} (h : Lst w ao m c cells size) {p : Addr} (hp : ∀ ad, ao = some ad → ad.block ≠ p.block) (u : Value) : Lst (w.setCell p u) ao m c cells size :=
  ⟨h.src.far hp u, h.pos, h.le, h.mx⟩
theorem Lst.alloc {w : World} {ao : Option Addr} {m c : Nat} {cells : List Value} {size : Nat} (h : Lst w ao m c cells size) (o : Obj) : Lst (w.alloc o) ao m c cells size :=
  h.chg ((Chg.refl w (fun _ => False)).alloc o) (fun _ _ h => h)

end Go.Proofs.Ytiedfglkjkaefaa
