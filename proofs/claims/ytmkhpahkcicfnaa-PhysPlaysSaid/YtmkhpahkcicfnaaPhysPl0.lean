/- PhysPlays: its argument, the state of the three memories, and the contracts on that state. -/
import Derived.Test.YtmkhpahkcicfnaaPhysUtil
import Derived.Test.YtmkhpahkcicfnaaRead
import Derived.Test.YtmkhpahkcicfnaaOwn2
import Derived.Deep.DeepCutAuto
import Derived.Deep.CutBlock
namespace Go.Proofs.Ytmkhpahkcicfnaa
open Go.RowKit Go.ChangeShapes Go.WideShapes Go.Deep

/-- One move. -/
structure BAct where
  way : Int
  addr : Int
  size : Int
  v : Int
  bo : Option Addr
  m : Nat
  c : Nat
  xs : List Int
instance : Inhabited BAct := ⟨⟨0, 0, 0, 0, none, 0, 0, []⟩⟩
def bCells (a : BAct) : List Value := [.int .i64 a.way, .int .i64 a.addr, .int .i64 a.size, .int .i64 a.v, .slice a.bo a.m a.c]
def bOk (w : World) (a : BAct) : Prop := Src w a.bo a.m a.c (u8s a.xs) 1 ∧ (∀ x ∈ a.xs, 0 ≤ x ∧ x < 256) ∧ a.m ≤ a.c ∧ a.c ≤ maxLen ∧ ∀ ad, a.bo = some ad → 0 < a.m → ad.block < w.heap.size

theorem flat_u8 (l : List Int) : l.flatMap (fun x => [Value.int .u8 x]) = u8s l := by
  induction l with
  | nil => rfl
  | cons a l ih => rw [List.flatMap_cons, ih]; rfl

theorem open_bacts {H : Type} {enc : TypeId × Value → H} {W : World} {base : Nat} {v : Value} {d : DataW H} {p : List MemPlace} (hv : Value.okWide Try.prog W .any base 32 v) (h : DataW.Trod enc Try.prog W 0 (fun _ => true) true 32 v d p) :
    ∃ (ao : Option Addr) (cap : Nat) (l : List BAct), v = .slice ao l.length cap ∧ Lst W ao l.length cap (l.flatMap bCells) 5 ∧ ∀ a ∈ l, bOk W a := by
  obtain ⟨fuel, hf⟩ := Trod_slice Try.underlying32 hv h
  obtain ⟨ao, cap, l, h1, h2, _, h4⟩ := read_slice bCells (bOk W) 5 (fun _ => rfl) (by decide) Try.underlying32 (by kernel_rfl) (fun fuel cs x hc ht => by
    obtain ⟨_, hs⟩ := read_struct Try.underlying40 (by kernel_rfl) (by kernel_rfl) ht
    obtain ⟨v0, y0, n0, e0, t0⟩ := hs 0 _ rfl
    obtain ⟨v1, y1, n1, e1, t1⟩ := hs 1 _ rfl
    obtain ⟨v2, y2, n2, e2, t2⟩ := hs 2 _ rfl
    obtain ⟨v3, y3, n3, e3, t3⟩ := hs 3 _ rfl
    obtain ⟨v4, y4, n4, e4, t4⟩ := hs 4 _ rfl
    obtain ⟨z0, rfl, w0⟩ := read_int Try.underlying3 t0
    obtain ⟨z1, rfl, w1⟩ := read_int Try.underlying3 t1
    obtain ⟨z2, rfl, w2⟩ := read_int Try.underlying3 t2
    obtain ⟨z3, rfl, w3⟩ := read_int Try.underlying3 t3
    obtain ⟨bo, bc, xs, rfl, hL, hbl, hxs⟩ := read_slice (fun x => [Value.int .u8 x]) (fun x => 0 ≤ x ∧ x < 256) 1 (fun _ => rfl) (by decide) Try.underlying36 (by kernel_rfl) (fun fuel cs x hc ht => by
      match cs, hc with
      | [c0], _ =>
        obtain ⟨z, rfl, hw⟩ := read_int Try.underlying5 ht
        refine ⟨z, rfl, ?_⟩
        simp [Lit.wf, IntKind.min, IntKind.max, IntKind.signed, IntKind.bits] at hw
        omega) t4
    refine ⟨⟨z0, z1, z2, z3, bo, xs.length, bc, xs⟩, ?_, by rw [← flat_u8]; exact hL.src, hxs, hL.le, hL.mx, hbl⟩
    match cs, hc with
    | [c0, c1, c2, c3, c4], _ =>
      have e0' : c0 = .int .i64 z0 := by simpa using e0
      have e1' : c1 = .int .i64 z1 := by simpa using e1
      have e2' : c2 = .int .i64 z2 := by simpa using e2
      have e3' : c3 = .int .i64 z3 := by simpa using e3
      have e4' : c4 = .slice bo xs.length bc := by simpa using e4
      rw [e0', e1', e2', e3', e4']
      rfl) hf
  exact ⟨ao, cap, l, h1, h2, h4⟩

/-- Six blocks, all made since, all apart. -/
structure Six (s am bm ao bo ar br : Nat) : Prop where
  ge : s ≤ am ∧ s ≤ bm ∧ s ≤ ao ∧ s ≤ bo ∧ s ≤ ar ∧ s ≤ br
  ne : bm ≠ ao ∧ bm ≠ bo ∧ bm ≠ ar ∧ bm ≠ br ∧ bo ≠ am ∧ bo ≠ bm ∧ bo ≠ ar ∧ bo ≠ br ∧ br ≠ am ∧ br ≠ bm ∧ br ≠ ao ∧ br ≠ bo

/-- The three memories. -/
structure MS (w : World) (n am bm ao bo ar br : Nat) (f g : Nat → Int) (wx : World) : Prop where
  m : Mem 61 wx am bm n f
  r : Mem 38 wx ar br n g
  o : ∃ h, Mem 61 wx ao bo n h
  b : Below w.heap.size w wx
  d : Six w.heap.size am bm ao bo ar br
  s : w.heap.size ≤ wx.heap.size

namespace MS
variable {w wx wy : World} {n am bm ao bo ar br : Nat} {f g : Nat → Int}
theorem keepP {P : Nat → Prop} (h : MS w n am bm ao bo ar br f g wx) (C : Chg wx wy P) (hb : ∀ k, P k → w.heap.size ≤ k ∧ k ≠ am ∧ k ≠ bm ∧ k ≠ ao ∧ k ≠ bo ∧ k ≠ ar ∧ k ≠ br) : MS w n am bm ao bo ar br f g wy := by
  refine ⟨h.m.chg C (fun p => (hb _ p).2.1 rfl) (fun p => (hb _ p).2.2.1 rfl), h.r.chg C (fun p => (hb _ p).2.2.2.2.2.1 rfl) (fun p => (hb _ p).2.2.2.2.2.2 rfl), ?_, below_chg h.b C h.s (fun k p => (hb k p).1), h.d, Nat.le_trans h.s C.size⟩
  obtain ⟨x, hx⟩ := h.o
  exact ⟨x, hx.chg C (fun p => (hb _ p).2.2.2.1 rfl) (fun p => (hb _ p).2.2.2.2.1 rfl)⟩
theorem keep (h : MS w n am bm ao bo ar br f g wx) (C : Chg wx wy (fun _ => False)) : MS w n am bm ao bo ar br f g wy := h.keepP C (fun _ p => p.elim)
theorem keep1 {e : Nat} (h : MS w n am bm ao bo ar br f g wx) (C : Chg wx wy (fun k => k = e)) {wo : World} {fo go : Nat → Int} (ho : MS w n am bm ao bo ar br fo go wo) (he : wo.heap.size ≤ e) : MS w n am bm ao bo ar br f g wy :=
  h.keepP C (fun k p => by
    subst p
    obtain ⟨x, hx⟩ := ho.o
    have := ho.m.lta; have := ho.m.ltb; have := ho.r.lta; have := ho.r.ltb; have := hx.lta; have := hx.ltb; have := ho.s
    omega)
theorem lt (h : MS w n am bm ao bo ar br f g wx) : am < wx.heap.size ∧ bm < wx.heap.size ∧ ao < wx.heap.size ∧ bo < wx.heap.size ∧ ar < wx.heap.size ∧ br < wx.heap.size := by
  obtain ⟨x, hx⟩ := h.o
  exact ⟨h.m.lta, h.m.ltb, hx.lta, hx.ltb, h.r.lta, h.r.ltb⟩

theorem setM {f' : Nat → Int} (h : MS w n am bm ao bo ar br f g wx) (M : Mem 61 wy am bm n f') (C : Chg wx wy (fun k => k = bm)) : MS w n am bm ao bo ar br f' g wy := by
  have hn := h.d.ne
  refine ⟨M, h.r.chg C (by omega) (by omega), ?_, below_chg h.b C h.s (fun k p => by have := h.d.ge; omega), h.d, Nat.le_trans h.s C.size⟩
  obtain ⟨x, hx⟩ := h.o
  exact ⟨x, hx.chg C (by omega) (by omega)⟩
theorem setR {g' : Nat → Int} (h : MS w n am bm ao bo ar br f g wx) (M : Mem 38 wy ar br n g') (C : Chg wx wy (fun k => k = br)) : MS w n am bm ao bo ar br f g' wy := by
  have hn := h.d.ne
  refine ⟨h.m.chg C (by omega) (by omega), M, ?_, below_chg h.b C h.s (fun k p => by have := h.d.ge; omega), h.d, Nat.le_trans h.s C.size⟩
  obtain ⟨x, hx⟩ := h.o
  exact ⟨x, hx.chg C (by omega) (by omega)⟩
theorem setO {o' : Nat → Int} (h : MS w n am bm ao bo ar br f g wx) (M : Mem 61 wy ao bo n o') (C : Chg wx wy (fun k => k = bo)) : MS w n am bm ao bo ar br f g wy := by
  have hn := h.d.ne
  exact ⟨h.m.chg C (by omega) (by omega), h.r.chg C (by omega) (by omega), ⟨_, M⟩, below_chg h.b C h.s (fun k p => by have := h.d.ge; omega), h.d, Nat.le_trans h.s C.size⟩

theorem storeO (h : MS w n am bm ao bo ar br f g wx) (addr size v : Int) :
    Calls Try.prog 17 #[.pointer (some ⟨ao, 0, none⟩), .int .i64 addr, .int .i64 size, .int .i64 v] wx fun e w' => e = .returned (.bool (okB n addr size)) ∧ MS w n am bm ao bo ar br f g w' ∧ Chg wx w' (fun k => k = bo) := by
  obtain ⟨x, hx⟩ := h.o
  exact (store_any hx addr size v).mono fun e w' ⟨h1, h2, h3⟩ => ⟨h1, h.setO h2 h3, h3⟩
theorem storeM (h : MS w n am bm ao bo ar br f g wx) (addr size v : Int) :
    Calls Try.prog 17 #[.pointer (some ⟨am, 0, none⟩), .int .i64 addr, .int .i64 size, .int .i64 v] wx fun e w' => e = .returned (.bool (okB n addr size)) ∧ MS w n am bm ao bo ar br (stV n f addr size v) g w' ∧ Chg wx w' (fun k => k = bm) :=
  (store_any h.m addr size v).mono fun e w' ⟨h1, h2, h3⟩ => ⟨h1, h.setM h2 h3, h3⟩
theorem storeR (h : MS w n am bm ao bo ar br f g wx) (addr size v : Int) :
    Calls Try.prog 23 #[.pointer (some ⟨ar, 0, none⟩), .int .i64 addr, .int .i64 size, .int .i64 v] wx fun e w' => e = .returned (.bool (okB n addr size)) ∧ MS w n am bm ao bo ar br f (stV n g addr size v) w' ∧ Chg wx w' (fun k => k = br) :=
  (rstore_any h.r addr size v).mono fun e w' ⟨h1, h2, h3⟩ => ⟨h1, h.setR h2 h3, h3⟩
theorem putM (h : MS w n am bm ao bo ar br f g wx) (addr : Int) (m c : Nat) (a : Option Addr) (xs : List Int) (hs : Src wx a m c (u8s xs) 1) (hx : ∀ x ∈ xs, 0 ≤ x ∧ x < 256) :
    Calls Try.prog 26 #[.pointer (some ⟨am, 0, none⟩), .int .i64 addr, .slice a m c] wx fun e w' => e = .returned (.bool (okR n addr m)) ∧ MS w n am bm ao bo ar br (ptV n f addr xs) g w' ∧ Chg wx w' (fun k => k = bm) :=
  (put_any h.m addr m c a xs hs hx).mono fun e w' ⟨h1, h2, h3⟩ => ⟨h1, h.setM h2 h3, h3⟩
theorem putR (h : MS w n am bm ao bo ar br f g wx) (addr : Int) (m c : Nat) (a : Option Addr) (xs : List Int) (hs : Src wx a m c (u8s xs) 1) (hx : ∀ x ∈ xs, 0 ≤ x ∧ x < 256) :
    Calls Try.prog 27 #[.pointer (some ⟨ar, 0, none⟩), .int .i64 addr, .slice a m c] wx fun e w' => e = .returned (.bool (okR n addr m)) ∧ MS w n am bm ao bo ar br f (ptV n g addr xs) w' ∧ Chg wx w' (fun k => k = br) :=
  (rput_any h.r addr m c a xs hs hx).mono fun e w' ⟨h1, h2, h3⟩ => ⟨h1, h.setR h2 h3, h3⟩
theorem make {w1 w2 w3 : World} {e1 e2 e3 : Ending} (h0 : Below w.heap.size w wx) (hs : w.heap.size ≤ wx.heap.size) (h1 : MemNew 61 wx n e1 w1 am bm) (h2 : MemNew 61 w1 n e2 w2 ao bo) (h3 : MemNew 38 w2 n e3 w3 ar br) :
    MS w n am bm ao bo ar br (fun _ => 0) (fun _ => 0) w3 := by
  have a1 := h1.mem.lta; have a2 := h1.mem.ltb; have a3 := h2.mem.lta; have a4 := h2.mem.ltb
  have b1 := h1.lea; have b2 := h1.leb; have b3 := h2.lea; have b4 := h2.leb; have b5 := h3.lea; have b6 := h3.leb
  have c1 := h1.chg.size; have c2 := h2.chg.size; have c3 := h3.chg.size
  exact ⟨(h1.mem.chg h2.chg (fun h => h) (fun h => h)).chg h3.chg (fun h => h) (fun h => h), h3.mem, ⟨_, h2.mem.chg h3.chg (fun h => h) (fun h => h)⟩,
    below_chg (below_chg (below_chg h0 h1.chg hs (fun k p => p.elim)) h2.chg (by omega) (fun k p => p.elim)) h3.chg (by omega) (fun k p => p.elim),
    ⟨by omega, by omega⟩, by omega⟩
end MS
theorem rnew_at (pages : Int) (n : Nat) (h : pgN pages = n) (w : World) : Calls Try.prog 20 #[.int .i64 pages] w fun e w' => ∃ a b, MemNew 38 w n e w' a b := by
  subst h; exact rnew_any pages w
theorem conv_bytes {ao : Option Addr} {m c : Nat} {xs : List Int} : ∀ w : World, Src w ao m c (u8s xs) 1 → (convert 36 9 (.slice ao m c)).run Try.prog w = .ok (.string (strOfNums xs)) w := fun w h => conv_src w h
theorem src_chg0 {w w' : World} {ao : Option Addr} {m c : Nat} {xs : List Int} {P : Nat → Prop} (h : Src w ao m c (u8s xs) 1) (hc : Chg w w' P) (hn : ∀ ad, ao = some ad → 0 < m → ¬ P ad.block) : Src w' ao m c (u8s xs) 1 :=
  ⟨h.len, h.nil, fun ad e j u hu => hc.cell (h.get ad e j u hu) (by
    have hb : (ad.add j).block = ad.block := by unfold Addr.add; split <;> rfl
    have hj := (List.getElem?_eq_some_iff.1 hu).1
    have hl := h.len
    rw [hb]; exact hn ad e (by omega))⟩

/-- An own row of bytes: one cell is turned. -/
theorem own_setB {w : World} {base g cap n size : Nat} {e : TypeId} {xs : List Value} (h : w.ownsRow base e size (.slice (some ⟨g, 0, none⟩) n cap) n xs) (j : Nat) (u : Value) :
    (w.setCell ⟨g, j, none⟩ u).ownsRow base e size (.slice (some ⟨g, 0, none⟩) n cap) n (xs.set j u) := by
  rcases h.2 with ⟨h0, _⟩ | ⟨b, cap', cur, hv, hb, hh, hc, hmx, hs, ht⟩
  · cases h0
  · injection hv with e1 e2 e3
    injection e1 with e1
    have : g = b := congrArg Addr.block e1
    subst this e3
    refine ⟨by rw [List.length_set]; exact h.1, .inr ⟨g, cap, cur.setIfInBounds j u, rfl, hb, ?_, hc, hmx, by simpa using hs, ?_⟩⟩
    · have := setCell_eq_setRow w g j cur e (0, 0) u hh
      rw [this]
      exact setRow_heap w g cur _ e _ hh
    · rw [Array.toList_setIfInBounds, ← ht, List.take_set]
theorem u8s_set (xs : List Int) (j : Nat) (y : Int) : (u8s xs).set j (.int .u8 y) = u8s (xs.set j y) := by simp [u8s]
/-- A row of bytes under work: what lies in it is of no account. -/
def OB (base : Nat) (v : Value) (m : Nat) (w : World) : Prop := ∃ xs : List Int, w.ownsRow base 5 1 v m (u8s xs)
end Go.Proofs.Ytmkhpahkcicfnaa
