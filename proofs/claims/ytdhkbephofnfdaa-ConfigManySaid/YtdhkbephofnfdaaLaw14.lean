/- trunnionlaw14: num, One, alive. -/
import Derived.Test.YtdhkbephofnfdaaCfgCheck
namespace Go.Proofs.Ytdhkbephofnfdaa
open Go.RowKit

theorem num_any (n : Int) (w : World) : Calls Try.prog 16 #[.int .i64 n] w fun e w' => e = .returned (.int .i64 n) ∧ w = w' := by
  go_enter Try.func16, Try.ntmps16
  go_wp2
  go_ret
  exact ⟨rfl, rfl⟩

/-- A block that is known whole is a source. -/
theorem Box.src {w : World} {g : Nat} {t : TypeId} {cs : Array Value} (h : Box w g t cs) (m c size : Nat) (cells : List Value) (hc : cs.toList = cells) (hl : cells.length = m * size) : Src w (some ⟨g, 0, none⟩) m c cells size := by
  subst hc
  refine ⟨hl, fun h => (by cases h), fun ad he j u hu => ?_⟩
  injection he with he
  subst he
  rw [Addr.add_lit, Nat.zero_add, h.cell j]
  simpa using hu
theorem Box.lst {w : World} {g : Nat} {t : TypeId} {cs : Array Value} (h : Box w g t cs) (m c size : Nat) (cells : List Value) (hc : cs.toList = cells) (hl : cells.length = m * size) (h1 : m ≤ c) (h2 : c ≤ maxLen) : Lst w (some ⟨g, 0, none⟩) m c cells size :=
  ⟨h.src m c size cells hc hl, fun _ => ⟨g, 0, rfl⟩, h1, h2⟩
theorem Lst.none (w : World) (size : Nat) : Lst w none 0 0 [] size := ⟨⟨by simp, fun _ => ⟨rfl, rfl⟩, fun ad h => (by cases h)⟩, fun h => absurd h (by decide), Nat.le_refl _, Nat.zero_le _⟩
theorem Src.set {w : World} {g off m c : Nat} {cells : List Value} {size : Nat} (h : Src w (some ⟨g, off, Option.none⟩) m c cells size) (j : Nat) (u : Value) (hj : j < cells.length) : Src (w.setCell ⟨g, off + j, Option.none⟩ u) (some ⟨g, off, Option.none⟩) m c (cells.set j u) size := by
  refine ⟨by rw [List.length_set]; exact h.len, fun h => (by cases h), fun ad he i v hv => ?_⟩
  injection he with he
  subst he
  rw [Addr.add_lit]
  by_cases hij : i = j
  · subst hij
    have h0 := h.get _ rfl i _ (List.getElem?_eq_getElem hj)
    rw [Addr.add_lit] at h0
    rw [World.cell?_setCell_same (h := h0)]
    rw [List.getElem?_set_self hj] at hv
    exact hv
  · rw [World.cell?_setCell_other (h := fun e : (⟨g, off + j, Option.none⟩ : Addr) = ⟨g, off + i, Option.none⟩ => hij (by injection e with e1 e2; omega))]
    rw [List.getElem?_set_ne (fun e => hij e.symm)] at hv
    have := h.get _ rfl i v hv
    rwa [Addr.add_lit] at this
theorem Src.far {w : World} {ao : Option Addr} {m c : Nat} {cells : List Value} {size : Nat} (h : Src w ao m c cells size) {p : Addr} (hp : ∀ ad, ao = some ad → ad.block ≠ p.block) (u : Value) : Src (w.setCell p u) ao m c cells size :=
  h.chg ((Chg.refl w (fun k => k = p.block)).setCell (fun _ => rfl) u) (fun ad e => hp ad e)
theorem Lst.set {w : World} {g off m c : Nat} {cells : List Value} {size : Nat} (h : Lst w (some ⟨g, off, Option.none⟩) m c cells size) (j : Nat) (u : Value) (hj : j < cells.length) : Lst (w.setCell ⟨g, off + j, Option.none⟩ u) (some ⟨g, off, Option.none⟩) m c (cells.set j u) size :=
  ⟨h.src.set j u hj, h.pos, h.le, h.mx⟩
theorem Lst.set0 {w : World} {g m c : Nat} {cells : List Value} {size : Nat} (h : Lst w (some ⟨g, 0, Option.none⟩) m c cells size) (j : Nat) (u : Value) (hj : j < cells.length) : Lst (w.setCell ⟨g, j, Option.none⟩ u) (some ⟨g, 0, Option.none⟩) m c (cells.set j u) size := by
  have := h.set j u hj
  rwa [Nat.zero_add] at this
theorem Lst.far {w : World} {ao : Option Addr} {m c : Nat} {cells : List Value} {size : Nat} (h : Lst w ao m c cells size) {p : Addr} (hp : ∀ ad, ao = some ad → ad.block ≠ p.block) (u : Value) : Lst (w.setCell p u) ao m c cells size :=
  ⟨h.src.far hp u, h.pos, h.le, h.mx⟩
theorem Lst.alloc {w : World} {ao : Option Addr} {m c : Nat} {cells : List Value} {size : Nat} (h : Lst w ao m c cells size) (o : Obj) : Lst (w.alloc o) ao m c cells size :=
  h.chg ((Chg.refl w (fun _ => False)).alloc o) (fun _ _ h => h)

def sA : ByteArray := { data := #[97] }
def oneC : Cfg := ⟨5, 10, 0, [⟨sA, 1, 0⟩], [], [⟨0, 10, 0⟩]⟩

structure OneAt (w w' : World) (p q : Nat) : Prop where
  pb : Box w' p 30 #[.string sA, .int .i64 1, .int .i64 0]
  qb : Box w' q 34 #[.int .i64 0, .int .i64 10, .int .i64 0]
  pq : p ≠ q
  hp : w.heap.size ≤ p
  hq : w.heap.size ≤ q
  chg : Chg w w' (fun _ => False)

set_option maxHeartbeats 400000 in
theorem one_any (w : World) : Calls Try.prog 15 #[] w fun e w' => ∃ p q, e = .returned (.agg #[.int .i64 5, .int .i64 10, .int .i64 0, .slice (some ⟨p, 0, none⟩) 1 1, .slice none 0 0, .slice (some ⟨q, 0, none⟩) 1 1]) ∧ OneAt w w' p q := by
  go_enter Try.func15, Try.ntmps15
  go_wp2
  refine bodyPost_ret (v := .agg #[.int .i64 5, .int .i64 10, .int .i64 0, .slice (some ⟨w.heap.size + 1, 0, none⟩) 1 1, .slice none 0 0, .slice (some ⟨w.heap.size + 2, 0, none⟩) 1 1]) (by simp [results, Try.results15, go_sem]) rfl ?_
  refine ⟨_, _, rfl, ?_⟩
  have e1 : Box (((w.alloc (.cells #[.int .i64 5, .int .i64 10, .int .i64 0, .slice (some ⟨w.heap.size + 1, 0, none⟩) 1 1, .slice none 0 0, .slice (some ⟨w.heap.size + 1 + 1, 0, none⟩) 1 1] 27)).alloc (.cells #[.string sA, .int .i64 1, .int .i64 0] 30))) (w.heap.size + 1) 30 #[.string sA, .int .i64 1, .int .i64 0] := by
    have := Box.new (w.alloc (.cells #[.int .i64 5, .int .i64 10, .int .i64 0, .slice (some ⟨w.heap.size + 1, 0, none⟩) 1 1, .slice none 0 0, .slice (some ⟨w.heap.size + 1 + 1, 0, none⟩) 1 1] 27)) 30 #[.string sA, .int .i64 1, .int .i64 0]
    rwa [show (w.alloc (.cells #[.int .i64 5, .int .i64 10, .int .i64 0, .slice (some ⟨w.heap.size + 1, 0, none⟩) 1 1, .slice none 0 0, .slice (some ⟨w.heap.size + 1 + 1, 0, none⟩) 1 1] 27)).heap.size = w.heap.size + 1 from by simp] at this
  exact ⟨e1.alloc _, box_third w _ _ _ _, by omega, by omega, by omega, (((Chg.refl _ _).alloc _).alloc _).alloc _⟩

theorem one_at {w w' : World} {p q : Nat} (h : OneAt w w' p q) : CfgAt w' oneC (some ⟨p, 0, none⟩) none (some ⟨q, 0, none⟩) 1 0 1 :=
  ⟨h.pb.lst 1 1 3 _ rfl rfl (by decide) (by unfold maxLen; omega), Lst.none _ _, h.qb.lst 1 1 3 _ rfl rfl (by decide) (by unfold maxLen; omega), fun p hp => by
    have : p = ⟨sA, 1, 0⟩ := by simpa [oneC] using hp
    subst this
    decide⟩

theorem one_chk : chk oneC = 0 := by
  have h1 : partsOk oneC = true := by decide +kernel
  unfold chk
  rw [h1]
  decide +kernel

set_option maxHeartbeats 400000 in
theorem alive_any (w : World) : Calls Try.prog 14 #[] w fun e w' => e = .returned (.bool true) ∧ Chg w w' (fun _ => False) := by
  go_enter Try.func14, Try.ntmps14
  go_wp2_with fail
  refine (one_any _).mono ?_
  rintro e w1 ⟨p, q, rfl, H1⟩
  go_wp2_with fail
  refine (check_any _ (one_at H1)).mono ?_
  rintro e w2 ⟨rfl, C2⟩
  rw [one_chk]
  go_wp2_with (go_at_call 16; refine (num_any _ _).mono ?_; rintro e w' ⟨rfl, rfl⟩)
  go_ret
  exact ⟨rfl, H1.chg.trans C2⟩

end Go.Proofs.Ytdhkbephofnfdaa
