/- Plain laws of worlds: what a call may have changed ('Chg'), rows known by their cells. No program in sight. -/
import Derived.WalkKit
import Derived.WalkSpells
import Derived.WalkLawsBesides
import Derived.Deep.OwnRows
import Derived.Deep.LoopGhost
import Derived.Lib.Hide
import Derived.BigQuiet
import Derived.Deep.QuietTactic
import Derived.Maps.AppendAt
import Derived.Deep.RegionHeld3
namespace Go.Proofs.Ytiedfglkjkaefaa
open Go.RowKit

/-- From w to w' only blocks of which P holds (and new ones) have turned. -/
structure Chg (w w' : World) (P : Nat → Prop) : Prop where
  os : w'.os = w.os
  tape : w'.tape = w.tape
  output : w'.output = w.output
  size : w.heap.size ≤ w'.heap.size
  block : ∀ k, k < w.heap.size → ¬ P k → w'.heap[k]? = w.heap[k]?

namespace Chg
variable {w w' w'' : World} {P Q : Nat → Prop}
theorem refl (w : World) (P : Nat → Prop) : Chg w w P := ⟨rfl, rfl, rfl, Nat.le_refl _, fun _ _ _ => rfl⟩
theorem mono (h : Chg w w' P) (hp : ∀ k, k < w.heap.size → P k → Q k) : Chg w w' Q := ⟨h.os, h.tape, h.output, h.size, fun k hk hn => h.block k hk (fun hP => hn (hp k hk hP))⟩
theorem trans (h : Chg w w' P) (k : Chg w' w'' P) : Chg w w'' P :=
  ⟨k.os.trans h.os, k.tape.trans h.tape, k.output.trans h.output, Nat.le_trans h.size k.size, fun i hi hn => (k.block i (Nat.lt_of_lt_of_le hi h.size) hn).trans (h.block i hi hn)⟩
theorem trans' (h : Chg w w' P) (k : Chg w' w'' Q) (hq : ∀ i, i < w.heap.size → Q i → P i) : Chg w w'' P :=
  ⟨k.os.trans h.os, k.tape.trans h.tape, k.output.trans h.output, Nat.le_trans h.size k.size, fun i hi hn => (k.block i (Nat.lt_of_lt_of_le hi h.size) (fun hQ => hn (hq i hi hQ))).trans (h.block i hi hn)⟩
theorem drew (h : Chg w w' P) : Chg w w'.drew P := ⟨h.os, h.tape, h.output, h.size, h.block⟩
theorem drewN (h : Chg w w' P) (n : Nat) : Chg w (w'.drewN n) P := ⟨h.os, h.tape, h.output, h.size, h.block⟩
theorem alloc (h : Chg w w' P) (o : Obj) : Chg w (w'.alloc o) P :=
  h.trans' (Q := fun _ => False) ⟨rfl, rfl, rfl, by simp, fun k hk _ => Below.heap_alloc _ _ _ hk⟩ (fun _ _ h => h.elim)
theorem setCell (h : Chg w w' P) {p : Addr} (hp : p.block < w.heap.size → P p.block) (u : Value) : Chg w (w'.setCell p u) P :=
  h.trans' (Q := fun k => k = p.block) ⟨rfl, rfl, rfl, by simp [World.setCell], fun k _ hn => Below.heap_setCell _ _ _ _ hn⟩ (fun i hi e => by subst e; exact hp hi)
theorem grown (h : Chg w w' P) {row : Option Nat} (hg : w'.grownBy w'' row) (hr : ∀ k, row = some k → k < w.heap.size → P k) : Chg w w'' P :=
  h.trans' (Q := fun k => row = some k) ⟨hg.os, hg.tape, hg.output, hg.size, fun k hk hn => hg.block k hk (fun e => hn e.symm)⟩ (fun i hi e => hr i e hi)
theorem of_grown {row : Option Nat} (hg : w.grownBy w' row) (hr : ∀ k, row = some k → k < w.heap.size → P k) : Chg w w' P := (refl w P).grown hg hr
theorem of_below (h : Below w.heap.size w w') (P : Nat → Prop) : Chg w w' P := ⟨h.os, h.tape, h.output, h.size, fun k hk _ => h.block k hk⟩
theorem below (h : Chg w w' P) {B : Nat} (hB : B ≤ w.heap.size) (hp : ∀ k, k < B → ¬ P k) : Below B w w' := ⟨h.os, h.tape, h.output, h.size, fun k hk => h.block k (Nat.lt_of_lt_of_le hk hB) (hp k hk)⟩
theorem below_of (h : Chg w w' P) {B : Nat} (hB : B ≤ w.heap.size) (hp : ∀ k, P k → B ≤ k) : Below B w w' := h.below hB (fun k hk hP => by have := hp k hP; omega)
theorem cell (h : Chg w w' P) {p : Addr} {v : Value} (hc : w.cell? p = some v) (hn : ¬ P p.block) : w'.cell? p = some v :=
  (World.cell?_of_block (h.block p.block (World.block_lt_of_cell? w p hc) hn)).trans hc
theorem frozen (h : Chg w w' P) {p : Addr} {v : Value} (hc : w.cell? p = some v) (hn : ¬ P p.block) : w'.frozen? p = w.frozen? p :=
  World.frozen?_of_block (h.block p.block (World.block_lt_of_cell? w p hc) hn)
theorem row (h : Chg w w' P) {b : Nat} {t : TypeId} {n : Nat} {f : Nat → Value} (hr : w.rowIs b t n f) (hn : ¬ P b) : w'.rowIs b t n f := hr.of_block (h.block b hr.lt hn)
end Chg

theorem rowIs_drewN {w : World} {b : Nat} {t : TypeId} {n : Nat} {f : Nat → Value} (h : w.rowIs b t n f) (k : Nat) : (w.drewN k).rowIs b t n f := h
theorem below_chg {B : Nat} {w w1 w2 : World} {P : Nat → Prop} (h : Below B w w1) (c : Chg w1 w2 P) (hB : B ≤ w1.heap.size) (hp : ∀ k, P k → B ≤ k) : Below B w w2 := h.trans (c.below_of hB hp)

/-- In a region that draws: from here on a stronger condition may be carried. -/
theorem wpAnyH_mono {P : Program} {md : Region.Mode} {ops : Array Oper} {Q : Exit → Act → World → Prop} {S S2 : World → Prop} (hS : ∀ w, S2 w → S w) :
    ∀ (fuel : Nat) (listed : Array Bool) (a : Act) (w : World), wpAnyH P md ops Q S2 fuel listed a w → wpAnyH P md ops Q S fuel listed a w
  | 0, _, _, _, h => h
  | fuel + 1, _, _, _, h => ⟨h.1, fun i hi => wpOp_mono (fun a' w' h' => ⟨hS _ h'.1, wpAnyH_mono hS fuel _ a' w' h'.2⟩) (h.2 i hi)⟩

theorem int_eq {k : IntKind} {a b : Int} (h : a = b) : Value.int k a = Value.int k b := by rw [h]
theorem ret_bool {a b : Bool} (h : a = b) : Ending.returned (.bool a) = .returned (.bool b) := by rw [h]
theorem ret_int {k : IntKind} {a b : Int} (h : a = b) : Ending.returned (.int k a) = .returned (.int k b) := by rw [h]

end Go.Proofs.Ytiedfglkjkaefaa
