/- ports: Write. -/
import Derived.Test.YtiedfglkjkaefaaPo4
import Derived.Test.YtiedfglkjkaefaaClone
import Derived.Test.YtiedfglkjkaefaaTail
namespace Go.Proofs.Ytiedfglkjkaefaa
open Go.RowKit

theorem src_u8len {w : World} {ao : Option Addr} {m c : Nat} {xs : List Int} (h : Src w ao m c (u8s xs) 1) : xs.length = m := by have := h.len; simpa [u8s] using this

/-- What a call leaves of a Net. -/
structure NetTo (w w' : World) (F : Nat → Prop) (D : NetD) (Q' : Que) : Prop where
  net : ∃ F' vs', NetAt w' F' D Q' vs' ∧ ∀ k, F' k → F k ∨ w.heap.size ≤ k
  chg : Chg w w' F
theorem NetTo.same {w w' : World} {F : Nat → Prop} {D : NetD} {Q : Que} {vs : Nat → Value} (N : NetAt w F D Q vs) (c : Chg w w' (fun _ => False)) : NetTo w w' F D Q :=
  ⟨⟨F, vs, N.chg c (fun _ _ h => h), fun _ h => .inl h⟩, c.mono (fun _ _ h => h.elim)⟩

/-- The message that is put is the net's. -/
theorem NetAt.putS {w1 w4 w5 : World} {F : Nat → Prop} {D : NetD} {Q : Que} {vs : Nat → Value} (N : NetAt w1 F D Q vs) {i : Nat} (hi : i < D.l.length) (hk : D.l[i].kind = 0) {ao : Option Addr} {cap : Nat} {xs : List Int}
    (C4 : Chg w1 w4 (fun _ => False)) (O : w4.ownsRow w1.heap.size 5 1 (.slice ao xs.length cap) xs.length (u8s xs)) (hb : byteL xs) (h0 : 0 < xs.length) (h64 : (xs.length : Int) ≤ D.l[i].size) (h5 : w5 = w4.setCell ⟨D.bs i, 0, none⟩ (.slice ao xs.length cap)) :
    NetTo w1 w5 F D (qSet Q i [xs]) := by
  have N4 := N.chg C4 (fun _ _ h => h)
  have K := N4.ch i hi
  obtain ⟨B, _⟩ := K.boxS hk
  have C5 : Chg w4 w5 (fun k => k = D.bs i) := by rw [h5]; exact (Chg.refl w4 (fun k => k = D.bs i)).setCell (p := ⟨D.bs i, 0, none⟩) (fun _ => rfl) _
  have h64' := K.ok.size
  have O5 : w5.ownsRow w1.heap.size 5 1 (.slice ao xs.length cap) xs.length (u8s xs) := own_chg O C5 (fun g hg h => own_ne O B (by decide) g hg h)
  have hdp := K.ok.depth
  refine ⟨⟨_, _, N4.turn (F' := fun k => F k ∨ (Value.slice ao xs.length cap).ownBlock = some k) i hi (.slice ao xs.length cap) [xs] (C5.mono (fun k _ h => .inl h)) (fun k h => .inl h) (fun k h => ?_) (fun g hg => ?_) ⟨K.ok, ⟨by simp; omega, fun _ => by simp, fun ys hy => ?_⟩, .inl ⟨hk, ?_, .inr ⟨xs, rfl, ⟨own_base O5 (Nat.zero_le _), fun g hg => .inr hg⟩⟩⟩⟩, fun k h => ?_⟩, ?_⟩
  · rcases h with h | h
    · exact Nat.lt_of_lt_of_le (N4.lt k h) C5.size
    · exact (O5.lt k h).2
  · exact .inr (fun h => by have := N.lt g h; have := (O.lt g hg).1; omega)
  · rw [List.mem_singleton] at hy
    subst hy
    exact ⟨hb, h0, by omega⟩
  · rw [h5]; exact B.set 0 _
  · rcases h with h | h
    · exact .inl h
    · exact .inr (O5.lt k h).1
  · exact (C4.mono (fun _ _ h => h.elim)).trans' C5 (fun k _ h => by subst h; exact N.fb i hi)
/-- A message that a queue takes. -/
theorem NetAt.putQ {w1 w4 w5 : World} {F : Nat → Prop} {D : NetD} {Q : Que} {vs : Nat → Value} (N : NetAt w1 F D Q vs) {i : Nat} (hi : i < D.l.length) (hk : D.l[i].kind = 1) {ao : Option Addr} {cap : Nat} {xs : List Int} {e : Ending} {ms : List Value}
    (C4 : Chg w1 w4 (fun _ => False)) (O : w4.ownsRow w1.heap.size 5 1 (.slice ao xs.length cap) xs.length (u8s xs)) (hb : byteL xs) (h0 : 0 < xs.length) (h64 : (xs.length : Int) ≤ D.l[i].size)
    (hms : MsgsAt w1 F ms (Q i)) (hp : PutQ w4 w5 (D.bs i) D.l[i].depth (vs i) (.slice ao xs.length cap) ms e) :
    (D.l[i].depth ≤ ((Q i).length : Int) ∧ e = .returned (.bool false) ∧ NetTo w1 w5 F D Q) ∨ (((Q i).length : Int) < D.l[i].depth ∧ e = .returned (.bool true) ∧ NetTo w1 w5 F D (qSet Q i (Q i ++ [xs]))) := by
  have hl := hms.length
  rcases hp with ⟨h1, h2, C⟩ | ⟨h1, h2, v', B', R', C, hv'⟩
  · exact .inl ⟨by omega, h2, NetTo.same N (C4.trans C)⟩
  refine .inr ⟨by omega, h2, ?_⟩
  have N4 := N.chg C4 (fun _ _ h => h)
  have K := N4.ch i hi
  have h64' := K.ok.size
  have hfar : ∀ g, (∃ cur, Box w4 g 5 cur) → ¬ (g = D.bs i ∨ ((vs i).ownBlock = some g ∧ ∃ cur, Box w4 g 22 cur)) := by
    rintro g ⟨cur, hb⟩ (h | ⟨_, cur2, hb2⟩)
    · exact K.far hb (by decide) (by decide) h
    · exact box_ty hb hb2 (by decide) rfl
  have O5 : w5.ownsRow w1.heap.size 5 1 (.slice ao xs.length cap) xs.length (u8s xs) := own_chg O C (fun g hg => hfar g (own_u8 O hg))
  have hF1 : ∀ k, F k → F k ∨ (Value.slice ao xs.length cap).ownBlock = some k ∨ v'.ownBlock = some k := fun k h => .inl h
  have hms5 : MsgsAt w5 (fun k => F k ∨ (Value.slice ao xs.length cap).ownBlock = some k ∨ v'.ownBlock = some k) (ms ++ [.slice ao xs.length cap]) (Q i ++ [xs]) := by
    refine MsgsAt.snoc ⟨own_base O5 (Nat.zero_le _), fun g hg => .inr (.inl hg)⟩ ?_
    refine MsgsAt.chg (F := F) C (fun g _ h => hfar g h) hF1 ?_
    exact MsgsAt.chg (P := fun _ => False) C4 (fun _ _ _ h => h) (fun _ h => h) hms
  obtain ⟨KB, KF, _⟩ := K.boxQ hk
  have hvF : ∀ g, v'.ownBlock = some g → (vs i).ownBlock = some g ∨ ¬ F g := fun g hg => by
    rcases hv' g hg with h | h
    · exact .inl h
    · exact .inr (fun hf => by have := N4.lt g hf; omega)
  refine ⟨⟨_, _, N4.turn (F' := fun k => F k ∨ (Value.slice ao xs.length cap).ownBlock = some k ∨ v'.ownBlock = some k) i hi v' (Q i ++ [xs]) C hF1 (fun k h => ?_) hvF ⟨K.ok, ⟨by rw [List.length_append, List.length_singleton]; omega, fun h => by rw [hk] at h; exact absurd h (by decide), fun ys hy => ?_⟩, .inr ⟨hk, B', fun g hg => .inr (.inr hg), _, R', hms5⟩⟩, fun k h => ?_⟩, ?_⟩
  · rcases h with h | h | h
    · exact Nat.lt_of_lt_of_le (N4.lt k h) C.size
    · exact (O5.lt k h).2
    · rcases hv' k h with h | h
      · exact Nat.lt_of_lt_of_le (N4.lt k (KF k h)) C.size
      · exact h.2
  · rcases List.mem_append.1 hy with hy | hy
    · exact K.qk.msg ys hy
    · rw [List.mem_singleton] at hy
      subst hy
      exact ⟨hb, h0, by omega⟩
  · rcases h with h | h | h
    · exact .inl h
    · exact .inr (O5.lt k h).1
    · rcases hv' k h with h | h
      · exact .inl (KF k h)
      · exact .inr (Nat.le_trans C4.size h.1)
  · refine (C4.mono (fun _ _ h => h.elim)).trans' C (fun k _ h => ?_)
    rcases h with h | ⟨h, _⟩
    · subst h; exact N.fb i hi
    · exact KF k h
end Go.Proofs.Ytiedfglkjkaefaa
