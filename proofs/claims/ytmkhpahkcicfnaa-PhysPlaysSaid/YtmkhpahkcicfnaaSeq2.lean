/- A region that draws its order, walked ONCE in the order of the text, where some of its operations TURN the condition: the condition S speaks of the set of those that have run. Serves calls that write. No program in sight. -/
import Derived.Test.YtmkhpahkcicfnaaSeq
namespace Go.Proofs.Ytmkhpahkcicfnaa
open Go.RowKit

section
variable {P : Program} {ops : Array Oper} {Q : Exit → Act → World → Prop} {md : Region.Mode} {S : Array Bool → World → Prop}

/-- As Gives, for number 'i', whatever else has run. -/
def Gives2 (P : Program) (ops : Array Oper) (S : Array Bool → World → Prop) (i : Nat) (o : Oper) (v : Value) (a : Act) : Prop :=
  (Region.wanted o (yielded ops a.tmps) = true ∧ ∀ L : Array Bool, L.getD i true = false → ∀ w, S L w → o.wp P a w (fun a' w' => a' = a.put o.dst v ∧ S (L.setIfInBounds i true) w') NoQ) ∨
  (Region.wanted o (yielded ops a.tmps) = false ∧ v = undef ∧ ∀ L w, S L w → S (L.setIfInBounds i true) w)

theorem Gives2.of_same {i : Nat} {o : Oper} {v : Value} {a b : Act} (hy : Gives2 P ops S i o v a) (he : execOp b.eval o = execOp a.eval o)
    (hw : Region.wanted o (yielded ops b.tmps) = Region.wanted o (yielded ops a.tmps)) (hs : b.tmps.size = a.tmps.size) : Gives2 P ops S i o v b := by
  unfold Gives2 at *
  rw [hw]
  refine hy.imp (fun h => ⟨h.1, fun L hL w hS => ?_⟩) id
  unfold Oper.wp
  rw [he]
  exact Gives.upon hs (h.2 L hL w hS) (fun w' hS' => ⟨rfl, hS'⟩)

theorem Gives2.wpOp {i : Nat} {o : Oper} {v : Value} {a : Act} (hi : ops[i]? = some o) (hy : Gives2 P ops S i o v a)
    {K : Act → World → Prop} {L : Array Bool} (hL : L.getD i true = false) {w : World} (hS : S L w) (h : ∀ w', S (L.setIfInBounds i true) w' → K (a.put o.dst v) w') : wpOp P ops Q i K a w := by
  unfold Go.wpOp
  simp only [hi]
  rcases hy with ⟨hw, hv⟩ | ⟨hw, rfl, hk⟩
  · simp only [hw, if_true]
    exact .inl (Gives.upon rfl (hv L hL w hS) h)
  · simp only [hw, Bool.false_eq_true, if_false]
    exact h w (hk L w hS)

theorem wpOp_putG2 {i j : Nat} {oi oj : Oper} {v : Value} (hj : ops[j]? = some oj) (hap : oi.apart ops oj = true)
    (hsi : ∀ cs b, oi.op ≠ .select cs b) (hsj : ∀ cs b, oj.op ≠ .select cs b)
    (hQ : ∀ c a w, Q (.panic c) (a.put oi.dst v) w → Q (.panic c) a w) {K : Act → World → Prop} {a : Act} {w : World}
    (hy : Gives2 P ops S i oi v a) (h : wpOp P ops Q j K (a.put oi.dst v) w) :
    wpOp P ops Q j (fun a' w' => Gives2 P ops S i oi v a' ∧ K (a'.put oi.dst v) w') a w := by
  obtain ⟨h1, h2, h3⟩ := Oper.apart_spec hap
  have keep : ∀ (a : Act), Gives2 P ops S i oi v a → ∀ u, Gives2 P ops S i oi v (a.put oj.dst u) := fun a hy u =>
    hy.of_same (execOp_put oi hsi a oj.dst u h3) (wanted_put oi a oj.dst u h3) (put_size _ _ _)
  have keepD : ∀ d, Gives2 P ops S i oi v { a with defers := d :: a.defers } := fun d => hy.of_same rfl rfl rfl
  unfold wpOp at *
  simp only [hj] at *
  rw [wanted_put oj a oi.dst v h1] at h
  split
  · rename_i hw
    simp only [hw, if_true] at h
    rcases h with h | ⟨hasks, hlets⟩
    case inr => exact .inr ⟨by unfold Oper.asks at *; rw [execOp_put oj hsj a oi.dst v h1] at hasks; exact hasks, hlets⟩
    refine .inl ?_
    unfold Oper.wp at *
    rw [execOp_put oj hsj a oi.dst v h1] at h
    generalize (execOp a.eval oj).run P w = r at *
    cases r with
    | ok n w' =>
      cases n <;> simp only [Oper.upon] at h ⊢
      case value u => exact ⟨keep a hy u, by rw [← Act.put_comm a v u h2]; exact h⟩
      case skip => exact ⟨keep a hy _, by rw [← Act.put_comm a v undef h2]; exact h⟩
      case defer d =>
        refine ⟨keep _ (keepD d) _, ?_⟩
        rw [← Act.put_comm _ v undef h2, ← Act.put_defers]
        exact h
      case enter f args =>
        refine Calls.mono h fun e w'' he => ?_
        cases e with
        | returned u => exact ⟨keep a hy u, by rw [← Act.put_comm a v u h2]; exact he⟩
        | panicked c => exact hQ _ _ _ he
        | outgrown => exact he
      case row row args => exact Rows.mono h fun u w'' he => ⟨keep a hy u, by rw [← Act.put_comm a v u h2]; exact he⟩
    | halt x w' =>
      cases x <;> simp only [Oper.upon] at h ⊢
      case panic u => exact hQ _ _ _ h
  · rename_i hw
    simp only [hw] at h
    exact ⟨keep a hy _, by rw [← Act.put_comm a v undef h2]; exact h⟩

/-- Whatever order is picked from here on; what has run (L) is told apart from what this walk has listed. -/
def wpAnyT (P : Program) (md : Region.Mode) (ops : Array Oper) (Q : Exit → Act → World → Prop) (S : Array Bool → World → Prop) : Nat → Array Bool → Act → Prop
  | 0, listed, a => Region.ready md ops listed = [] ∧ ∀ w, S listed w → Q .normal a w
  | fuel + 1, listed, a =>
    (Region.ready md ops listed = [] → ∀ w, S listed w → Q .normal a w) ∧
    ∀ i ∈ Region.ready md ops listed, ∀ L : Array Bool, L.getD i true = false → ∀ w, S L w → wpOp P ops Q i (fun a' w' => S (L.setIfInBounds i true) w' ∧ wpAnyT P md ops Q S fuel (listed.setIfInBounds i true) a') a w

theorem wpAny_of_T : ∀ (fuel : Nat) (listed : Array Bool) (a : Act), wpAnyT P md ops Q S fuel listed a → ∀ w, S listed w → wpAny P md ops Q fuel listed a w
  | 0, _, _, h, w, hS => ⟨h.1, h.2 w hS⟩
  | fuel + 1, listed, _, h, w, hS => ⟨fun he => h.1 he w hS, fun i hi => wpOp_mono (fun a' w' h' => wpAny_of_T fuel _ a' h'.2 w' h'.1) (h.2 i hi listed (mem_ready.1 hi).1 w hS)⟩

theorem wpAnyT_first {i : Nat} {oi : Oper} {v : Value} (hi : ops[i]? = some oi) (hsel : ∀ (j : Nat) (o : Oper) cs b, ops[j]? = some o → o.op ≠ .select cs b)
    (hQ : ∀ c a w, Q (.panic c) (a.put oi.dst v) w → Q (.panic c) a w) :
    ∀ (fuel : Nat) (listed : Array Bool) (a : Act),
      (∀ j oj, ops[j]? = some oj → j ≠ i → listed.getD j true = false → (∀ e ∈ oj.after, Region.binds md e = true → e.on ≠ i) → oi.apart ops oj = true) →
      i ∈ Region.ready md ops listed → Gives2 P ops S i oi v a →
      wpAnyT P md ops Q S fuel (listed.setIfInBounds i true) (a.put oi.dst v) → wpAnyT P md ops Q S (fuel + 1) listed a := by
  intro fuel
  induction fuel with
  | zero =>
    intro listed a _ hr hy H
    refine ⟨fun h => (by rw [h] at hr; cases hr), fun j hj L hL w hS => ?_⟩
    by_cases hji : j = i
    · subst hji; exact hy.wpOp hi hL hS (fun w' hS' => ⟨hS', H⟩)
    · have := ready_mono hj hji
      rw [H.1] at this
      cases this
  | succ fuel ih =>
    intro listed a hfree hr hy H
    refine ⟨fun h => (by rw [h] at hr; cases hr), fun j hj L hL w hS => ?_⟩
    by_cases hji : j = i
    · subst hji; exact hy.wpOp hi hL hS (fun w' hS' => ⟨hS', H⟩)
    · have h1 := H.2 j (ready_mono hj hji) L hL w hS
      obtain ⟨hjun, oj, hoj, hall⟩ := mem_ready.1 hj
      have hnot : ∀ e ∈ oj.after, Region.binds md e = true → e.on ≠ i := fun e he hb heq => by
        have h1 := hall e he hb
        have h0 := (mem_ready.1 hr).1
        rw [heq] at h1
        rcases Nat.lt_or_ge i listed.size with h' | h'
        · simp [h'] at h0 h1; rw [h0] at h1; cases h1
        · simp [Array.getElem?_eq_none h'] at h1
      have h2 := wpOp_putG2 hoj (hfree j oj hoj hji hjun hnot) (fun cs b => hsel i oi cs b hi) (fun cs b => hsel j oj cs b hoj) hQ hy h1
      have hfree' : ∀ k ok, ops[k]? = some ok → k ≠ i → (listed.setIfInBounds j true).getD k true = false →
          (∀ e ∈ ok.after, Region.binds md e = true → e.on ≠ i) → oi.apart ops ok = true := fun k ok hk hki hun hno => by
        refine hfree k ok hk hki ?_ hno
        by_cases hjk : j = k
        · subst hjk; exact hjun
        · rw [getD_set_ne true hjk] at hun; exact hun
      refine wpOp_mono (fun a' w' h3 => ⟨h3.2.1, ih (listed.setIfInBounds j true) a' hfree' (ready_mono hr (Ne.symm hji)) h3.1 ?_⟩) h2
      rw [Array.setIfInBounds_comm _ _ hji]
      exact h3.2.2

/-- Take number 'i' next: one that keeps the condition. -/
theorem seq2_op (i : Nat) {oi : Oper} {v : Value} {fuel : Nat} {listed : Array Bool} {a : Act} (hi : ops[i]? = some oi)
    (hs : Region.noSelect ops = true) (hf : Region.free md ops listed i = true) (hr : (Region.ready md ops listed).contains i = true)
    (hQ : ∀ c a w, Q (.panic c) (a.put oi.dst v) w → Q (.panic c) a w) (hw : Region.wanted oi (yielded ops a.tmps) = true)
    (hk : ∀ L, S (L.setIfInBounds i true) = S L)
    (hy : ∀ (K : Act → World → Prop) (L : Array Bool) (w : World), S L w → Hid (∀ w', S L w' → K (a.put oi.dst v) w') → oi.wp P a w K NoQ)
    (h : wpAnyT P md ops Q S fuel (listed.setIfInBounds i true) (a.put oi.dst v)) : wpAnyT P md ops Q S (fuel + 1) listed a :=
  wpAnyT_first hi (Region.noSelect_spec hs) hQ fuel listed a (Region.free_spec hi hf) (by simpa using hr) (.inl ⟨hw, fun L _ w hS => hy _ L w hS (fun w' hS' => ⟨rfl, by rw [hk]; exact hS'⟩)⟩) h

/-- .. one that turns it. -/
theorem seq2_turn (i : Nat) {oi : Oper} {v : Value} {fuel : Nat} {listed : Array Bool} {a : Act} (hi : ops[i]? = some oi)
    (hs : Region.noSelect ops = true) (hf : Region.free md ops listed i = true) (hr : (Region.ready md ops listed).contains i = true)
    (hQ : ∀ c a w, Q (.panic c) (a.put oi.dst v) w → Q (.panic c) a w) (hw : Region.wanted oi (yielded ops a.tmps) = true)
    (hy : ∀ (K : Act → World → Prop) (L : Array Bool) (w : World), L.getD i true = false → S L w → Hid (∀ w', S (L.setIfInBounds i true) w' → K (a.put oi.dst v) w') → oi.wp P a w K NoQ)
    (h : wpAnyT P md ops Q S fuel (listed.setIfInBounds i true) (a.put oi.dst v)) : wpAnyT P md ops Q S (fuel + 1) listed a :=
  wpAnyT_first hi (Region.noSelect_spec hs) hQ fuel listed a (Region.free_spec hi hf) (by simpa using hr) (.inl ⟨hw, fun L hL w hS => hy _ L w hL hS (fun w' hS' => ⟨rfl, hS'⟩)⟩) h

/-- .. one that is not wanted. -/
theorem seq2_skip (i : Nat) {oi : Oper} {fuel : Nat} {listed : Array Bool} {a : Act} (hi : ops[i]? = some oi)
    (hs : Region.noSelect ops = true) (hf : Region.free md ops listed i = true) (hr : (Region.ready md ops listed).contains i = true)
    (hQ : ∀ c a w, Q (.panic c) (a.put oi.dst undef) w → Q (.panic c) a w) (hw : Region.wanted oi (yielded ops a.tmps) = false)
    (hk : ∀ L, S (L.setIfInBounds i true) = S L)
    (h : wpAnyT P md ops Q S fuel (listed.setIfInBounds i true) (a.put oi.dst undef)) : wpAnyT P md ops Q S (fuel + 1) listed a :=
  wpAnyT_first hi (Region.noSelect_spec hs) hQ fuel listed a (Region.free_spec hi hf) (by simpa using hr) (.inr ⟨hw, rfl, fun L w hS => by rw [hk]; exact hS⟩) h

/-- All have come up. -/
theorem seq2_done {listed : Array Bool} {a : Act} (hr : Region.ready md ops listed = []) (h : ∀ w, S listed w → Q .normal a w) :
    ∀ fuel, wpAnyT P md ops Q S fuel listed a
  | 0 => ⟨hr, h⟩
  | _ + 1 => ⟨fun _ => h, by rw [hr]; simp⟩

/-- The beginning. -/
theorem seq2_begin (S : Array Bool → World → Prop) {id : Nat} {a : Act} {w : World} (hm : P.follows .mixedOrders = true) (hS : S (Array.replicate ops.size false) w.drew)
    (h : wpAnyT P .any ops Q S ops.size (Array.replicate ops.size false) a) : (Code.region id ops true).wp P Q a w :=
  wp_region_any hm (wpAny_of_T _ _ _ h _ hS)

/-- Two that turn: the flags. -/
theorem flag_off {L : Array Bool} {i : Nat} (h : L.getD i true = false) : L.getD i false = false := by
  rcases Nat.lt_or_ge i L.size with h' | h'
  · simp [h'] at h ⊢; exact h
  · simp [Array.getElem?_eq_none h'] at h
theorem flag_on {L : Array Bool} {i : Nat} (h : L.getD i true = false) : (L.setIfInBounds i true).getD i false = true := by
  rcases Nat.lt_or_ge i L.size with h' | h'
  · simp [h']
  · simp [Array.getElem?_eq_none h'] at h
theorem flags_keep (T : Bool → Bool → World → Prop) (x y i : Nat) (h1 : i ≠ x) (h2 : i ≠ y) (L : Array Bool) :
    (fun L : Array Bool => T (L.getD x false) (L.getD y false)) (L.setIfInBounds i true) = (fun L : Array Bool => T (L.getD x false) (L.getD y false)) L := by
  show T _ _ = T _ _
  rw [getD_set_ne false h1, getD_set_ne false h2]
end
end Go.Proofs.Ytmkhpahkcicfnaa
