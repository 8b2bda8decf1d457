/- A region that draws its order: loads are taken first under one condition S on the world, as in the library's OrdersHeld; but behind the operation z, which waits for them all, S need not stand (z may write a cell that the region has read). No program in sight. -/
import Derived.Test.YtiedfglkjkaefaaInv
import Derived.Deep.RegionHeld3
namespace Go.Proofs.Ytiedfglkjkaefaa
open Go.RowKit

section
variable {P : Program} {ops : Array Oper} {Q : Exit → Act → World → Prop} {md : Region.Mode} {S : World → Prop} {z : Nat}

/-- S stands, or z is over. -/
def SOr (z : Nat) (S : World → Prop) (listed : Array Bool) (w : World) : Prop := S w ∨ listed.getD z false = true
theorem SOr.stands {listed : Array Bool} {w : World} (h : SOr z S listed w) (hz : listed.getD z true = false) : S w := by
  rcases h with h | h
  · exact h
  · rw [(not_true_of hz).1] at h; cases h

def wpAnyL (P : Program) (md : Region.Mode) (ops : Array Oper) (Q : Exit → Act → World → Prop) (z : Nat) (S : World → Prop) : Nat → Array Bool → Act → World → Prop
  | 0, listed, a, w => Region.ready md ops listed = [] ∧ Q .normal a w
  | fuel + 1, listed, a, w =>
    (Region.ready md ops listed = [] → Q .normal a w) ∧
    ∀ i ∈ Region.ready md ops listed, wpOp P ops Q i (fun a' w' => SOr z S (listed.setIfInBounds i true) w' ∧ wpAnyL P md ops Q z S fuel (listed.setIfInBounds i true) a' w') a w

theorem wpAny_of_L : ∀ (fuel : Nat) (listed : Array Bool) (a : Act) (w : World), wpAnyL P md ops Q z S fuel listed a w → wpAny P md ops Q fuel listed a w
  | 0, _, _, _, h => h
  | fuel + 1, _, _, _, h => ⟨h.1, fun i hi => wpOp_mono (fun a' w' h' => wpAny_of_L fuel _ a' w' h'.2) (h.2 i hi)⟩

theorem wpAnyL_first {i : Nat} {oi : Oper} {v : Value} (hi : ops[i]? = some oi) (hsel : ∀ (j : Nat) (o : Oper) cs b, ops[j]? = some o → o.op ≠ .select cs b)
    (hQ : ∀ c a w, Q (.panic c) (a.put oi.dst v) w → Q (.panic c) a w) (kk : Nat) (hzi : i ∈ clo md ops kk (predsB md ops z)) :
    ∀ (fuel : Nat) (listed : Array Bool) (a : Act) (w : World),
      (∀ j oj, ops[j]? = some oj → j ≠ i → listed.getD j true = false → (∀ e ∈ oj.after, Region.binds md e = true → e.on ≠ i) → oi.apart ops oj = true) → Down md ops listed → listed.getD z true = false →
      i ∈ Region.ready md ops listed → YieldsIf P ops S oi v a → S w →
      wpAnyL P md ops Q z S fuel (listed.setIfInBounds i true) (a.put oi.dst v) w → wpAnyL P md ops Q z S (fuel + 1) listed a w := by
  intro fuel
  induction fuel with
  | zero =>
    intro listed a w _ _ hz hr hy hS H
    refine ⟨fun h => (by rw [h] at hr; cases hr), fun j hj => ?_⟩
    by_cases hji : j = i
    · subst hji; exact hy.wpOp hi hS ⟨.inl hS, H⟩
    · have := ready_mono hj hji
      rw [H.1] at this
      cases this
  | succ fuel ih =>
    intro listed a w hfree hdn hz hr hy hS H
    refine ⟨fun h => (by rw [h] at hr; cases hr), fun j hj => ?_⟩
    by_cases hji : j = i
    · subst hji; exact hy.wpOp hi hS ⟨.inl hS, H⟩
    · have h1 := H.2 j (ready_mono hj hji)
      obtain ⟨hjun, oj, hoj, hall⟩ := mem_ready.1 hj
      have hnot : ∀ e ∈ oj.after, Region.binds md e = true → e.on ≠ i := fun e he hb heq => by
        have h1 := hall e he hb
        have h0 := (mem_ready.1 hr).1
        rw [heq] at h1
        rcases Nat.lt_or_ge i listed.size with h' | h'
        · simp [h'] at h0 h1; rw [h0] at h1; cases h1
        · simp [Array.getElem?_eq_none h'] at h1
      have hjz : j ≠ z := fun e => by
        subst e
        have h5 := clo_down hdn kk _ (ready_iff.1 hj).2.2 i hzi
        rw [(not_true_of (mem_ready.1 hr).1).1] at h5
        cases h5
      have hz' : (listed.setIfInBounds j true).getD z true = false := by rw [getD_set_ne true hjz]; exact hz
      have h2 := wpOp_putIf hoj (hfree j oj hoj hji hjun hnot) (fun cs b => hsel i oi cs b hi) (fun cs b => hsel j oj cs b hoj) hQ hy h1
      have hfree' : ∀ k ok, ops[k]? = some ok → k ≠ i → (listed.setIfInBounds j true).getD k true = false →
          (∀ e ∈ ok.after, Region.binds md e = true → e.on ≠ i) → oi.apart ops ok = true := fun k ok hk hki hun hno => by
        refine hfree k ok hk hki ?_ hno
        by_cases hjk : j = k
        · subst hjk; exact hjun
        · rw [getD_set_ne true hjk] at hun; exact hun
      have hri : i ∈ Region.ready md ops (listed.setIfInBounds j true) := ready_mono hr (Ne.symm hji)
      have hiz : i ≠ z := fun e => by
        subst e
        have h5 := clo_down hdn kk _ (ready_iff.1 hr).2.2 i hzi
        rw [(not_true_of hz).1] at h5
        cases h5
      have hdn' : Down md ops (listed.setIfInBounds j true) := fun k hk p hp => by
        by_cases hkj : k = j
        · subst hkj; exact getD_set_true ((ready_iff.1 hj).2.2 p hp)
        · rw [getD_set_ne false (Ne.symm hkj)] at hk
          exact getD_set_true (hdn k hk p hp)
      refine wpOp_mono (fun a' w' h3 => ?_) h2
      obtain ⟨hy', hso, hrest⟩ := h3
      have hS' : S w' := hso.stands (by rw [getD_set_ne true hjz, getD_set_ne true hiz]; exact hz)
      rw [Array.setIfInBounds_comm _ _ (Ne.symm hji)] at hrest
      exact ⟨.inl hS', ih (listed.setIfInBounds j true) a' w' hfree' hdn' hz' hri hy' hS' hrest⟩

/-- Downwards closed, as a Bool. -/
def downOk (md : Region.Mode) (ops : Array Oper) (L : Array Bool) : Bool := L.size == ops.size && (List.range ops.size).all fun i => !(L.getD i false) || (predsB md ops i).all fun p => L.getD p false
theorem down_of {L : Array Bool} (h : downOk md ops L = true) : Down md ops L := by
  simp only [downOk, Bool.and_eq_true, List.all_eq_true, List.mem_range, beq_iff_eq, Bool.or_eq_true, Bool.not_eq_true'] at h
  intro i hi p hp
  have hlt : i < ops.size := by
    rcases Nat.lt_or_ge i L.size with h' | h'
    · have := h.1; omega
    · simp [Array.getElem?_eq_none h'] at hi
  rcases h.2 i hlt with h2 | h2
  · rw [hi] at h2; cases h2
  · exact h2 p hp

theorem wpAnyL_take {i : Nat} {oi : Oper} {v : Value} {fuel : Nat} {listed : Array Bool} {a : Act} {w : World} (hi : ops[i]? = some oi)
    (hs : Region.noSelect ops = true) (hf : Region.free md ops listed i = true) (hr : (Region.ready md ops listed).contains i = true) (hzz : (!(listed.getD z true) && (clo md ops 24 (predsB md ops z)).contains i && downOk md ops listed) = true)
    (hQ : ∀ c a w, Q (.panic c) (a.put oi.dst v) w → Q (.panic c) a w) (hy : YieldsIf P ops S oi v a) (hS : S w)
    (h : wpAnyL P md ops Q z S fuel (listed.setIfInBounds i true) (a.put oi.dst v) w) : wpAnyL P md ops Q z S (fuel + 1) listed a w := by
  rw [Bool.and_eq_true, Bool.and_eq_true] at hzz
  exact wpAnyL_first hi (Region.noSelect_spec hs) hQ 24 (by simpa using hzz.1.2) fuel listed a w (Region.free_spec hi hf) (down_of hzz.2) (by simpa using hzz.1.1) (by simpa using hr) hy hS h

def AllReadyL (P : Program) (md : Region.Mode) (ops : Array Oper) (Q : Exit → Act → World → Prop) (z : Nat) (S : World → Prop) (fuel : Nat) (listed : Array Bool) (a : Act) (w : World) (rs : List Nat) : Prop :=
  ∀ i ∈ rs, wpOp P ops Q i (fun a' w' => SOr z S (listed.setIfInBounds i true) w' ∧ wpAnyL P md ops Q z S fuel (listed.setIfInBounds i true) a' w') a w
theorem AllReadyL.nil {fuel : Nat} {listed : Array Bool} {a : Act} {w : World} : AllReadyL P md ops Q z S fuel listed a w [] := fun _ h => by cases h
theorem AllReadyL.cons {fuel : Nat} {listed : Array Bool} {a : Act} {w : World} {i : Nat} {o : Oper} {rs : List Nat} (ho : ops[i]? = some o)
    (h : ∀ K' : Act → World → Prop, Shut (∀ a w, SOr z S (listed.setIfInBounds i true) w → (SOr z S (listed.setIfInBounds i true) w → wpAnyL P md ops Q z S fuel (listed.setIfInBounds i true) a w) → K' a w) → if Region.wanted o (yielded ops a.tmps) = true then Oper.wp P o a w K' Q else K' (a.put o.dst undef) w)
    (hs : AllReadyL P md ops Q z S fuel listed a w rs) : AllReadyL P md ops Q z S fuel listed a w (i :: rs) := fun j hj => by
  rcases List.mem_cons.1 hj with rfl | hj
  · exact wpOp_step ho (fun K' hK => h K' (fun a w hS hW => hK a w ⟨hS, hW hS⟩))
  · exact hs j hj
theorem wpAnyL_ready {rs : List Nat} {fuel : Nat} {listed : Array Bool} {a : Act} {w : World} (hr : Region.ready md ops listed = rs) (hne : rs ≠ [])
    (h : AllReadyL P md ops Q z S fuel listed a w rs) : wpAnyL P md ops Q z S (fuel + 1) listed a w := ⟨fun h0 => absurd (hr ▸ h0) hne, hr ▸ h⟩
theorem wpAnyL_done {listed : Array Bool} {a : Act} {w : World} (hr : Region.ready md ops listed = []) (h : Q .normal a w) : ∀ fuel, wpAnyL P md ops Q z S fuel listed a w
  | 0 => ⟨hr, h⟩
  | _ + 1 => ⟨fun _ => h, by rw [hr]; simp⟩
theorem wp_region_L (z : Nat) (S : World → Prop) {id : Nat} {a : Act} {w : World} (hm : P.follows .mixedOrders = true) (hS : S w.drew)
    (h : S w.drew → wpAnyL P .any ops Q z S ops.size (Array.replicate ops.size false) a w.drew) : (Code.region id ops true).wp P Q a w :=
  wp_region_any hm (wpAny_of_L _ _ _ _ (h hS))
end
end Go.Proofs.Ytiedfglkjkaefaa
