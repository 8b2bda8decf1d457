/- XLast and XTail inside a fence: a region that draws its order; its quiet operations are taken first under a condition S on the world; the forced tail is a plain list of operations. No program in sight. -/
import Derived.Test.YtdhkbephofnfdaaTail
import Derived.OrdersIn
import Derived.TacticsIn
namespace Go.Proofs.Ytdhkbephofnfdaa
open Go.RowKit

section
variable {F : Fence} {n : Nat} {P : Program} {ops : Array Oper} {Q : Exit → Act → World → Prop} {md : Region.Mode} {S : World → Prop} {z : Nat}

def YieldsIfIn (P : Program) (ops : Array Oper) (S : World → Prop) (o : Oper) (v : Value) (a : Act) : Prop := YieldsIf P ops S o v a ∧ ∀ w, S w → o.about P w a.eval = none

theorem YieldsIfIn.wpOpIn {i : Nat} {o : Oper} {v : Value} {a : Act} (hro : F.round = none) (hi : ops[i]? = some o) (hy : YieldsIfIn P ops S o v a)
    {K : Act → World → Prop} {w : World} (hS : S w) (h : K (a.put o.dst v) w) : wpOpIn F n P ops Q i K a w := by
  unfold Go.wpOpIn
  simp only [hi]
  have hab : ∀ f, o.about P w a.eval = some f → F.fn f := fun f hf => by rw [hy.2 w hS] at hf; cases hf
  rcases hy.1 with ⟨hw, hv⟩ | ⟨hw, rfl⟩
  · simp only [hw, if_true, Oper.wpIn, hro, Oper.semAt_none, hv w hS, Oper.uponIn]; exact ⟨hab, h⟩
  · simp only [hw, Bool.false_eq_true, if_false]; exact ⟨hab, h⟩

theorem YieldsIfIn.of_same {o : Oper} {v : Value} {a a' : Act} (hy : YieldsIfIn P ops S o v a) (he : execOp a'.eval o = execOp a.eval o)
    (hw : Region.wanted o (yielded ops a'.tmps) = Region.wanted o (yielded ops a.tmps)) (hb : ∀ w, o.about P w a'.eval = o.about P w a.eval) : YieldsIfIn P ops S o v a' :=
  ⟨hy.1.of_same he hw, fun w hS => by rw [hb w]; exact hy.2 w hS⟩

theorem wpOpIn_putIf {j : Nat} {oi oj : Oper} {v : Value} (hro : F.round = none) (hj : ops[j]? = some oj) (hap : oi.apart ops oj = true)
    (hsi : ∀ cs b, oi.op ≠ .select cs b) (hsj : ∀ cs b, oj.op ≠ .select cs b)
    (hQ : ∀ c a w, Q (.panic c) (a.put oi.dst v) w → Q (.panic c) a w) {K : Act → World → Prop} {a : Act} {w : World}
    (hy : YieldsIfIn P ops S oi v a) (h : wpOpIn F n P ops Q j K (a.put oi.dst v) w) :
    wpOpIn F n P ops Q j (fun a' w' => YieldsIfIn P ops S oi v a' ∧ K (a'.put oi.dst v) w') a w := by
  obtain ⟨h1, h2, h3⟩ := Oper.apart_spec hap
  have keep : ∀ (a : Act), YieldsIfIn P ops S oi v a → ∀ u, YieldsIfIn P ops S oi v (a.put oj.dst u) := fun a hy u =>
    hy.of_same (execOp_put oi hsi a oj.dst u h3) (wanted_put oi a oj.dst u h3) (fun w => about_put oi w a oj.dst u h3)
  have keepD : ∀ d, YieldsIfIn P ops S oi v { a with defers := d :: a.defers } := fun d => hy.of_same rfl rfl (fun _ => rfl)
  unfold wpOpIn at *
  simp only [hj] at *
  rw [wanted_put oj a oi.dst v h1, about_put oj w a oi.dst v h1] at h
  split
  · rename_i hw
    simp only [hw, if_true] at h
    unfold Oper.wpIn at *
    rw [about_put oj w a oi.dst v h1] at h
    refine ⟨h.1, ?_⟩
    have h := h.2
    rw [hro, Oper.semAt_none, execOp_put oj hsj a oi.dst v h1] at h
    rw [hro, Oper.semAt_none]
    generalize (execOp a.eval oj).run P w = r at *
    cases r with
    | ok x w' =>
      cases x <;> simp only [Oper.uponIn] at h ⊢
      case value u => exact ⟨keep a hy u, by rw [← Act.put_comm a v u h2]; exact h⟩
      case skip => exact ⟨keep a hy _, by rw [← Act.put_comm a v undef h2]; exact h⟩
      case defer d =>
        refine ⟨keep _ (keepD d) _, ?_⟩
        rw [← Act.put_comm _ v undef h2, ← Act.put_defers]
        exact h
      case enter f args =>
        refine ⟨h.1, CallsIn.mono h.2 fun e w'' he => ?_⟩
        cases e with
        | returned u => exact ⟨keep a hy u, by rw [← Act.put_comm a v u h2]; exact he⟩
        | panicked c => exact hQ _ _ _ he
        | outgrown => exact he
      case row row args => exact ⟨h.1, RowsIn.mono h.2 fun u w'' he => ⟨keep a hy u, by rw [← Act.put_comm a v u h2]; exact he⟩⟩
      case round l f tmps assign body =>
        refine ⟨h.1, RoundIn.mono h.2 fun e w'' he => ?_⟩
        cases e with
        | returned u => exact ⟨keep a hy u, by rw [← Act.put_comm a v u h2]; exact he⟩
        | panicked c => exact hQ _ _ _ he
        | outgrown => exact he
    | halt x w' =>
      cases x <;> simp only [Oper.uponIn] at h ⊢
      case panic u => exact hQ _ _ _ h
  · rename_i hw
    simp only [hw] at h
    exact ⟨h.1, keep a hy _, by rw [← Act.put_comm a v undef h2]; exact h.2⟩

def wpAnyLIn (F : Fence) (n : Nat) (P : Program) (md : Region.Mode) (ops : Array Oper) (Q : Exit → Act → World → Prop) (z : Nat) (S : World → Prop) : Nat → Array Bool → Act → World → Prop
  | 0, listed, a, w => Region.ready md ops listed = [] ∧ Q .normal a w
  | fuel + 1, listed, a, w =>
    (Region.ready md ops listed = [] → Q .normal a w) ∧
    ∀ i ∈ Region.ready md ops listed, wpOpIn F n P ops Q i (fun a' w' => SOr z S (listed.setIfInBounds i true) w' ∧ wpAnyLIn F n P md ops Q z S fuel (listed.setIfInBounds i true) a' w') a w

theorem wpAnyIn_of_L : ∀ (fuel : Nat) (listed : Array Bool) (a : Act) (w : World), wpAnyLIn F n P md ops Q z S fuel listed a w → wpAnyIn F n P md ops Q fuel listed a w
  | 0, _, _, _, h => h
  | fuel + 1, _, _, _, h => ⟨h.1, fun i hi => wpOpIn_mono (fun a' w' h' => wpAnyIn_of_L fuel _ a' w' h'.2) (h.2 i hi)⟩

theorem wpAnyLIn_first {i : Nat} {oi : Oper} {v : Value} (hro : F.round = none) (hi : ops[i]? = some oi) (hsel : ∀ (j : Nat) (o : Oper) cs b, ops[j]? = some o → o.op ≠ .select cs b)
    (hQ : ∀ c a w, Q (.panic c) (a.put oi.dst v) w → Q (.panic c) a w) (kk : Nat) (hzi : i ∈ clo md ops kk (predsB md ops z)) :
    ∀ (fuel : Nat) (listed : Array Bool) (a : Act) (w : World),
      (∀ j oj, ops[j]? = some oj → j ≠ i → listed.getD j true = false → (∀ e ∈ oj.after, Region.binds md e = true → e.on ≠ i) → oi.apart ops oj = true) → Down md ops listed → listed.getD z true = false →
      i ∈ Region.ready md ops listed → YieldsIfIn P ops S oi v a → S w →
      wpAnyLIn F n P md ops Q z S fuel (listed.setIfInBounds i true) (a.put oi.dst v) w → wpAnyLIn F n P md ops Q z S (fuel + 1) listed a w := by
  intro fuel
  induction fuel with
  | zero =>
    intro listed a w _ _ hz hr hy hS H
    refine ⟨fun h => (by rw [h] at hr; cases hr), fun j hj => ?_⟩
    by_cases hji : j = i
    · subst hji; exact hy.wpOpIn hro hi hS ⟨.inl hS, H⟩
    · have := ready_mono hj hji
      rw [H.1] at this
      cases this
  | succ fuel ih =>
    intro listed a w hfree hdn hz hr hy hS H
    refine ⟨fun h => (by rw [h] at hr; cases hr), fun j hj => ?_⟩
    by_cases hji : j = i
    · subst hji; exact hy.wpOpIn hro hi hS ⟨.inl hS, H⟩
    · have h1 := H.2 j (ready_mono hj hji)
      obtain ⟨hjun, oj, hoj, hall⟩ := mem_ready.1 hj
      have hnot : ∀ e ∈ oj.after, Region.binds md e = true → e.on ≠ i := fun e he hb heq => by
        have h1 := hall e he hb
        have h0 := (mem_ready.1 hr).1
        rw [heq] at h1
        rcases Nat.lt_or_ge i listed.size with h' | h'
        · simp [h'] at h0 h1; rw [h0] at h1; cases h1
        · simp [Array.getElem?_eq_none h'] at h1
      have hjz : j ≠ z := fun e => by
        subst e
        have h5 := clo_down hdn kk _ (ready_iff.1 hj).2.2 i hzi
        rw [(not_true_of (mem_ready.1 hr).1).1] at h5
        cases h5
      have hz' : (listed.setIfInBounds j true).getD z true = false := by rw [getD_set_ne true hjz]; exact hz
      have h2 := wpOpIn_putIf hro hoj (hfree j oj hoj hji hjun hnot) (fun cs b => hsel i oi cs b hi) (fun cs b => hsel j oj cs b hoj) hQ hy h1
      have hfree' : ∀ k ok, ops[k]? = some ok → k ≠ i → (listed.setIfInBounds j true).getD k true = false →
          (∀ e ∈ ok.after, Region.binds md e = true → e.on ≠ i) → oi.apart ops ok = true := fun k ok hk hki hun hno => by
        refine hfree k ok hk hki ?_ hno
        by_cases hjk : j = k
        · subst hjk; exact hjun
        · rw [getD_set_ne true hjk] at hun; exact hun
      have hri : i ∈ Region.ready md ops (listed.setIfInBounds j true) := ready_mono hr (Ne.symm hji)
      have hiz : i ≠ z := fun e => by
        subst e
        have h5 := clo_down hdn kk _ (ready_iff.1 hr).2.2 i hzi
        rw [(not_true_of hz).1] at h5
        cases h5
      have hdn' : Down md ops (listed.setIfInBounds j true) := fun k hk p hp => by
        by_cases hkj : k = j
        · subst hkj; exact getD_set_true ((ready_iff.1 hj).2.2 p hp)
        · rw [getD_set_ne false (Ne.symm hkj)] at hk
          exact getD_set_true (hdn k hk p hp)
      refine wpOpIn_mono (fun a' w' h3 => ?_) h2
      obtain ⟨hy', hso, hrest⟩ := h3
      have hS' : S w' := hso.stands (by rw [getD_set_ne true hjz, getD_set_ne true hiz]; exact hz)
      rw [Array.setIfInBounds_comm _ _ (Ne.symm hji)] at hrest
      exact ⟨.inl hS', ih (listed.setIfInBounds j true) a' w' hfree' hdn' hz' hri hy' hS' hrest⟩

theorem wpAnyLIn_take {i : Nat} {oi : Oper} {v : Value} {fuel : Nat} {listed : Array Bool} {a : Act} {w : World} (hro : F.round = none) (hi : ops[i]? = some oi)
    (hs : Region.noSelect ops = true) (hf : Region.free md ops listed i = true) (hr : (Region.ready md ops listed).contains i = true) (hzz : (!(listed.getD z true) && (clo md ops 24 (predsB md ops z)).contains i && downOk md ops listed) = true)
    (hQ : ∀ c a w, Q (.panic c) (a.put oi.dst v) w → Q (.panic c) a w) (hy : YieldsIf P ops S oi v a) (hb : ∀ w, S w → oi.about P w a.eval = none) (hS : S w)
    (h : wpAnyLIn F n P md ops Q z S fuel (listed.setIfInBounds i true) (a.put oi.dst v) w) : wpAnyLIn F n P md ops Q z S (fuel + 1) listed a w := by
  rw [Bool.and_eq_true, Bool.and_eq_true] at hzz
  exact wpAnyLIn_first hro hi (Region.noSelect_spec hs) hQ 24 (by simpa using hzz.1.2) fuel listed a w (Region.free_spec hi hf) (down_of hzz.2) (by simpa using hzz.1.1) (by simpa using hr) ⟨hy, hb⟩ hS h

theorem wpAnyLIn_done {listed : Array Bool} {a : Act} {w : World} (hr : Region.ready md ops listed = []) (h : Q .normal a w) : ∀ fuel, wpAnyLIn F n P md ops Q z S fuel listed a w
  | 0 => ⟨hr, h⟩
  | _ + 1 => ⟨fun _ => h, by rw [hr]; simp⟩

theorem wpAnyLIn_over : ∀ (l : List Nat) (fuel : Nat) (listed : Array Bool) (a : Act) (w : World), l.length ≤ fuel → forcedB md ops listed l = true → listed.getD z false = true →
    wpListIn F n P ops Q (tailOps ops l) a w → wpAnyLIn F n P md ops Q z S fuel listed a w
  | [], fuel, listed, a, w, _, hf, _, h => wpAnyLIn_done (by simpa [forcedB] using hf) h fuel
  | i :: l, 0, _, _, _, hl, _, _, _ => by simp at hl
  | i :: l, fuel + 1, listed, a, w, hl, hf, hz, h => by
    rw [forcedB, Bool.and_eq_true, beq_iff_eq] at hf
    refine ⟨fun h0 => (by rw [hf.1] at h0; cases h0), fun j hj => ?_⟩
    rw [hf.1, List.mem_singleton] at hj
    subst hj
    have hi : j ∈ Region.ready md ops listed := by rw [hf.1]; exact List.mem_singleton.2 rfl
    obtain ⟨_, o, ho, _⟩ := mem_ready.1 hi
    have ht : tailOps ops (j :: l) = o :: tailOps ops l := by simp [tailOps, ho]
    rw [ht] at h
    have hz' : (listed.setIfInBounds j true).getD z false = true := getD_set_true hz
    unfold wpOpIn
    simp only [ho]
    unfold wpListIn at h
    split
    · rename_i hw
      rw [if_pos hw] at h
      exact Oper.wpIn_mono (fun a' w' h' => ⟨.inr hz', wpAnyLIn_over l fuel _ a' w' (by simpa using hl) hf.2 hz' h'⟩) h
    · rename_i hw
      rw [if_neg hw] at h
      exact ⟨h.1, .inr hz', wpAnyLIn_over l fuel _ _ _ (by simpa using hl) hf.2 hz' h.2⟩

theorem wpAnyLIn_tail {l : List Nat} {fuel : Nat} {listed : Array Bool} {a : Act} {w : World} (hl : Nat.ble (l.length + 1) fuel = true) (hf : forcedB md ops listed (z :: l) = true)
    (h : wpListIn F n P ops Q (tailOps ops (z :: l)) a w) : wpAnyLIn F n P md ops Q z S fuel listed a w := by
  have hl := Nat.le_of_ble_eq_true hl
  cases fuel with
  | zero => omega
  | succ fuel =>
    rw [forcedB, Bool.and_eq_true, beq_iff_eq] at hf
    refine ⟨fun h0 => (by rw [hf.1] at h0; cases h0), fun j hj => ?_⟩
    rw [hf.1, List.mem_singleton] at hj
    subst hj
    have hi : j ∈ Region.ready md ops listed := by rw [hf.1]; exact List.mem_singleton.2 rfl
    obtain ⟨hun, o, ho, _⟩ := mem_ready.1 hi
    have ht : tailOps ops (j :: l) = o :: tailOps ops l := by simp [tailOps, ho]
    rw [ht] at h
    have hz' : (listed.setIfInBounds j true).getD j false = true := by
      have := (not_true_of hun).2
      simp [this]
    unfold wpOpIn
    simp only [ho]
    unfold wpListIn at h
    split
    · rename_i hw
      rw [if_pos hw] at h
      exact Oper.wpIn_mono (fun a' w' h' => ⟨.inr hz', wpAnyLIn_over l fuel _ a' w' (by omega) hf.2 hz' h'⟩) h
    · rename_i hw
      rw [if_neg hw] at h
      exact ⟨h.1, .inr hz', wpAnyLIn_over l fuel _ _ _ (by omega) hf.2 hz' h.2⟩

theorem wpIn_region_L (z : Nat) (S : World → Prop) {id : Nat} {a : Act} {w : World} (hm : P.follows .mixedOrders = true) (hS : S w.drew)
    (h : S w.drew → wpAnyLIn F n P .any ops Q z S ops.size (Array.replicate ops.size false) a w.drew) : (Code.region id ops true).wpIn F n P Q a w :=
  wpIn_region_any hm (wpAnyIn_of_L _ _ _ _ (h hS))
theorem wpIn_region_noPanic {id : Nat} {b : Bool} {a : Act} {w : World} (h : (Code.region id ops b).wpIn F n P (NoPanic Q) a w) : (Code.region id ops b).wpIn F n P Q a w :=
  Code.wpIn_mono NoPanic.imp h
end
end Go.Proofs.Ytdhkbephofnfdaa
