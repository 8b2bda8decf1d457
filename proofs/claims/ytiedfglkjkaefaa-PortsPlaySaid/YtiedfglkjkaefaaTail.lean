/- The forced tail of a region that draws its order, walked as a plain list of operations. No program in sight. -/
import Derived.Test.YtiedfglkjkaefaaLast
namespace Go.Proofs.Ytiedfglkjkaefaa
open Go.RowKit

section
variable {P : Program} {ops : Array Oper} {Q : Exit → Act → World → Prop} {md : Region.Mode} {S : World → Prop} {z : Nat}

/-- From here on the order is forced: just these, one behind the other. -/
def forcedB (md : Region.Mode) (ops : Array Oper) : Array Bool → List Nat → Bool
  | listed, [] => Region.ready md ops listed == []
  | listed, i :: l => (Region.ready md ops listed == [i]) && forcedB md ops (listed.setIfInBounds i true) l
def tailOps (ops : Array Oper) (l : List Nat) : List Oper := l.filterMap (fun i => ops[i]?)

theorem wpAnyL_over : ∀ (l : List Nat) (fuel : Nat) (listed : Array Bool) (a : Act) (w : World), l.length ≤ fuel → forcedB md ops listed l = true → listed.getD z false = true →
    wpList P ops Q (tailOps ops l) a w → wpAnyL P md ops Q z S fuel listed a w
  | [], fuel, listed, a, w, _, hf, _, h => wpAnyL_done (by simpa [forcedB] using hf) h fuel
  | i :: l, 0, _, _, _, hl, _, _, _ => by simp at hl
  | i :: l, fuel + 1, listed, a, w, hl, hf, hz, h => by
    rw [forcedB, Bool.and_eq_true, beq_iff_eq] at hf
    refine ⟨fun h0 => (by rw [hf.1] at h0; cases h0), fun j hj => ?_⟩
    rw [hf.1, List.mem_singleton] at hj
    subst hj
    have hi : j ∈ Region.ready md ops listed := by rw [hf.1]; exact List.mem_singleton.2 rfl
    obtain ⟨_, o, ho, _⟩ := mem_ready.1 hi
    have ht : tailOps ops (j :: l) = o :: tailOps ops l := by simp [tailOps, ho]
    rw [ht] at h
    have hz' : (listed.setIfInBounds j true).getD z false = true := getD_set_true hz
    unfold wpOp
    simp only [ho]
    unfold wpList at h
    split
    · rename_i hw
      rw [if_pos hw] at h
      rcases h with h | h
      · exact .inl (Oper.wp_mono (fun a' w' h' => ⟨.inr hz', wpAnyL_over l fuel _ a' w' (by simpa using hl) hf.2 hz' h'⟩) h)
      · exact .inr h
    · rename_i hw
      rw [if_neg hw] at h
      exact ⟨.inr hz', wpAnyL_over l fuel _ _ _ (by simpa using hl) hf.2 hz' h⟩

/-- The tail begins at z. -/
theorem wpAnyL_tail {l : List Nat} {fuel : Nat} {listed : Array Bool} {a : Act} {w : World} (hl : Nat.ble (l.length + 1) fuel = true) (hf : forcedB md ops listed (z :: l) = true)
    (h : wpList P ops Q (tailOps ops (z :: l)) a w) : wpAnyL P md ops Q z S fuel listed a w := by
  have hl := Nat.le_of_ble_eq_true hl
  cases fuel with
  | zero => omega
  | succ fuel =>
    rw [forcedB, Bool.and_eq_true, beq_iff_eq] at hf
    refine ⟨fun h0 => (by rw [hf.1] at h0; cases h0), fun j hj => ?_⟩
    rw [hf.1, List.mem_singleton] at hj
    subst hj
    have hi : j ∈ Region.ready md ops listed := by rw [hf.1]; exact List.mem_singleton.2 rfl
    obtain ⟨hun, o, ho, _⟩ := mem_ready.1 hi
    have ht : tailOps ops (j :: l) = o :: tailOps ops l := by simp [tailOps, ho]
    rw [ht] at h
    have hz' : (listed.setIfInBounds j true).getD j false = true := by
      have := (not_true_of hun).2
      simp [this]
    unfold wpOp
    simp only [ho]
    unfold wpList at h
    split
    · rename_i hw
      rw [if_pos hw] at h
      rcases h with h | h
      · exact .inl (Oper.wp_mono (fun a' w' h' => ⟨.inr hz', wpAnyL_over l fuel _ a' w' (by omega) hf.2 hz' h'⟩) h)
      · exact .inr h
    · rename_i hw
      rw [if_neg hw] at h
      exact ⟨.inr hz', wpAnyL_over l fuel _ _ _ (by omega) hf.2 hz' h⟩
end
end Go.Proofs.Ytiedfglkjkaefaa
