/- Frames, one behind the other (plain). -/
import Derived.Test.YtdhkbephofnfdaaFramesR
namespace Go.Proofs.Ytdhkbephofnfdaa
open Go.RowKit

theorem psum_cons (p : PartD) (l : List PartD) (k : Nat) : psum (p :: l) (k + 1) = p.pages + psum l k := by
  unfold psum
  simp
theorem psum_nn (l : List PartD) (hl : ∀ p ∈ l, 1 ≤ p.pages) : ∀ k, 0 ≤ psum l k := by
  induction l with
  | nil => intro k; simp [psum]
  | cons p r ih =>
    intro k
    cases k with
    | zero => simp [psum]
    | succ k =>
      rw [psum_cons]
      have := ih (fun q hq => hl q (by simp [hq])) k
      have := hl p (by simp)
      omega
theorem psum_mono (l : List PartD) (hl : ∀ p ∈ l, 1 ≤ p.pages) (i : Nat) : ∀ k, psum l i ≤ psum l (i + k)
  | 0 => Int.le_refl _
  | k + 1 => by
    have h := psum_mono l hl i k
    by_cases hk : i + k < l.length
    · have := psum_succ l (i + k) hk
      have := hl _ (List.getElem_mem hk)
      rw [← Nat.add_assoc]
      omega
    · have : psum l (i + (k + 1)) = psum l (i + k) := by
        unfold psum
        rw [List.take_of_length_le (by omega), List.take_of_length_le (by omega)]
      omega
theorem guestGo_at : ∀ (l : List PartD) (i k : Nat) (j : Int), (∀ p ∈ l, 1 ≤ p.pages) → (hk : k < l.length) → 0 ≤ j → j < l[k].pages → guestGo l i (psum l k + j) = (((i + k : Nat) : Int), j)
  | [], _, _, _, _, hk, _, _ => by simp at hk
  | p :: r, i, 0, j, _, _, h0, h1 => by
    unfold guestGo
    have h1' : j < p.pages := h1
    rw [show psum (p :: r) 0 = 0 from rfl, Int.zero_add, if_pos h1']
    rfl
  | p :: r, i, k + 1, j, hl, hk, h0, h1 => by
    unfold guestGo
    have hn := psum_nn r (fun q hq => hl q (by simp [hq])) k
    rw [psum_cons, if_neg (by omega), show p.pages + psum r k + j - p.pages = psum r k + j by omega, guestGo_at r (i + 1) k j (fun q hq => hl q (by simp [hq])) (by simpa using hk) h0 (by simpa using h1)]
    rw [show i + 1 + k = i + (k + 1) by omega]
theorem guestGo_end : ∀ (l : List PartD) (i : Nat) (n : Int), psum l l.length ≤ n → (∀ p ∈ l, 1 ≤ p.pages) → guestGo l i n = (-2, -1)
  | [], _, _, _, _ => rfl
  | p :: r, i, n, h, hl => by
    have hn := psum_nn r (fun q hq => hl q (by simp [hq])) r.length
    rw [List.length_cons, psum_cons] at h
    unfold guestGo
    rw [if_neg (by omega), guestGo_end r (i + 1) _ (by omega) (fun q hq => hl q (by simp [hq]))]
theorem guestGo_in : ∀ (l : List PartD) (i : Nat) (n : Int), 0 ≤ n → n < psum l l.length → ∃ q : Nat, (guestGo l i n).1 = q
  | [], _, n, h0, h => by
    have : psum [] ([] : List PartD).length = 0 := rfl
    omega
  | p :: r, i, n, h0, h => by
    unfold guestGo
    by_cases h2 : n < p.pages
    · rw [if_pos h2]; exact ⟨i, rfl⟩
    · rw [if_neg h2]
      rw [List.length_cons, psum_cons] at h
      exact guestGo_in r (i + 1) _ (by omega) (by omega)
/-- Is a frame one of the partitions' first n? -/
def markB (m : Int) (h : Nat) : Bool := decide (4 ≤ h) && decide ((h : Int) < 4 + m)
theorem markB_next (m : Int) (hn h : Nat) (e : (hn : Int) = 4 + m) (hm : 0 ≤ m) : (if h = hn then true else markB m h) = markB (m + 1) h := by
  unfold markB
  by_cases h1 : h = hn
  · subst h1
    rw [if_pos rfl, decide_eq_true (by omega), decide_eq_true (by omega)]
    rfl
  · rw [if_neg h1]
    congr 1
    by_cases h2 : (h : Int) < 4 + m
    · rw [decide_eq_true h2, decide_eq_true (by omega)]
    · rw [decide_eq_false h2, decide_eq_false (by omega)]

/-- Of a configuration that may be: a partition's frame, there and back. -/
theorem frames_at {C : Cfg} (hc : chk C = 0) {k : Nat} (hk : k < C.parts.length) {j : Int} (h0 : 0 ≤ j) (h1 : j < C.parts[k].pages) :
    hostV C k j = (4 + psum C.parts k + j, true) ∧ guestV C (4 + psum C.parts k + j) = ((k : Int), j) ∧ 0 ≤ psum C.parts k ∧ 4 + psum C.parts k + j < C.pages ∧ C.pages ≤ 256 := by
  have hF := fine_of hc
  have hs := hF.sum
  have hp := hF.pages
  have hnn := psum_nn C.parts (fun p hp => (hF.each p hp).1) k
  have hm := psum_mono C.parts (fun p hp => (hF.each p hp).1) (k + 1) (C.parts.length - (k + 1))
  rw [show k + 1 + (C.parts.length - (k + 1)) = C.parts.length by omega, psum_succ _ _ hk] at hm
  have hf : firstV C k = 4 + psum C.parts k := by
    unfold firstV
    rw [if_neg (by rintro (h | h | h) <;> first | exact absurd h (by omega) | exact h hc)]
    rfl
  refine ⟨?_, ?_, hnn, by omega, hp.2⟩
  · unfold hostV
    rw [hf, if_neg (by omega), show ((k : Int)).toNat = k from rfl, List.getElem?_eq_getElem hk]
    dsimp only
    rw [if_neg (by omega)]
  · unfold guestV
    rw [if_neg (by rintro (h | h | h) <;> first | exact absurd h (by omega) | exact h hc), if_neg (by omega), show 4 + psum C.parts k + j - 4 = psum C.parts k + j by omega, guestGo_at C.parts 0 k j (fun p hp => (hF.each p hp).1) hk h0 h1, Nat.zero_add]
theorem frames_more {C : Cfg} (hc : chk C = 0) {k : Nat} (hk : k < C.parts.length) : hostV C k C.parts[k].pages = (0, false) := by
  unfold hostV
  split
  · rfl
  · rw [show ((k : Int)).toNat = k from rfl, List.getElem?_eq_getElem hk]
    dsimp only
    rw [if_pos (Int.le_refl _)]
theorem frames_own {C : Cfg} (hc : chk C = 0) {h : Nat} (hh : (h : Int) < C.pages) : ((h : Int) < 4 ∧ (guestV C h).1 = -1 ∧ markB (psum C.parts C.parts.length) h = false) ∨ (4 ≤ (h : Int) ∧ (∃ q : Nat, (guestV C h).1 = q) ∧ markB (psum C.parts C.parts.length) h = true) ∨ (4 ≤ (h : Int) ∧ (guestV C h).1 = -2 ∧ markB (psum C.parts C.parts.length) h = false) := by
  have hF := fine_of hc
  have hg : guestV C h = if (h : Int) < 4 then (-1, -1) else guestGo C.parts 0 (h - 4) := by
    unfold guestV
    rw [if_neg (by rintro (h | h | h) <;> first | exact absurd h (by omega) | exact h hc)]
  rw [hg]
  by_cases h4 : (h : Int) < 4
  · refine .inl ⟨h4, by rw [if_pos h4], ?_⟩
    unfold markB
    rw [decide_eq_false (by omega)]
    rfl
  · rw [if_neg h4]
    by_cases h5 : (h : Int) - 4 < psum C.parts C.parts.length
    · refine .inr (.inl ⟨by omega, guestGo_in _ _ _ (by omega) h5, ?_⟩)
      unfold markB
      rw [decide_eq_true (by omega), decide_eq_true (by omega)]
      rfl
    · refine .inr (.inr ⟨by omega, by rw [guestGo_end _ _ _ (by omega) (fun p hp => (hF.each p hp).1)], ?_⟩)
      unfold markB
      rw [decide_eq_false (show ¬ (h : Int) < 4 + psum C.parts C.parts.length by omega), Bool.and_false]
end Go.Proofs.Ytdhkbephofnfdaa
