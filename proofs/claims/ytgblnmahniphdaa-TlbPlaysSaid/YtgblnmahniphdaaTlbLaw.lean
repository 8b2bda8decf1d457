/- Rows of keys (plain). -/
import Derived.Test.YtgblnmahniphdaaTlb6
namespace Go.Proofs.Ytgblnmahniphdaa
open Go.RowKit

/-- Keys that go up from a number. -/
def segR (tag c : Int) (a m : Nat) : List (KeyD × Int) := (List.range' a m).map (fun j : Nat => ((tag, (j : Int)), c * j))
theorem segR_len (tag c : Int) (a m : Nat) : (segR tag c a m).length = m := by simp [segR]
theorem segR_succ (tag c : Int) (a m : Nat) : segR tag c a (m + 1) = segR tag c a m ++ [((tag, ((a + m : Nat) : Int)), c * ((a + m : Nat) : Int))] := by
  unfold segR
  rw [List.range'_concat, List.map_append]
  simp
theorem segR_erase (tag c : Int) (a m : Nat) : (segR tag c a (m + 1)).eraseIdx 0 = segR tag c (a + 1) m := by
  unfold segR
  rw [List.range'_succ]
  rfl
theorem ks_seg (tag c : Int) (a m : Nat) : ks (segR tag c a m) = (List.range' a m).map (fun j : Nat => (tag, (j : Int))) := by
  unfold ks segR
  rw [List.map_map]
  rfl
theorem seg_nodup (tag c : Int) (a m : Nat) : (ks (segR tag c a m)).Nodup := by
  rw [ks_seg]
  unfold List.Nodup
  rw [List.pairwise_map]
  refine (List.nodup_range' (step := 1) (by decide)).imp ?_
  intro x y hxy h
  apply hxy
  have := congrArg Prod.snd h
  simp at this
  omega
theorem look_seg {tag c : Int} {a m : Nat} (t : Int) (j : Nat) : look (segR tag c a m) (t, j) = if t = tag ∧ a ≤ j ∧ j < a + m then some (c * j) else none := by
  by_cases h : t = tag ∧ a ≤ j ∧ j < a + m
  · rw [if_pos h, look_mem (seg_nodup _ _ _ _)]
    unfold segR
    rw [List.mem_map]
    exact ⟨j, by rw [List.mem_range']; exact ⟨j - a, by omega, by omega⟩, by rw [h.1]⟩
  · rw [if_neg h, look_none, ks_seg, List.mem_map]
    rintro ⟨i, hi, he⟩
    apply h
    rw [List.mem_range'] at hi
    obtain ⟨z, hz, rfl⟩ := hi
    have h1 := congrArg Prod.fst he
    have h2 := congrArg Prod.snd he
    simp at h1 h2
    exact ⟨h1.symm, by omega, by omega⟩
/-- One more where there is room. -/
theorem put_room {tag c : Int} {m : Nat} {n : Int} (h : (m : Int) < n) : putR n (segR tag c 0 m) (tag, (m : Int)) (c * m) = segR tag c 0 (m + 1) := by
  have hn : look (segR tag c 0 m) (tag, (m : Int)) = none := by rw [look_seg, if_neg (by omega)]
  unfold putR
  rw [hn, if_neg (by decide), segR_len, if_neg (by omega), segR_succ, Nat.zero_add]
theorem look_evict {n : Nat} (k : Int) (i : Nat) (hi : i < n) : look (evR (segR 0 1 0 n) k) (0, (i : Int)) = if (i : Int) = k then none else some (i : Int) := by
  have h0 : look (segR 0 1 0 n) (0, (i : Int)) = some (i : Int) := by rw [look_seg, if_pos (by omega)]; simp
  unfold evR
  rw [segR_len]
  by_cases hk : 0 ≤ k ∧ k < n
  · obtain ⟨j, rfl⟩ := Int.eq_ofNat_of_zero_le hk.1
    have hj : j < n := by omega
    rw [if_pos hk, show ((j : Int)).toNat = j from rfl, look_erase (seg_nodup _ _ _ _) (by rw [segR_len]; exact hj), h0]
    have he : (segR 0 1 0 n)[j]'(by rw [segR_len]; exact hj) = ((0, (j : Int)), (1 : Int) * j) := by unfold segR; simp
    rw [he]
    by_cases e : i = j
    · subst e; simp
    · rw [if_neg (fun h => e (by have := congrArg Prod.snd h; simp at this; omega)), if_neg (by omega)]
  · rw [if_neg hk, h0, if_neg (by omega)]
theorem evict_len (n : Nat) (k : Int) : ((evR (segR 0 1 0 n) k).length : Int) = if 0 ≤ k ∧ k < n then (n : Int) - 1 else n := by
  unfold evR
  rw [segR_len]
  by_cases hk : 0 ≤ k ∧ k < n
  · rw [if_pos hk, if_pos hk, List.length_eraseIdx, segR_len, if_pos (by omega)]
    omega
  · rw [if_neg hk, if_neg hk, segR_len]
/-- What is kept of the first m, of n places. -/
def ageR (n m : Nat) : List (KeyD × Int) := segR 1 10 (m - n) (min m n)
theorem age_put {n m : Nat} (hn : 1 ≤ n) : putR n (ageR n m) (1, (m : Int)) (10 * m) = ageR n (m + 1) := by
  have hl : look (ageR n m) (1, (m : Int)) = none := by unfold ageR; rw [look_seg, if_neg (by omega)]
  unfold putR
  rw [hl, if_neg (by decide)]
  unfold ageR
  rw [segR_len]
  by_cases h : m < n
  · rw [if_neg (by omega), show min (m + 1) n = m + 1 by omega, show min m n = m by omega, show m - n = 0 by omega, show m + 1 - n = 0 by omega, segR_succ, Nat.zero_add]
  · obtain ⟨n1, rfl⟩ : ∃ n1, n = n1 + 1 := ⟨n - 1, by omega⟩
    rw [if_pos (by omega), show min (m + 1) (n1 + 1) = n1 + 1 by omega, show min m (n1 + 1) = n1 + 1 by omega, segR_erase, show m + 1 - (n1 + 1) = m - n1 by omega, show m - (n1 + 1) + 1 = m - n1 by omega, segR_succ, show m - n1 + n1 = m by omega]
theorem set_same {r : List (KeyD × Int)} (hk : (ks r).Nodup) {k : KeyD} {x : Int} (h : look r k = some x) : setR r k x = r := by
  unfold setR
  conv => rhs; rw [← List.map_id r]
  apply List.map_congr_left
  intro p hp
  by_cases e : p.1 = k
  · rw [if_pos e]
    have h2 : look r k = some p.2 := (look_mem hk).2 (by rw [← e]; exact hp)
    rw [h] at h2
    injection h2 with h2
    rw [h2]
    rfl
  · rw [if_neg e]; rfl
theorem age_again {n m : Nat} (hn : 2 ≤ n) (hm : 1 ≤ m) : putR n (ageR n (m + 1)) (1, (m : Int) - 1) (10 * m - 10) = ageR n (m + 1) := by
  obtain ⟨m1, rfl⟩ : ∃ m1, m = m1 + 1 := ⟨m - 1, by omega⟩
  rw [show ((m1 + 1 : Nat) : Int) - 1 = (m1 : Int) by omega, show 10 * ((m1 + 1 : Nat) : Int) - 10 = 10 * (m1 : Int) by omega]
  have hl : look (ageR n (m1 + 1 + 1)) (1, (m1 : Int)) = some (10 * (m1 : Int)) := by unfold ageR; rw [look_seg, if_pos (by omega)]
  unfold putR
  rw [hl, if_pos (show (some (10 * (m1 : Int))).isSome = true from rfl)]
  exact set_same (by unfold ageR; exact seg_nodup _ _ _ _) hl
/-- One place, and the elder one put anew. -/
def oneR (m : Nat) : List (KeyD × Int) := if m = 0 then [] else if m = 1 then segR 1 10 0 1 else segR 1 10 (m - 2) 1
theorem one_first (m : Nat) : putR 1 (oneR (m + 1)) (1, ((m + 1 : Nat) : Int)) (10 * ((m + 1 : Nat) : Int)) = segR 1 10 (m + 1) 1 := by
  have h : ∃ a, a ≤ m ∧ oneR (m + 1) = segR 1 10 a 1 := by
    unfold oneR
    rw [if_neg (by omega)]
    by_cases h1 : m + 1 = 1
    · rw [if_pos h1]; exact ⟨0, by omega, rfl⟩
    · rw [if_neg h1]; exact ⟨m + 1 - 2, by omega, rfl⟩
  obtain ⟨a, ha, he⟩ := h
  rw [he]
  have hl : look (segR 1 10 a 1) (1, ((m + 1 : Nat) : Int)) = none := by rw [look_seg, if_neg (by omega)]
  unfold putR
  rw [hl, if_neg (by decide), segR_len, if_pos (by decide), segR_erase]
  rfl
theorem one_second (m : Nat) : putR 1 (segR 1 10 (m + 1) 1) (1, (m : Int)) (10 * (m : Int)) = oneR (m + 2) := by
  have hl : look (segR 1 10 (m + 1) 1) (1, (m : Int)) = none := by rw [look_seg, if_neg (by omega)]
  unfold putR
  rw [hl, if_neg (by decide), segR_len, if_pos (by decide), segR_erase]
  unfold oneR
  rw [if_neg (by omega), if_neg (by omega)]
  rfl
/-- What TlbAge makes. -/
def ageV (n m : Nat) (again : Bool) : List (KeyD × Int) := if again = true ∧ n = 1 then oneR m else ageR n m
def thereV (n m : Nat) (again : Bool) (i : Nat) : Bool := if again = true ∧ n = 1 then (decide ((i : Int) = m - 2) && decide (1 < m)) || decide (m = 1) else decide ((m : Int) - n ≤ i)
theorem age_look {n m i : Nat} (again : Bool) (hn : 1 ≤ n) (hi : i < m) : look (ageV n m again) (1, (i : Int)) = if thereV n m again i = true then some (10 * (i : Int)) else none := by
  unfold ageV thereV
  by_cases h : again = true ∧ n = 1
  · rw [if_pos h, if_pos h]
    unfold oneR
    rw [if_neg (by omega)]
    by_cases h1 : m = 1
    · rw [if_pos h1, look_seg, if_pos (by omega), if_pos (by simp [h1])]
    · rw [if_neg h1, look_seg]
      by_cases h2 : i = m - 2
      · rw [if_pos (by omega), if_pos (by simp; omega)]
      · rw [if_neg (by omega), if_neg (by simp; omega)]
  · rw [if_neg h, if_neg h]
    unfold ageR
    rw [look_seg]
    by_cases h2 : (m : Int) - n ≤ i
    · rw [if_pos (by omega), if_pos (decide_eq_true h2)]
    · rw [if_neg (by omega), if_neg (by simp; omega)]
end Go.Proofs.Ytgblnmahniphdaa
