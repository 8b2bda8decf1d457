/- shadow: plain laws of the entries. -/
import Derived.Test.YtadcmelbcahecaaShAlive
namespace Go.Proofs.Ytadcmelbcahecaa
open Go.RowKit

theorem mpL_add (g : Int → Int × Bool) (pages lo : Int) (k1 : Nat) : ∀ k2, mpL g pages lo (k1 + k2) = mpL g pages lo k1 ++ mpL g pages (lo + k1) k2
  | 0 => by simp [mpL]
  | k2 + 1 => by
    have h : lo + ((k1.add k2 : Nat) : Int) = lo + (k1 : Int) + (k2 : Int) := by show lo + ((k1 + k2 : Nat) : Int) = _; omega
    show mpL g pages lo (k1 + k2) ++ _ = _ ++ (mpL g pages (lo + k1) k2 ++ _)
    rw [mpL_add g pages lo k1 k2, List.append_assoc, h]
theorem mpL_mem {g : Int → Int × Bool} {pages lo : Int} {x : Int × Int} : ∀ {k : Nat}, x ∈ mpL g pages lo k → ∃ j : Nat, j < k ∧ x.1 = lo + j ∧ g (lo + j) = (x.2, true) ∧ x.2 / 4096 < pages
  | 0, h => by cases h
  | k + 1, h => by
    rcases List.mem_append.1 h with h | h
    · obtain ⟨j, h1, h2⟩ := mpL_mem h
      exact ⟨j, by omega, h2⟩
    · split at h
      · rename_i hc
        have hx := List.mem_singleton.1 h
        subst hx
        exact ⟨k, by omega, rfl, Prod.ext rfl hc.1, hc.2⟩
      · cases h
theorem mvE_pos {n : Nat} {f : Nat → Int} (hf : ∀ i, i < n → 0 ≤ f i ∧ f i < 256) (ptbr v : Int) (hv : 0 ≤ v) : 0 ≤ (mvE n f ptbr v).1 := by
  unfold mvE
  split
  · exact (mapV_rng hf ptbr v).1
  · show 0 ≤ v * 4096 + 31
    omega
theorem shLo_pos (fr : Int) : 0 ≤ shLo fr ∧ shLo fr ≤ 1048576 := by unfold shLo; split <;> omega

/-- An element of the walk: its page is one, its entry no negative number, its frame below the pages. -/
theorem mp_ok {n : Nat} {f : Nat → Int} (hf : ∀ i, i < n → 0 ≤ f i ∧ f i < 256) {ptbr pages lo : Int} (hlo : 0 ≤ lo) {k : Nat} {x : Int × Int} (h : x ∈ mpL (mvE n f ptbr) pages lo k) : 0 ≤ x.1 ∧ 0 ≤ x.2 ∧ 0 ≤ x.2 / 4096 ∧ x.2 / 4096 < pages := by
  obtain ⟨j, h1, h2, h3, h4⟩ := mpL_mem h
  have := mvE_pos hf ptbr (lo + j) (by omega)
  rw [h3] at this
  dsimp only at this
  omega

theorem shEnt_fr (T : List Int) (first : Int) (x : Int × Int) (h0 : 0 ≤ first) (h1 : first ≤ 1000) (h2 : 0 ≤ x.2 / 4096) (h3 : x.2 / 4096 < 1000) : (shEnt T first x).fr = first + x.2 / 4096 := by
  show wrap64 _ = _
  rw [IntWalk.wrap64_in _ (by omega)]

/-- The same guest elsewhere: each entry as far away. -/
theorem ents_move {n : Nat} {f : Nat → Int} (hf : ∀ i, i < n → 0 ≤ f i ∧ f i < 256) (ptbr pages first fr cnt : Int) (hp : pages ≤ 16) (h0 : 0 ≤ first) (h1 : first ≤ 1000) (L0 L1 : List EntD) (e0 : entsL n f ptbr pages 0 fr cnt = L0) (e1 : entsL n f ptbr pages first fr cnt = L1) :
    L0.length = L1.length ∧ ∀ i (h : i < L0.length) (h' : i < L1.length), ∃ q, L0[i].fr = q ∧ 0 ≤ q ∧ q < 16 ∧ L1[i].fr = first + q ∧ L1[i].v = L0[i].v ∧ L1[i].bi = L0[i].bi := by
  subst e0 e1
  refine ⟨by simp [entsL], fun i h h' => ?_⟩
  have hm : i < (mpL (mvE n f ptbr) (max 0 pages) (shLo fr) (shC fr cnt)).length := by simpa [entsL] using h
  obtain ⟨x, hx⟩ : ∃ x, (mpL (mvE n f ptbr) (max 0 pages) (shLo fr) (shC fr cnt))[i] = x := ⟨_, rfl⟩
  have hmem : x ∈ mpL (mvE n f ptbr) (max 0 pages) (shLo fr) (shC fr cnt) := by rw [← hx]; exact List.getElem_mem hm
  obtain ⟨a1, a2, a3, a4⟩ := mp_ok hf (shLo_pos fr).1 hmem
  have g0 : (entsL n f ptbr pages 0 fr cnt)[i] = shEnt (tabL n f ptbr (max 0 pages)) 0 x := by simp only [entsL, List.getElem_map, hx]
  have g1 : (entsL n f ptbr pages first fr cnt)[i] = shEnt (tabL n f ptbr (max 0 pages)) first x := by simp only [entsL, List.getElem_map, hx]
  rw [g0, g1]
  refine ⟨x.2 / 4096, ?_, a3, by omega, shEnt_fr _ _ _ h0 h1 a3 (by omega), rfl, rfl⟩
  rw [shEnt_fr _ _ _ (by omega) (by omega) a3 (by omega)]
  omega
theorem ents_len (n : Nat) (f : Nat → Int) (ptbr pages first fr cnt : Int) : (entsL n f ptbr pages first fr cnt).length ≤ 4096 := by
  unfold entsL
  rw [List.length_map]
  refine Nat.le_trans (mpL_le _ _ _ _) ?_
  unfold shC shHi shN
  have := shLo_pos fr
  split <;> omega
end Go.Proofs.Ytadcmelbcahecaa
