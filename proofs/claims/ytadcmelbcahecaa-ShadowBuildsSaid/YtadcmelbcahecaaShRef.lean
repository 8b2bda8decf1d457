/- shadow: what the reference tells is what Build and Tables tell; no program in sight. -/
import Derived.Test.YtadcmelbcahecaaShP
namespace Go.Proofs.Ytadcmelbcahecaa
open Go.RowKit

theorem sorted_ext : ∀ (a b : List Int), a.Pairwise (· < ·) → b.Pairwise (· < ·) → (∀ x, x ∈ a ↔ x ∈ b) → a = b
  | [], [], _, _, _ => rfl
  | [], y :: _, _, _, h => by have := (h y).2 List.mem_cons_self; cases this
  | x :: _, [], _, _, h => by have := (h x).1 List.mem_cons_self; cases this
  | x :: xs, y :: ys, ha, hb, h => by
    obtain ⟨a1, a2⟩ := List.pairwise_cons.1 ha
    obtain ⟨b1, b2⟩ := List.pairwise_cons.1 hb
    have hxy : x = y := by
      rcases List.mem_cons.1 ((h x).1 List.mem_cons_self) with e | e
      · exact e
      · rcases List.mem_cons.1 ((h y).2 List.mem_cons_self) with e2 | e2
        · exact e2.symm
        · have := b1 x e
          have := a1 y e2
          omega
    subst hxy
    rw [sorted_ext xs ys a2 b2 (fun z => ⟨fun hz => by
      rcases List.mem_cons.1 ((h z).1 (List.mem_cons_of_mem _ hz)) with e | e
      · have := a1 z hz; omega
      · exact e, fun hz => by
      rcases List.mem_cons.1 ((h z).2 (List.mem_cons_of_mem _ hz)) with e | e
      · have := b1 z hz; omega
      · exact e⟩)]

theorem compact_strict (zs : List Int) (h : zs.Pairwise (· ≤ ·)) : (Lib.compact zs).Pairwise (· < ·) ∧ ∀ x, x ∈ Lib.compact zs ↔ x ∈ zs := by
  have hmono : ∀ i j, i ≤ j → j < zs.length → zs.toArray[i]! ≤ zs.toArray[j]! := by
    intro i j hij hj
    rw [List.pairwise_iff_getElem] at h
    rcases Nat.lt_or_eq_of_le hij with hlt | rfl
    · have := h i j (by omega) hj hlt
      simpa [getElem!_pos, hj, show i < zs.length by omega] using this
    · exact Int.le_refl _
  have key : ∀ m, m ≤ zs.length → (Lib.compactUpTo zs.toArray m).Pairwise (· < ·) ∧ ∀ x, x ∈ Lib.compactUpTo zs.toArray m ↔ ∃ j, j < m ∧ zs.toArray[j]! = x := by
    intro m
    induction m with
    | zero => intro _; exact ⟨List.Pairwise.nil, fun x => ⟨fun hx => (by cases hx), fun ⟨j, hj, _⟩ => absurd hj (Nat.not_lt_zero _)⟩⟩
    | succ m ih =>
      intro hm
      obtain ⟨h1, h2⟩ := ih (by omega)
      rw [Lib.compactUpTo_succ]
      by_cases hk : Lib.keeps zs.toArray m = true
      · rw [if_pos hk]
        refine ⟨?_, fun x => ?_⟩
        · rw [List.pairwise_append]
          refine ⟨h1, List.pairwise_singleton _ _, fun x hx y hy => ?_⟩
          obtain rfl := List.mem_singleton.1 hy
          obtain ⟨j, hj, rfl⟩ := (h2 x).1 hx
          have hk2 := of_decide_eq_true hk
          have a1 := hmono j (m - 1) (by omega) (by omega)
          have a2 := hmono (m - 1) m (by omega) (by omega)
          rcases hk2 with h0 | hne
          · omega
          · omega
        · rw [List.mem_append, h2, List.mem_singleton]
          constructor
          · rintro (⟨j, hj, rfl⟩ | rfl)
            · exact ⟨j, by omega, rfl⟩
            · exact ⟨m, by omega, rfl⟩
          · rintro ⟨j, hj, rfl⟩
            rcases Nat.lt_or_eq_of_le (Nat.le_of_lt_succ hj) with hlt | rfl
            · exact .inl ⟨j, hlt, rfl⟩
            · exact .inr rfl
      · rw [if_neg hk, List.append_nil]
        refine ⟨h1, fun x => ?_⟩
        rw [h2]
        constructor
        · rintro ⟨j, hj, rfl⟩
          exact ⟨j, by omega, rfl⟩
        · rintro ⟨j, hj, rfl⟩
          rcases Nat.lt_or_eq_of_le (Nat.le_of_lt_succ hj) with hlt | rfl
          · exact ⟨j, hlt, rfl⟩
          · have hk2 : ¬ (j = 0 ∨ zs.toArray[j]! ≠ zs.toArray[j - 1]!) := fun hh => hk (decide_eq_true hh)
            have h0 : j ≠ 0 := fun e => hk2 (.inl e)
            have he : zs.toArray[j]! = zs.toArray[j - 1]! := Decidable.byContradiction fun e => hk2 (.inr e)
            exact ⟨j - 1, by omega, he.symm⟩
  obtain ⟨h1, h2⟩ := key zs.length (Nat.le_refl _)
  refine ⟨h1, fun x => ?_⟩
  show x ∈ Lib.compactUpTo zs.toArray zs.length ↔ _
  rw [h2, List.mem_iff_getElem]
  constructor
  · rintro ⟨j, hj, rfl⟩
    exact ⟨j, hj, by simp [getElem!_pos, hj]⟩
  · rintro ⟨j, hj, rfl⟩
    exact ⟨j, hj, by simp [getElem!_pos, hj]⟩

/-- A number into a rising list, once. -/
def ins : List Int → Int → List Int
  | [], x => [x]
  | y :: ys, x => if y < x then y :: ins ys x else if y = x then y :: ys else x :: y :: ys
theorem mem_ins (y x : Int) : ∀ xs : List Int, y ∈ ins xs x ↔ y = x ∨ y ∈ xs
  | [] => by simp [ins]
  | z :: zs => by
    unfold ins
    split
    · rw [List.mem_cons, mem_ins y x zs, List.mem_cons]
      constructor
      · rintro (h | h | h)
        · exact .inr (.inl h)
        · exact .inl h
        · exact .inr (.inr h)
      · rintro (h | h | h)
        · exact .inr (.inl h)
        · exact .inl h
        · exact .inr (.inr h)
    · split
      · rename_i h
        subst h
        simp only [List.mem_cons]
        constructor
        · exact fun h => .inr h
        · rintro (h | h)
          · exact .inl h
          · exact h
      · simp only [List.mem_cons]
theorem ins_strict (x : Int) : ∀ xs : List Int, xs.Pairwise (· < ·) → (ins xs x).Pairwise (· < ·)
  | [], _ => List.pairwise_singleton _ _
  | z :: zs, h => by
    obtain ⟨h1, h2⟩ := List.pairwise_cons.1 h
    unfold ins
    split
    · rename_i hz
      refine List.pairwise_cons.2 ⟨fun y hy => ?_, ins_strict x zs h2⟩
      rcases (mem_ins y x zs).1 hy with rfl | hy
      · exact hz
      · exact h1 y hy
    · split
      · exact h
      · refine List.pairwise_cons.2 ⟨fun y hy => ?_, h⟩
        rcases List.mem_cons.1 hy with rfl | hy
        · omega
        · have := h1 y hy; omega
theorem ins_len (x : Int) : ∀ xs : List Int, (ins xs x).length ≤ xs.length + 1
  | [] => Nat.le_refl _
  | z :: zs => by
    have := ins_len x zs
    unfold ins
    split
    · simp; omega
    · split <;> simp
/-- The place that the loop finds tells what is made. -/
theorem ins_at (x : Int) : ∀ (xs : List Int) (k : Nat), (∀ j (h : j < xs.length), j < k → xs[j] < x) → k ≤ xs.length → (∀ h : k < xs.length, ¬ xs[k] < x) → ins xs x = if xs[k]? = some x then xs else xs.take k ++ x :: xs.drop k
  | [], k, _, hk, _ => by
    obtain rfl : k = 0 := by simpa using hk
    simp [ins]
  | y :: ys, 0, _, _, h2 => by
    have := h2 (by simp)
    simp only [List.getElem_cons_zero] at this
    unfold ins
    rw [if_neg this]
    by_cases he : y = x
    · rw [if_pos he, if_pos (by simp [he])]
    · rw [if_neg he, if_neg (by simpa using he)]
      simp
  | y :: ys, k + 1, h1, hk, h2 => by
    have hy := h1 0 (by simp) (by omega)
    simp only [List.getElem_cons_zero] at hy
    have ih := ins_at x ys k (fun j h hj => by have := h1 (j + 1) (by simpa using h) (by omega); simpa using this) (by simpa using hk) (fun h => by have := h2 (by simpa using h); simpa using this)
    unfold ins
    rw [if_pos hy, ih]
    simp only [List.getElem?_cons_succ, List.take_succ_cons, List.drop_succ_cons]
    split <;> rfl

def putP (pages : Int) (xs : List Int) (x : Int) : List Int := if pages ≤ x then xs else ins xs x
/-- The reference's list of the tables' frames behind k entries. -/
def rtD (n : Nat) (f : Nat → Int) (root pages : Int) : Nat → List Int
  | 0 => putP pages [] root
  | k + 1 => if isDir n f root k = true then putP pages (rtD n f root pages k) (ldV n f (root * 4096 + 4 * k) 4 / 4096) else rtD n f root pages k
theorem putP_mem (pages y x : Int) (xs : List Int) : y ∈ putP pages xs x ↔ (y = x ∧ x < pages) ∨ y ∈ xs := by
  unfold putP
  split
  · constructor
    · exact .inr
    · rintro (⟨_, h⟩ | h)
      · omega
      · exact h
  · rw [mem_ins]
    constructor
    · rintro (h | h)
      · exact .inl ⟨h, by omega⟩
      · exact .inr h
    · rintro (⟨h, _⟩ | h)
      · exact .inl h
      · exact .inr h
theorem putP_strict (pages x : Int) (xs : List Int) (h : xs.Pairwise (· < ·)) : (putP pages xs x).Pairwise (· < ·) := by
  unfold putP
  split
  · exact h
  · exact ins_strict x xs h
theorem putP_len (pages x : Int) (xs : List Int) : (putP pages xs x).length ≤ xs.length + 1 := by
  unfold putP
  split
  · omega
  · exact ins_len x xs
theorem rtD_len (n : Nat) (f : Nat → Int) (root pages : Int) : ∀ k, (rtD n f root pages k).length ≤ k + 1
  | 0 => putP_len _ _ _
  | k + 1 => by
    have := rtD_len n f root pages k
    unfold rtD
    split
    · have := putP_len pages (ldV n f (root * 4096 + 4 * k) 4 / 4096) (rtD n f root pages k); omega
    · omega
theorem rtD_strict (n : Nat) (f : Nat → Int) (root pages : Int) : ∀ k, (rtD n f root pages k).Pairwise (· < ·)
  | 0 => putP_strict _ _ _ List.Pairwise.nil
  | k + 1 => by
    unfold rtD
    split
    · exact putP_strict _ _ _ (rtD_strict n f root pages k)
    · exact rtD_strict n f root pages k
theorem rtD_mem (n : Nat) (f : Nat → Int) (root pages y : Int) : ∀ k, y ∈ rtD n f root pages k ↔ y < pages ∧ (y = root ∨ y ∈ dirsL n f root k)
  | 0 => by
    unfold rtD
    rw [putP_mem]
    constructor
    · rintro (⟨rfl, h⟩ | h)
      · exact ⟨h, .inl rfl⟩
      · cases h
    · rintro ⟨h, rfl | h2⟩
      · exact .inl ⟨rfl, h⟩
      · cases h2
  | k + 1 => by
    unfold rtD dirsL
    by_cases hd : isDir n f root k = true
    · rw [if_pos hd, if_pos hd, putP_mem, rtD_mem n f root pages y k, List.mem_append, List.mem_singleton]
      constructor
      · rintro (⟨rfl, h⟩ | ⟨h1, h2 | h2⟩)
        · exact ⟨h, .inr (.inr rfl)⟩
        · exact ⟨h1, .inl h2⟩
        · exact ⟨h1, .inr (.inl h2)⟩
      · rintro ⟨h1, h2 | h2 | h2⟩
        · exact .inr ⟨h1, .inl h2⟩
        · exact .inr ⟨h1, .inr h2⟩
        · exact .inl ⟨h2, h2 ▸ h1⟩
    · rw [if_neg hd, if_neg hd, List.append_nil, rtD_mem n f root pages y k]

def rtL (n : Nat) (f : Nat → Int) (ptbr pages : Int) : List Int := if onB ptbr = false then [] else rtD n f (ptbr % 1048576) pages 1024
theorem rtL_eq (n : Nat) (f : Nat → Int) (ptbr pages : Int) : rtL n f ptbr pages = tabL n f ptbr pages := by
  unfold rtL tabL
  split
  · rfl
  · have hs := List.pairwise_mergeSort (le := fun x y : Int => decide (x ≤ y)) (fun a b c h1 h2 => by simp at *; omega) (fun a b => by simp; omega) (ptbr % 1048576 :: dirsL n f (ptbr % 1048576) 1024)
    obtain ⟨c1, c2⟩ := compact_strict _ (hs.imp (fun h => by simpa using h))
    refine sorted_ext _ _ (rtD_strict _ _ _ _ _) (c1.sublist List.filter_sublist) fun y => ?_
    rw [rtD_mem, List.mem_filter, c2, List.mem_mergeSort, List.mem_cons]
    simp only [Bool.not_eq_true', decide_eq_false_iff_not]
    constructor
    · rintro ⟨h1, h2⟩
      exact ⟨h2, by omega⟩
    · rintro ⟨h1, h2⟩
      exact ⟨by omega, h1⟩
theorem dirsL_pos {n : Nat} {f : Nat → Int} (hf : ∀ i, i < n → 0 ≤ f i ∧ f i < 256) (root y : Int) : ∀ k, y ∈ dirsL n f root k → 0 ≤ y
  | 0, h => by cases h
  | k + 1, h => by
    rcases List.mem_append.1 h with h | h
    · exact dirsL_pos hf root y k h
    · split at h
      · have := List.mem_singleton.1 h
        have hr := ldV_rng hf (root * 4096 + 4 * k) 4
        omega
      · cases h
theorem tabL_max {n : Nat} {f : Nat → Int} (hf : ∀ i, i < n → 0 ≤ f i ∧ f i < 256) (ptbr pages : Int) : tabL n f ptbr (max 0 pages) = tabL n f ptbr pages := by
  rw [← rtL_eq, ← rtL_eq]
  unfold rtL
  split
  · rfl
  · refine sorted_ext _ _ (rtD_strict _ _ _ _ _) (rtD_strict _ _ _ _ _) fun y => ?_
    rw [rtD_mem, rtD_mem]
    constructor
    · rintro ⟨h1, h2⟩
      refine ⟨?_, h2⟩
      rcases h2 with h2 | h2
      · omega
      · have := dirsL_pos hf _ y _ h2; omega
    · rintro ⟨h1, h2⟩
      exact ⟨by omega, h2⟩

/-- The reference's entries behind k pages. -/
def rsL (n : Nat) (f : Nat → Int) (ptbr pages first : Int) (T : List Int) (fr : Int) : Nat → List EntD
  | 0 => []
  | k + 1 => rsL n f ptbr pages first T fr k ++ (if (0 ≤ fr + k ∧ fr + k ≤ 1048575) ∧ ((mvE n f ptbr (fr + k)).2 = true ∧ (mvE n f ptbr (fr + k)).1 / 4096 < pages) then [shEnt T first (fr + k, (mvE n f ptbr (fr + k)).1)] else [])
set_option maxRecDepth 100000 in
theorem rsL_eq (n : Nat) (f : Nat → Int) (ptbr pages first : Int) (T : List Int) (fr : Int) : ∀ k : Nat, k ≤ 4096 → rsL n f ptbr pages first T fr k = (mpL (mvE n f ptbr) pages (shLo fr) (shC fr k)).map (shEnt T first)
  | 0, _ => by
    have : shC fr (0 : Nat) = 0 := by
      unfold shC shHi shN shLo
      split <;> omega
    rw [this]
    rfl
  | k + 1, hk => by
    have ih := rsL_eq n f ptbr pages first T fr k (by omega)
    unfold rsL
    by_cases hv : 0 ≤ fr + k ∧ fr + k ≤ 1048575
    · have h1 : shC fr ((k + 1 : Nat) : Int) = shC fr k + 1 := by
        unfold shC shHi shN shLo
        split <;> omega
      have h2 : shLo fr + (shC fr k : Int) = fr + k := by
        unfold shC shHi shN shLo
        split <;> omega
      rw [h1, ih]
      show _ = (mpL _ pages (shLo fr) (shC fr k) ++ _).map _
      rw [h2, List.map_append]
      by_cases hc : (mvE n f ptbr (fr + k)).2 = true ∧ (mvE n f ptbr (fr + k)).1 / 4096 < pages
      · rw [if_pos ⟨hv, hc⟩, if_pos hc]
        rfl
      · rw [if_neg (fun h => hc h.2), if_neg hc]
        rfl
    · have h1 : shC fr ((k + 1 : Nat) : Int) = shC fr k := by
        unfold shC shHi shN shLo
        split <;> omega
      rw [h1, ih, if_neg (fun h => hv h.1), List.append_nil]
set_option maxRecDepth 100000 in
theorem rsL_stop (n : Nat) (f : Nat → Int) (ptbr pages first : Int) (T : List Int) (fr : Int) (k : Nat) (h : 1048575 < fr + k) : ∀ d, rsL n f ptbr pages first T fr (k + d) = rsL n f ptbr pages first T fr k
  | 0 => rfl
  | d + 1 => by
    show rsL n f ptbr pages first T fr (k + d) ++ _ = _
    rw [rsL_stop n f ptbr pages first T fr k h d, if_neg (by have : ((k.add d : Nat) : Int) = (k : Int) + (d : Int) := Int.natCast_add k d; omega), List.append_nil]
theorem rsL_len (n : Nat) (f : Nat → Int) (ptbr pages first : Int) (T : List Int) (fr : Int) : ∀ k, (rsL n f ptbr pages first T fr k).length ≤ k
  | 0 => Nat.le_refl _
  | k + 1 => by
    have := rsL_len n f ptbr pages first T fr k
    unfold rsL
    rw [List.length_append]
    split <;> simp <;> omega
set_option maxRecDepth 100000 in
theorem rsL_end (n : Nat) (f : Nat → Int) (ptbr pages first fr cnt : Int) (T : List Int) (hT : tabL n f ptbr (max 0 pages) = T) : rsL n f ptbr (max 0 pages) first T fr (min (max 0 cnt) 4096).toNat = entsL n f ptbr pages first fr cnt := by
  rw [rsL_eq _ _ _ _ _ _ _ _ (by omega)]
  unfold entsL
  rw [hT]
  have : shC fr ((min (max 0 cnt) 4096).toNat : Int) = shC fr cnt := by
    unfold shC shHi shN shLo
    split <;> omega
  rw [this]

theorem ents_fit {n : Nat} {f : Nat → Int} (hf : ∀ i, i < n → 0 ≤ f i ∧ f i < 256) (ptbr pages first fr cnt : Int) (hp : pages ≤ 300) (h0 : 0 ≤ first) (h1 : first ≤ 1000) (L : List EntD) (e0 : entsL n f ptbr pages first fr cnt = L) : fitsB first pages L = true := by
  subst e0
  unfold fitsB
  rw [List.all_eq_true]
  intro x hx
  unfold entsL at hx
  obtain ⟨y, hy, rfl⟩ := List.mem_map.1 hx
  obtain ⟨a1, a2, a3, a4⟩ := mp_ok hf (shLo_pos fr).1 hy
  have := shEnt_fr (tabL n f ptbr (max 0 pages)) first y h0 h1 a3 (by omega)
  exact decide_eq_true (by rw [this]; omega)
end Go.Proofs.Ytadcmelbcahecaa
