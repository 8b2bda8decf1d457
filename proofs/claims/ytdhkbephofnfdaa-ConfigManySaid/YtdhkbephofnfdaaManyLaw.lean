/- ConfigMany: what Check says of the configuration that it makes (plain). -/
import Derived.Test.YtdhkbephofnfdaaWrong0
namespace Go.Proofs.Ytdhkbephofnfdaa
open Go.RowKit

def hexs : ByteArray := { data := #[48, 49, 50, 51, 52, 53, 54, 55, 56, 57, 97, 98, 99, 100, 101, 102] }
def pName (k : Nat) : ByteArray := { data := #[112] } ++ hexs.extract k (k + 1)
def pList (each : Int) (k : Nat) : List PartD := (List.range k).map (fun i => ⟨pName i, each, 0⟩)
def cList (k : Nat) : List ChanD := (List.range k).map (fun _ => ⟨0, 0, 1, 1, 1⟩)
def wList (k : Nat) : List WinD := (List.range k).map (fun i : Nat => ⟨10 * (i : Int), 10, 0⟩)

def manyC (pages each : Int) (k j q : Nat) : Cfg := ⟨pages, 1000, 0, pList each k, cList j, wList q⟩

theorem pList_length (each : Int) (k : Nat) : (pList each k).length = k := by simp [pList]
theorem cList_length (k : Nat) : (cList k).length = k := by simp [cList]
theorem wList_length (k : Nat) : (wList k).length = k := by simp [wList]

theorem many_parts (pages each : Int) (k j q : Nat) : partsOk (manyC pages each k j q) = wi k 1 8 := by
  unfold partsOk
  show (wi ((pList each k).length : Int) 1 8 && (List.range (pList each k).length).all (partOk (pList each k))) = _
  rw [pList_length]
  by_cases h : wi (k : Int) 1 8 = true
  · have hb := wi_true h
    rw [h, Bool.true_and]
    have h2 : k = 1 ∨ k = 2 ∨ k = 3 ∨ k = 4 ∨ k = 5 ∨ k = 6 ∨ k = 7 ∨ k = 8 := by omega
    rcases h2 with rfl | rfl | rfl | rfl | rfl | rfl | rfl | rfl <;> (show ((List.range _).all _) = true; kernel_rfl)
  · rw [Bool.not_eq_true] at h
    rw [h, Bool.false_and]

theorem many_mem (pages each : Int) (k j q : Nat) (he : 1 ≤ each ∧ each ≤ 64) : memOk (manyC pages each k j q) = decide ((k : Int) * each ≤ pages - 4) := by
  unfold memOk
  show ((pList each k).all (fun p => wi p.pages 1 64) && decide (((pList each k).map (·.pages)).sum ≤ pages - 4)) = _
  have h1 : (pList each k).all (fun p => wi p.pages 1 64) = true := by
    unfold pList
    rw [List.all_map, List.all_eq_true]
    intro x _
    exact decide_eq_true he
  have h2 : ∀ k : Nat, ((pList each k).map (·.pages)).sum = (k : Int) * each := by
    intro k
    induction k with
    | zero => simp [pList]
    | succ k ih =>
      have : pList each (k + 1) = pList each k ++ [⟨pName k, each, 0⟩] := by unfold pList; rw [List.range_succ, List.map_append]; rfl
      rw [this, List.map_append, List.sum_append, ih]
      simp
      rw [Int.add_mul]
      omega
  rw [h1, h2, Bool.true_and]

theorem many_chans (pages each : Int) (k j q : Nat) : chansOk (manyC pages each k j q) = (decide (j ≤ 16) && (decide (j = 0) || decide (2 ≤ k))) := by
  unfold chansOk
  show (decide ((cList j).length ≤ 16) && (cList j).all (chOk ((pList each k).length : Int))) = _
  rw [cList_length, pList_length]
  have h0 : chOk (k : Int) ⟨0, 0, 1, 1, 1⟩ = decide (2 ≤ k) := by
    rw [Bool.eq_iff_iff]
    simp [chOk, wi_iff]
    omega
  have h1 : ∀ j : Nat, (cList j).all (chOk (k : Int)) = (decide (j = 0) || decide (2 ≤ k)) := by
    intro j
    cases j with
    | zero => simp [cList]
    | succ j =>
      unfold cList
      rw [List.all_map, Bool.eq_iff_iff]
      simp only [List.all_eq_true, Function.comp, h0]
      constructor
      · intro h
        simpa using h 0 (by simp)
      · intro h x _
        simpa using h
  rw [h1]

theorem many_go (pages each : Int) (k j q : Nat) (hk : 1 ≤ k) : ∀ (m i : Nat), i + m ≤ 40 → winsGo (manyC pages each k j q) ((List.range' i m).map (fun i : Nat => (⟨10 * (i : Int), 10, 0⟩ : WinD))) (10 * (i : Int)) = true
  | 0, i, _ => by simp [winsGo]
  | m + 1, i, h => by
    rw [List.range'_succ, List.map_cons, winsGo]
    have h2 := many_go pages each k j q hk m (i + 1) (by omega)
    rw [show (10 * ((i + 1 : Nat) : Int)) = 10 * (i : Int) + 10 by omega] at h2
    have h3 : winOk (manyC pages each k j q) (10 * (i : Int)) ⟨10 * (i : Int), 10, 0⟩ = true := by
      simp [winOk, wi_iff, manyC, pList_length]
      exact ⟨by omega, decide_eq_true (by omega), by omega⟩
    rw [h3, Bool.true_and]
    exact h2

theorem many_wins (pages each : Int) (k j q : Nat) (hk : 1 ≤ k) (hq : q ≤ 40) : winsOk (manyC pages each k j q) = wi q 1 32 := by
  have h := many_go pages each k j q hk q 0 (by omega)
  have h2 : winsGo (manyC pages each k j q) (manyC pages each k j q).wins 0 = true := by
    show winsGo _ (wList q) 0 = true
    unfold wList
    rw [List.range_eq_range']
    simpa using h
  unfold winsOk winBase
  rw [h2]
  show ((wi 1000 1 100000 && (wi 0 0 1000 && wi ((wList q).length : Int) 1 32)) && true) = _
  rw [wList_length]
  simp [wi]

theorem many_chk (pages each : Int) (k j q : Nat) (he : 1 ≤ each ∧ each ≤ 64) (hq : q ≤ 40) : chk (manyC pages each k j q) =
    if pages < 5 ∨ 256 < pages then 11 else if k < 1 ∨ 8 < k then 10 else if pages - 4 < (k : Int) * each then 11 else if 16 < j ∨ (0 < j ∧ k < 2) then 13 else if q < 1 ∨ 32 < q then 12 else 0 := by
  unfold chk
  rw [many_parts, many_mem _ _ _ _ _ he, many_chans]
  show (if wi pages 5 256 = false then (11 : Int) else _) = _
  by_cases hk : 1 ≤ k
  · rw [many_wins _ _ _ _ _ hk hq]
    simp only [wi, decide_eq_false_iff_not, Bool.and_eq_false_iff, Bool.or_eq_false_iff]
    repeat' split
    all_goals first | rfl | (exfalso; omega)
  · simp only [wi, decide_eq_false_iff_not, Bool.and_eq_false_iff, Bool.or_eq_false_iff]
    repeat' split
    all_goals first | rfl | (exfalso; omega)
end Go.Proofs.Ytdhkbephofnfdaa
