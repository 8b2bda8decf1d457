/- What the reference's Next tells is what the plan's tells (plain). -/
import Derived.Test.YtmbdimcjpdofoaaPlanDef
namespace Go.Proofs.Ytmbdimcjpdofoaa
open Go.RowKit

/-- The first pass: the first window of the partition in which a step is still to come. -/
def r0V (C : Cfg) (part u : Int) : List WinD → Option Int
  | [] => none
  | x :: r => if x.part = part ∧ max u (x.start + C.switch) < x.start + x.len then some (max u (x.start + C.switch)) else r0V C part u r
/-- The second pass: the partition's first window. -/
def r1V (C : Cfg) (part : Int) : List WinD → Option Int
  | [] => none
  | x :: r => if x.part = part then some (x.start + C.switch + C.major) else r1V C part r
def rnV (C : Cfg) (part u : Int) (l : List WinD) : Option Int := match r0V C part u l with
  | some v => some v
  | none => r1V C part l

theorem winsGo_cons {C : Cfg} {x : WinD} {r : List WinD} {e : Int} (h : winsGo C (x :: r) e = true) : (e ≤ x.start ∧ C.switch < x.len ∧ x.start + x.len ≤ C.major ∧ 0 ≤ x.part ∧ x.part < C.parts.length) ∧ winsGo C r (x.start + x.len) = true := by
  unfold winsGo at h
  rw [Bool.and_eq_true] at h
  refine ⟨?_, h.2⟩
  have h1 := h.1
  unfold winOk at h1
  simp only [wi, Bool.and_eq_true, decide_eq_true_eq] at h1
  omega

theorem keepBest {C : Cfg} {part u v : Int} : ∀ (l : List WinD), (∀ x ∈ l, v ≤ cand C u x) → l.foldl (bestStep C part u) (some v) = some v
  | [], _ => rfl
  | x :: r, h => by
    rw [List.foldl_cons]
    have h1 : bestStep C part u (some v) x = some v := by
      unfold bestStep
      have := h x (by simp)
      by_cases hp : x.part = part
      · rw [if_pos hp]; dsimp only; rw [if_neg (by omega)]
      · rw [if_neg hp]
    rw [h1]
    exact keepBest r (fun y hy => h y (by simp [hy]))

theorem laterBest {C : Cfg} {part u v : Int} (hs : 0 ≤ C.switch) (hu : u < C.major) (hv : C.major ≤ v) : ∀ (l : List WinD) (e : Int), winsGo C l e = true → 0 ≤ e → v ≤ e + C.switch + C.major → l.foldl (bestStep C part u) (some v) = some ((r0V C part u l).getD v)
  | [], _, _, _, _ => rfl
  | x :: r, e, h, h0, he => by
    obtain ⟨⟨g1, g2, g3, g4, g5⟩, hr⟩ := winsGo_cons h
    rw [List.foldl_cons]
    by_cases hp : x.part = part
    · by_cases hn : max u (x.start + C.switch) < x.start + x.len
      · have h1 : bestStep C part u (some v) x = some (max u (x.start + C.switch)) := by
          have hc : cand C u x = max u (x.start + C.switch) := by unfold cand; rw [if_neg (by omega)]
          unfold bestStep
          rw [if_pos hp]
          dsimp only
          rw [hc, if_pos (by omega)]
        rw [h1, show r0V C part u (x :: r) = some (max u (x.start + C.switch)) by unfold r0V; rw [if_pos ⟨hp, hn⟩]]
        refine keepBest r (fun y hy => ?_)
        have := winsGo_each r (x.start + x.len) hr (by omega) hs y hy
        unfold cand
        split <;> omega
      · have h1 : bestStep C part u (some v) x = some v := by
          have hc : cand C u x = x.start + C.switch + C.major := by unfold cand; rw [if_pos (by omega)]
          unfold bestStep
          rw [if_pos hp]
          dsimp only
          rw [hc, if_neg (by omega)]
        rw [h1, show r0V C part u (x :: r) = r0V C part u r by conv => lhs; unfold r0V; rw [if_neg (fun c => hn c.2)]]
        exact laterBest hs hu hv r _ hr (by omega) (by omega)
    · have h1 : bestStep C part u (some v) x = some v := by unfold bestStep; rw [if_neg hp]
      rw [h1, show r0V C part u (x :: r) = r0V C part u r by conv => lhs; unfold r0V; rw [if_neg (fun c => hp c.1)]]
      exact laterBest hs hu hv r _ hr (by omega) (by omega)

theorem firstBest {C : Cfg} {part u : Int} (hs : 0 ≤ C.switch) (hu : u < C.major) : ∀ (l : List WinD) (e : Int), winsGo C l e = true → 0 ≤ e → l.foldl (bestStep C part u) none = rnV C part u l
  | [], _, _, _ => rfl
  | x :: r, e, h, h0 => by
    obtain ⟨⟨g1, g2, g3, g4, g5⟩, hr⟩ := winsGo_cons h
    rw [List.foldl_cons]
    by_cases hp : x.part = part
    · by_cases hn : max u (x.start + C.switch) < x.start + x.len
      · have h1 : bestStep C part u none x = some (max u (x.start + C.switch)) := by
          unfold bestStep cand
          rw [if_pos hp]
          dsimp only
          rw [if_neg (by omega)]
        rw [h1, show rnV C part u (x :: r) = some (max u (x.start + C.switch)) by unfold rnV r0V; rw [if_pos ⟨hp, hn⟩]]
        refine keepBest r (fun y hy => ?_)
        have := winsGo_each r (x.start + x.len) hr (by omega) hs y hy
        unfold cand
        split <;> omega
      · have h1 : bestStep C part u none x = some (x.start + C.switch + C.major) := by
          unfold bestStep cand
          rw [if_pos hp]
          dsimp only
          rw [if_pos (by omega)]
        have h2 : rnV C part u (x :: r) = some ((r0V C part u r).getD (x.start + C.switch + C.major)) := by
          unfold rnV
          rw [show r0V C part u (x :: r) = r0V C part u r by conv => lhs; unfold r0V; rw [if_neg (fun c => hn c.2)]]
          rw [show r1V C part (x :: r) = some (x.start + C.switch + C.major) by unfold r1V; rw [if_pos hp]]
          cases r0V C part u r <;> rfl
        rw [h1, h2]
        exact laterBest hs hu (by omega) r _ hr (by omega) (by omega)
    · have h1 : bestStep C part u none x = none := by unfold bestStep; rw [if_neg hp]
      have h2 : rnV C part u (x :: r) = rnV C part u r := by
        unfold rnV
        rw [show r0V C part u (x :: r) = r0V C part u r by conv => lhs; unfold r0V; rw [if_neg (fun c => hp c.1)]]
        rw [show r1V C part (x :: r) = r1V C part r by conv => lhs; unfold r1V; rw [if_neg hp]]
      rw [h1, h2]
      exact firstBest hs hu r _ hr (by omega)

theorem bestK_rn {C : Cfg} (hF : WFine C) (part u : Int) (hu : u < C.major) : bestK C part u C.wins.length = rnV C part u C.wins := by
  unfold bestK
  rw [List.take_length]
  exact firstBest hF.switch.1 hu C.wins 0 hF.go (by omega)
end Go.Proofs.Ytmbdimcjpdofoaa
