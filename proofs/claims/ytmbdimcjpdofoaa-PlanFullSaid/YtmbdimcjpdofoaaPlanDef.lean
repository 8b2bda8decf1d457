/- What a plan tells, as data (plain). -/
import Derived.Test.YtmbdimcjpdofoaaCfgCheck
namespace Go.Proofs.Ytmbdimcjpdofoaa
open Go.RowKit

/-- What the windows of a configuration that may be are. -/
structure WFine (C : Cfg) : Prop where
  major : 1 ≤ C.major ∧ C.major ≤ 100000
  switch : 0 ≤ C.switch ∧ C.switch ≤ 1000
  len : 1 ≤ C.wins.length ∧ C.wins.length ≤ 32
  each : ∀ x ∈ C.wins, 0 ≤ x.start ∧ C.switch < x.len ∧ x.start + x.len ≤ C.major ∧ 0 ≤ x.part ∧ x.part < C.parts.length
  go : winsGo C C.wins 0 = true

theorem winsGo_each {C : Cfg} : ∀ (l : List WinD) (e : Int), winsGo C l e = true → 0 ≤ e → 0 ≤ C.switch → ∀ x ∈ l, e ≤ x.start ∧ C.switch < x.len ∧ x.start + x.len ≤ C.major ∧ 0 ≤ x.part ∧ x.part < C.parts.length
  | [], _, _, _, _, x, hx => by simp at hx
  | y :: l, e, h, h0, hs, x, hx => by
    unfold winsGo at h
    rw [Bool.and_eq_true] at h
    have hy : e ≤ y.start ∧ C.switch < y.len ∧ y.start + y.len ≤ C.major ∧ 0 ≤ y.part ∧ y.part < C.parts.length := by
      have h1 := h.1
      unfold winOk at h1
      simp only [wi, Bool.and_eq_true, decide_eq_true_eq] at h1
      omega
    rcases List.mem_cons.1 hx with rfl | hx
    · exact hy
    · have := winsGo_each l (y.start + y.len) h.2 (by omega) hs x hx
      omega

theorem wfine_of {C : Cfg} (h : winsOk C = true) : WFine C := by
  unfold winsOk winBase at h
  simp only [wi, Bool.and_eq_true, decide_eq_true_eq] at h
  obtain ⟨⟨h1, h2, h3⟩, h4⟩ := h
  refine ⟨h1, h2, by omega, fun x hx => ?_, h4⟩
  have := winsGo_each C.wins 0 h4 (by omega) h2.1 x hx
  omega

def inW (x : WinD) (u : Int) : Bool := decide (x.start ≤ u) && decide (u < x.start + x.len)
def findV : List WinD → Int → Int × Int
  | [], _ => (-1, 0)
  | x :: r, u => if inW x u = true then (x.part, u - x.start) else findV r u
def okT (t : Int) : Bool := decide (0 ≤ t ∧ t ≤ 1099511627776)
def tickB (C : Cfg) (l : List Int) : Bool := l.all okT && (chk C == 0)
def atV (C : Cfg) (t : Int) : Int × Int := if tickB C [t] = true then findV C.wins (t % C.major) else (-1, 0)
def runsV (C : Cfg) (t : Int) : Int × Bool := ((atV C t).1, decide (0 ≤ (atV C t).1) && decide (C.switch ≤ (atV C t).2))
/-- One window's share, below a tick of the frame. -/
def shr1 (sw part below : Int) (x : WinD) : Int := if x.part = part then max 0 (min below (x.start + x.len) - x.start - sw) else 0
def shrK (sw part below : Int) (l : List WinD) (k : Nat) : Int := ((l.take k).map (shr1 sw part below)).sum
def shareV (C : Cfg) (part below : Int) : Int := shrK C.switch part below C.wins C.wins.length
def uptoV (C : Cfg) (part t : Int) : Int := t / C.major * shareV C part C.major + shareV C part (t % C.major)
def stepsV (C : Cfg) (part a b : Int) : Int := if tickB C [a, b] = true ∧ a ≤ b then uptoV C part b - uptoV C part a else 0
def shareAll (C : Cfg) (part : Int) : Int := if chk C = 0 then shareV C part C.major else 0

theorem shrK_succ (sw part below : Int) (l : List WinD) (k : Nat) (hk : k < l.length) : shrK sw part below l (k + 1) = shrK sw part below l k + shr1 sw part below l[k] := by
  unfold shrK
  rw [List.take_succ_eq_append_getElem hk, List.map_append, List.sum_append]
  simp
theorem shrK_le {C : Cfg} (hF : WFine C) (part below : Int) : ∀ k, k ≤ C.wins.length → 0 ≤ shrK C.switch part below C.wins k ∧ shrK C.switch part below C.wins k ≤ 100000 * k := by
  intro k
  induction k with
  | zero => intro _; simp [shrK]
  | succ k ih =>
    intro hk
    have h1 := ih (by omega)
    have h2 := hF.each _ (List.getElem_mem (show k < C.wins.length by omega))
    have h3 := hF.major
    have h4 := hF.switch
    rw [shrK_succ _ _ _ _ _ (by omega)]
    have h5 : 0 ≤ shr1 C.switch part below C.wins[k] ∧ shr1 C.switch part below C.wins[k] ≤ 100000 := by
      unfold shr1
      split <;> omega
    omega
theorem shareV_le {C : Cfg} (hF : WFine C) (part below : Int) : 0 ≤ shareV C part below ∧ shareV C part below ≤ 3200000 := by
  have := shrK_le hF part below C.wins.length (Nat.le_refl _)
  have := hF.len
  unfold shareV
  omega
theorem quo_le {t m : Int} (h0 : 0 ≤ t) (h1 : t ≤ 1099511627776) (hm : 1 ≤ m) : 0 ≤ t / m ∧ t / m ≤ 1099511627776 := by
  refine ⟨Int.ediv_nonneg h0 (by omega), ?_⟩
  have := Int.ediv_le_self m h0
  omega
theorem mul_le {a b : Int} (h0 : 0 ≤ a) (h1 : a ≤ 1099511627776) (h2 : 0 ≤ b) (h3 : b ≤ 3200000) : 0 ≤ a * b ∧ a * b ≤ 3518437208883200000 := by
  refine ⟨Int.mul_nonneg h0 h2, ?_⟩
  have := Int.mul_le_mul h1 h3 h2 (by decide)
  omega
theorem uptoV_le {C : Cfg} (hF : WFine C) (part : Int) {t : Int} (h0 : 0 ≤ t) (h1 : t ≤ 1099511627776) : 0 ≤ uptoV C part t ∧ uptoV C part t ≤ 3518437208886400000 := by
  have a := quo_le h0 h1 hF.major.1
  have b := shareV_le hF part C.major
  have c := shareV_le hF part (t % C.major)
  have d := mul_le a.1 a.2 b.1 b.2
  unfold uptoV
  omega

/-- Where a partition's next step is, of one window; u: the tick of the frame. -/
def cand (C : Cfg) (u : Int) (x : WinD) : Int := if x.start + x.len ≤ max u (x.start + C.switch) then x.start + C.switch + C.major else max u (x.start + C.switch)
def bestStep (C : Cfg) (part u : Int) (b : Option Int) (x : WinD) : Option Int := if x.part = part then (match b with
  | none => some (cand C u x)
  | some v => if cand C u x < v then some (cand C u x) else some v) else b
def bestK (C : Cfg) (part u : Int) (k : Nat) : Option Int := (C.wins.take k).foldl (bestStep C part u) none
def nextV (C : Cfg) (part t : Int) : Int × Bool := if tickB C [t] = true then (match bestK C part (t % C.major) C.wins.length with
  | none => (0, false)
  | some b => (t - t % C.major + b, true)) else (0, false)
theorem bestK_succ (C : Cfg) (part u : Int) (k : Nat) (hk : k < C.wins.length) : bestK C part u (k + 1) = bestStep C part u (bestK C part u k) C.wins[k] := by
  unfold bestK
  rw [List.take_succ_eq_append_getElem hk, List.foldl_append]
  rfl
end Go.Proofs.Ytmbdimcjpdofoaa
