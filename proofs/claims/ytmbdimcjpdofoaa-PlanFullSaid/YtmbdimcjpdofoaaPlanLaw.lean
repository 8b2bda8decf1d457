/- The steps of a plan, tick by tick (plain). -/
import Derived.Test.YtmbdimcjpdofoaaPlanN
namespace Go.Proofs.Ytmbdimcjpdofoaa
open Go.RowKit

/-- Whether a partition makes a step at a tick of the frame, of a list of windows. -/
def runW (sw part u : Int) (x : WinD) : Bool := decide (x.part = part) && (decide (x.start + sw ≤ u) && decide (u < x.start + x.len))
def runL (sw part u : Int) (l : List WinD) : Bool := l.any (runW sw part u)
def runP (C : Cfg) (part t : Int) : Bool := runL C.switch part (t % C.major) C.wins
def b2i (b : Bool) : Int := if b = true then 1 else 0

theorem runW_iff {sw part u : Int} {x : WinD} : runW sw part u x = true ↔ x.part = part ∧ x.start + sw ≤ u ∧ u < x.start + x.len := by
  unfold runW
  simp only [Bool.and_eq_true, decide_eq_true_eq]
theorem runL_iff {sw part u : Int} {l : List WinD} : runL sw part u l = true ↔ ∃ x ∈ l, x.part = part ∧ x.start + sw ≤ u ∧ u < x.start + x.len := by
  unfold runL
  rw [List.any_eq_true]
  constructor
  · rintro ⟨x, hx, h⟩; exact ⟨x, hx, runW_iff.1 h⟩
  · rintro ⟨x, hx, h⟩; exact ⟨x, hx, runW_iff.2 h⟩
theorem runL_no {C : Cfg} {part u : Int} : ∀ (l : List WinD) (e : Int), winsGo C l e = true → 0 ≤ e → 0 ≤ C.switch → u < e → runL C.switch part u l = false := by
  intro l e h h0 hs hu
  apply Bool.eq_false_iff.2
  intro hr
  obtain ⟨x, hx, _, h2, _⟩ := runL_iff.1 hr
  have := winsGo_each l e h h0 hs x hx
  omega

theorem shr1_succ {C : Cfg} {part u : Int} {x : WinD} (hs : 0 ≤ C.switch) (hl : C.switch < x.len) : shr1 C.switch part (u + 1) x = shr1 C.switch part u x + b2i (runW C.switch part u x) := by
  unfold shr1 b2i
  by_cases hp : x.part = part
  · rw [if_pos hp, if_pos hp]
    by_cases hr : runW C.switch part u x = true
    · rw [if_pos hr]
      have := runW_iff.1 hr
      omega
    · rw [if_neg hr]
      have : ¬ (x.start + C.switch ≤ u ∧ u < x.start + x.len) := fun h => hr (runW_iff.2 ⟨hp, h⟩)
      omega
  · rw [if_neg hp, if_neg hp, if_neg (fun h => hp (runW_iff.1 h).1)]
    rfl

/-- Of windows that lie one behind the other, one more tick is one more step or none. -/
theorem sum_succ {C : Cfg} {part u : Int} (hs : 0 ≤ C.switch) : ∀ (l : List WinD) (e : Int), winsGo C l e = true → 0 ≤ e →
    (l.map (shr1 C.switch part (u + 1))).sum = (l.map (shr1 C.switch part u)).sum + b2i (runL C.switch part u l)
  | [], _, _, _ => by simp [runL, b2i]
  | x :: r, e, h, h0 => by
    obtain ⟨⟨g1, g2, g3, g4, g5⟩, hr⟩ := winsGo_cons h
    rw [List.map_cons, List.map_cons, List.sum_cons, List.sum_cons, sum_succ hs r _ hr (by omega), shr1_succ hs g2]
    have h1 : runL C.switch part u (x :: r) = (runW C.switch part u x || runL C.switch part u r) := rfl
    rw [h1]
    cases hw : runW C.switch part u x
    · simp [b2i]; omega
    · have h2 := runW_iff.1 hw
      rw [runL_no r _ hr (by omega) hs (by omega)]
      simp [b2i]; omega

theorem shareV_sum (C : Cfg) (part below : Int) : shareV C part below = (C.wins.map (shr1 C.switch part below)).sum := by
  unfold shareV shrK
  rw [List.take_length]

theorem shareV_zero {C : Cfg} (hF : WFine C) (part : Int) : shareV C part 0 = 0 := by
  rw [shareV_sum]
  have : ∀ l : List WinD, (∀ x ∈ l, 0 ≤ x.start) → (l.map (shr1 C.switch part 0)).sum = 0 := by
    intro l
    induction l with
    | nil => intro _; rfl
    | cons x r ih =>
      intro h
      rw [List.map_cons, List.sum_cons, ih (fun y hy => h y (by simp [hy]))]
      have := h x (by simp)
      have := hF.switch
      unfold shr1
      split <;> omega
  exact this _ (fun x hx => (hF.each x hx).1)

theorem uptoV_succ {C : Cfg} (hF : WFine C) (part : Int) {t : Int} (h0 : 0 ≤ t) : uptoV C part (t + 1) = uptoV C part t + b2i (runP C part t) := by
  have hm := hF.major
  have hu0 : 0 ≤ t % C.major := Int.emod_nonneg _ (by omega)
  have hu1 : t % C.major < C.major := Int.emod_lt_of_pos _ (by omega)
  have hq := Int.emod_add_mul_ediv t C.major
  have hsum := sum_succ (part := part) (u := t % C.major) hF.switch.1 C.wins 0 hF.go (by omega)
  rw [← shareV_sum, ← shareV_sum] at hsum
  unfold uptoV runP
  by_cases hc : t % C.major + 1 < C.major
  · have e1 : (t + 1) / C.major = t / C.major := by
      have : t + 1 = (t % C.major + 1) + C.major * (t / C.major) := by omega
      rw [this, Int.add_mul_ediv_left _ _ (by omega), Int.ediv_eq_zero_of_lt (by omega) hc]
      omega
    have e2 : (t + 1) % C.major = t % C.major + 1 := by
      have : t + 1 = (t % C.major + 1) + C.major * (t / C.major) := by omega
      rw [this, Int.add_mul_emod_self_left, Int.emod_eq_of_lt (by omega) hc]
    rw [e1, e2, hsum]
    omega
  · have hc' : t % C.major + 1 = C.major := by omega
    have h2 : t + 1 = C.major * (t / C.major + 1) := by rw [Int.mul_add]; omega
    have e1 : (t + 1) / C.major = t / C.major + 1 := by rw [h2, Int.mul_ediv_cancel_left _ (by omega)]
    have e2 : (t + 1) % C.major = 0 := by rw [h2, Int.mul_emod_right]
    rw [hc'] at hsum
    rw [e1, e2, shareV_zero hF, Int.add_mul, Int.one_mul, hsum]
    omega

/-- What Runs tells is whether there is a step. -/
theorem find_run {C : Cfg} {part u : Int} (hs : 0 ≤ C.switch) : ∀ (l : List WinD) (e : Int), winsGo C l e = true → 0 ≤ e →
    runL C.switch part u l = (decide (0 ≤ (findV l u).1) && decide (C.switch ≤ (findV l u).2) && decide ((findV l u).1 = part))
  | [], _, _, _ => by simp [runL, findV]
  | x :: r, e, h, h0 => by
    obtain ⟨⟨g1, g2, g3, g4, g5⟩, hr⟩ := winsGo_cons h
    have h1 : runL C.switch part u (x :: r) = (runW C.switch part u x || runL C.switch part u r) := rfl
    unfold findV
    by_cases hi : inW x u = true
    · rw [if_pos hi]
      unfold inW at hi
      simp only [Bool.and_eq_true, decide_eq_true_eq] at hi
      rw [h1, runL_no r _ hr (by omega) hs (by omega), Bool.or_false]
      unfold runW
      rw [Bool.eq_iff_iff]
      simp only [Bool.and_eq_true, decide_eq_true_eq]
      omega
    · rw [if_neg hi, h1, ← find_run hs r _ hr (by omega)]
      have : runW C.switch part u x = false := by
        apply Bool.eq_false_iff.2
        intro hw
        have := runW_iff.1 hw
        apply hi
        unfold inW
        simp only [Bool.and_eq_true, decide_eq_true_eq]
        omega
      rw [this, Bool.false_or]

theorem runs_runP {C : Cfg} (hF : WFine C) (part : Int) {t : Int} (ht : tickB C [t] = true) : ((runsV C t).2 && decide ((runsV C t).1 = part)) = runP C part t := by
  unfold runsV atV runP
  rw [if_pos ht, find_run hF.switch.1 C.wins 0 hF.go (by omega)]

/-- The steps between two ticks, one by one. -/
def cnt (C : Cfg) (part a : Int) : Nat → Int
  | 0 => 0
  | n + 1 => cnt C part a n + b2i (runP C part (a + n))
theorem upto_add {C : Cfg} (hF : WFine C) (part : Int) {a : Int} (n : Nat) (h0 : 0 ≤ a) : uptoV C part (a + n) = uptoV C part a + cnt C part a n := by
  induction n with
  | zero => simp [cnt]
  | succ n ih =>
    rw [show a + ((n + 1 : Nat) : Int) = a + n + 1 by omega, uptoV_succ hF part (by omega), ih]
    have : cnt C part a (n + 1) = cnt C part a n + b2i (runP C part (a + n)) := rfl
    omega

/-- Of all partitions at most one makes a step. -/
def runSum (C : Cfg) (t : Int) : Nat → Int
  | 0 => 0
  | n + 1 => runSum C t n + b2i (runP C n t)
theorem one_run {C : Cfg} (hF : WFine C) {t : Int} (ht : tickB C [t] = true) : ∀ n : Nat, 0 ≤ runSum C t n ∧ runSum C t n ≤ 1 ∧ ((runsV C t).1 < 0 ∨ (n : Int) ≤ (runsV C t).1 → runSum C t n = 0)
  | 0 => ⟨Int.le_refl _, by unfold runSum; omega, fun _ => rfl⟩
  | n + 1 => by
    have ih := one_run hF ht n
    have h1 := runs_runP hF (n : Int) ht
    unfold runSum
    rw [← h1]
    generalize runsV C t = r at ih
    obtain ⟨a, b⟩ := r
    by_cases e : a = n
    · have := ih.2.2 (.inr (by simp; omega))
      unfold b2i
      refine ⟨?_, ?_, fun h => ?_⟩
      · split <;> omega
      · split <;> omega
      · simp at h; omega
    · have h2 : (b && decide (a = (n : Int))) = false := by simp [e]
      dsimp only
      rw [h2]
      unfold b2i
      rw [if_neg (by decide)]
      refine ⟨by omega, by omega, fun h => ?_⟩
      have := ih.2.2 (by simp at h ⊢; omega)
      omega
def stepSum (C : Cfg) (a b : Int) : Nat → Int
  | 0 => 0
  | n + 1 => stepSum C a b n + (uptoV C n b - uptoV C n a)
theorem stepSum_succ {C : Cfg} (hF : WFine C) (a : Int) {b : Int} (h0 : 0 ≤ b) : ∀ n : Nat, stepSum C a (b + 1) n = stepSum C a b n + runSum C b n
  | 0 => rfl
  | n + 1 => by
    unfold stepSum runSum
    rw [stepSum_succ hF a h0 n, uptoV_succ hF n h0]
    omega
theorem stepSum_le {C : Cfg} (hF : WFine C) {a : Int} (h0 : 0 ≤ a) (n : Nat) : ∀ m : Nat, (∀ j : Nat, j < m → tickB C [a + j] = true) → stepSum C a (a + m) n ≤ m
  | 0, _ => by
    have : ∀ n, stepSum C a (a + (0 : Nat)) n = 0 := by
      intro n
      induction n with
      | zero => rfl
      | succ n ih => unfold stepSum; rw [ih]; simp
    rw [this]
    simp
  | m + 1, h => by
    rw [show a + ((m + 1 : Nat) : Int) = a + m + 1 by omega, stepSum_succ hF a (by omega)]
    have := stepSum_le hF h0 n m (fun j hj => h j (by omega))
    have := one_run hF (h m (by omega)) n
    omega

/-- One frame later. -/
theorem later_mod {C : Cfg} (hF : WFine C) (t : Int) (f : Int) : (t + f * C.major) % C.major = t % C.major := by
  rw [Int.add_mul_emod_self_right]
theorem later_upto {C : Cfg} (hF : WFine C) (part t f : Int) : uptoV C part (t + f * C.major) = uptoV C part t + f * shareV C part C.major := by
  have := hF.major
  unfold uptoV
  rw [later_mod hF, Int.add_mul_ediv_right _ _ (by omega), Int.add_mul]
  omega
theorem later_run {C : Cfg} (hF : WFine C) (part t f : Int) : runP C part (t + f * C.major) = runP C part t := by
  unfold runP
  rw [later_mod hF]

/-- A partition's share, window by window. -/
def wantK (C : Cfg) (part : Int) (k : Nat) : Int := ((C.wins.take k).map fun x => if x.part = part then x.len - C.switch else 0).sum
theorem wantK_succ (C : Cfg) (part : Int) (k : Nat) (hk : k < C.wins.length) : wantK C part (k + 1) = wantK C part k + (if C.wins[k].part = part then C.wins[k].len - C.switch else 0) := by
  unfold wantK
  rw [List.take_succ_eq_append_getElem hk, List.map_append, List.sum_append]
  simp
theorem want_share {C : Cfg} (hF : WFine C) (part : Int) : shareV C part C.major = wantK C part C.wins.length := by
  rw [shareV_sum]
  unfold wantK
  rw [List.take_length]
  congr 1
  apply List.map_congr_left
  intro x hx
  have := hF.each x hx
  have := hF.switch
  unfold shr1
  split <;> omega

/-- What Next tells: the first tick of the partition, or that there is none. -/
theorem next_spec {C : Cfg} (hF : WFine C) (part : Int) {t : Int} (h0 : 0 ≤ t) (ht : tickB C [t] = true) :
    (∃ v, nextV C part t = (v, true) ∧ t ≤ v ∧ runP C part v = true ∧ ∀ s, t ≤ s → s < v → runP C part s = false) ∨ (nextV C part t = (0, false) ∧ ∀ s, runP C part s = false) := by
  have hm := hF.major
  have hsw := hF.switch
  have hu0 : 0 ≤ t % C.major := Int.emod_nonneg _ (by omega)
  have hu1 : t % C.major < C.major := Int.emod_lt_of_pos _ (by omega)
  have hq := Int.emod_add_mul_ediv t C.major
  have hmod : ∀ s, t - t % C.major ≤ s → s < t - t % C.major + C.major → s % C.major = s - (t - t % C.major) := by
    intro s h1 h2
    have e : s = (s - (t - t % C.major)) + C.major * (t / C.major) := by omega
    conv => lhs; rw [e]
    rw [Int.add_mul_emod_self_left, Int.emod_eq_of_lt (by omega) (by omega)]
  have hmod2 : ∀ s, t - t % C.major + C.major ≤ s → s < t - t % C.major + C.major + C.major → s % C.major = s - (t - t % C.major) - C.major := by
    intro s h1 h2
    have e : s = (s - (t - t % C.major) - C.major) + C.major * (t / C.major + 1) := by rw [Int.mul_add]; omega
    conv => lhs; rw [e]
    rw [Int.add_mul_emod_self_left, Int.emod_eq_of_lt (by omega) (by omega)]
  have r0some : ∀ (l : List WinD) (e : Int), winsGo C l e = true → 0 ≤ e → ∀ v, r0V C part (t % C.major) l = some v → t % C.major ≤ v ∧ v < C.major ∧ runL C.switch part v l = true ∧ ∀ s, t % C.major ≤ s → s < v → runL C.switch part s l = false := by
    intro l
    induction l with
    | nil => intro e _ _ v hv; cases hv
    | cons x r ih =>
      intro e h he v hv
      obtain ⟨⟨g1, g2, g3, g4, g5⟩, hr⟩ := winsGo_cons h
      have hcons : ∀ u, runL C.switch part u (x :: r) = (runW C.switch part u x || runL C.switch part u r) := fun u => rfl
      unfold r0V at hv
      by_cases hc : x.part = part ∧ max (t % C.major) (x.start + C.switch) < x.start + x.len
      · rw [if_pos hc] at hv
        injection hv with hv
        refine ⟨by omega, by omega, ?_, fun s h1 h2 => ?_⟩
        · rw [hcons, runW_iff.2 ⟨hc.1, by omega, by omega⟩]; rfl
        · rw [hcons, runL_no r _ hr (by omega) hsw.1 (by omega), Bool.or_false]
          apply Bool.eq_false_iff.2
          intro hw
          have := runW_iff.1 hw
          omega
      · rw [if_neg hc] at hv
        obtain ⟨a1, a2, a3, a4⟩ := ih _ hr (by omega) v hv
        refine ⟨a1, a2, by rw [hcons, a3, Bool.or_true], fun s h1 h2 => ?_⟩
        rw [hcons, a4 s h1 h2, Bool.or_false]
        apply Bool.eq_false_iff.2
        intro hw
        have := runW_iff.1 hw
        apply hc
        refine ⟨this.1, by omega⟩
  have r0none : ∀ (l : List WinD), r0V C part (t % C.major) l = none → ∀ s, t % C.major ≤ s → runL C.switch part s l = false := by
    intro l
    induction l with
    | nil => intro _ s _; rfl
    | cons x r ih =>
      intro hv s hs
      have hcons : runL C.switch part s (x :: r) = (runW C.switch part s x || runL C.switch part s r) := rfl
      unfold r0V at hv
      by_cases hc : x.part = part ∧ max (t % C.major) (x.start + C.switch) < x.start + x.len
      · rw [if_pos hc] at hv; cases hv
      · rw [if_neg hc] at hv
        rw [hcons, ih hv s hs, Bool.or_false]
        apply Bool.eq_false_iff.2
        intro hw
        have := runW_iff.1 hw
        apply hc
        refine ⟨this.1, by omega⟩
  have r1some : ∀ (l : List WinD) (e : Int), winsGo C l e = true → 0 ≤ e → ∀ v, r1V C part l = some v → C.major ≤ v ∧ v < C.major + C.major ∧ runL C.switch part (v - C.major) l = true ∧ ∀ s, s < v - C.major → runL C.switch part s l = false := by
    intro l
    induction l with
    | nil => intro e _ _ v hv; cases hv
    | cons x r ih =>
      intro e h he v hv
      obtain ⟨⟨g1, g2, g3, g4, g5⟩, hr⟩ := winsGo_cons h
      have hcons : ∀ u, runL C.switch part u (x :: r) = (runW C.switch part u x || runL C.switch part u r) := fun u => rfl
      unfold r1V at hv
      by_cases hc : x.part = part
      · rw [if_pos hc] at hv
        injection hv with hv
        refine ⟨by omega, by omega, ?_, fun s h2 => ?_⟩
        · rw [hcons, runW_iff.2 ⟨hc, by omega, by omega⟩]; rfl
        · rw [hcons, runL_no r _ hr (by omega) hsw.1 (by omega), Bool.or_false]
          apply Bool.eq_false_iff.2
          intro hw
          have := runW_iff.1 hw
          omega
      · rw [if_neg hc] at hv
        obtain ⟨a1, a2, a3, a4⟩ := ih _ hr (by omega) v hv
        refine ⟨a1, a2, by rw [hcons, a3, Bool.or_true], fun s h2 => ?_⟩
        rw [hcons, a4 s h2, Bool.or_false]
        apply Bool.eq_false_iff.2
        intro hw
        exact hc (runW_iff.1 hw).1
  have r1none : ∀ (l : List WinD), r1V C part l = none → ∀ s, runL C.switch part s l = false := by
    intro l
    induction l with
    | nil => intro _ s; rfl
    | cons x r ih =>
      intro hv s
      have hcons : runL C.switch part s (x :: r) = (runW C.switch part s x || runL C.switch part s r) := rfl
      unfold r1V at hv
      by_cases hc : x.part = part
      · rw [if_pos hc] at hv; cases hv
      · rw [if_neg hc] at hv
        rw [hcons, ih hv s, Bool.or_false]
        apply Bool.eq_false_iff.2
        intro hw
        exact hc (runW_iff.1 hw).1
  have HN : nextV C part t = match rnV C part (t % C.major) C.wins with
    | none => (0, false)
    | some b => (t - t % C.major + b, true) := by
    unfold nextV
    rw [if_pos ht, bestK_rn hF part _ hu1] <;> rfl
  unfold rnV at HN
  cases e0 : r0V C part (t % C.major) C.wins with
  | some v =>
    rw [e0] at HN
    obtain ⟨a1, a2, a3, a4⟩ := r0some C.wins 0 hF.go (by omega) v e0
    refine .inl ⟨_, HN, by omega, ?_, fun s h1 h2 => ?_⟩
    · unfold runP
      rw [hmod _ (by omega) (by omega), show t - t % C.major + v - (t - t % C.major) = v by omega]
      exact a3
    · unfold runP
      rw [hmod s (by omega) (by omega)]
      exact a4 _ (by omega) (by omega)
  | none =>
    rw [e0] at HN
    have b1 := r0none C.wins e0
    cases e1 : r1V C part C.wins with
    | some v =>
      rw [e1] at HN
      obtain ⟨a1, a2, a3, a4⟩ := r1some C.wins 0 hF.go (by omega) v e1
      refine .inl ⟨_, HN, by omega, ?_, fun s h1 h2 => ?_⟩
      · unfold runP
        rw [hmod2 _ (by omega) (by omega), show t - t % C.major + v - (t - t % C.major) - C.major = v - C.major by omega]
        exact a3
      · unfold runP
        by_cases h3 : s < t - t % C.major + C.major
        · rw [hmod s (by omega) h3]
          exact b1 _ (by omega)
        · rw [hmod2 s (by omega) (by omega)]
          exact a4 _ (by omega)
    | none =>
      rw [e1] at HN
      exact .inr ⟨HN, fun s => r1none C.wins e1 _⟩
theorem later_next {C : Cfg} (hF : WFine C) (part t f : Int) (h1 : tickB C [t] = true) (h2 : tickB C [t + f * C.major] = true) : (nextV C part (t + f * C.major)).2 = (nextV C part t).2 ∧ ((nextV C part t).2 = true → (nextV C part (t + f * C.major)).1 - (nextV C part t).1 = f * C.major) := by
  unfold nextV
  rw [if_pos h1, if_pos h2, later_mod hF]
  cases bestK C part (t % C.major) C.wins.length with
  | none => exact ⟨rfl, fun h => by cases h⟩
  | some b => exact ⟨rfl, fun _ => by dsimp only; omega⟩
theorem chk_wins {C : Cfg} (h : chk C = 0) : WFine C := by
  refine wfine_of ?_
  unfold chk at h
  cases h5 : winsOk C
  · rw [h5] at h
    exfalso
    revert h
    simp
    split <;> (try omega)
    all_goals (split <;> (try omega))
    all_goals (split <;> (try omega))
    all_goals (split <;> (try omega))
  · rfl
end Go.Proofs.Ytmbdimcjpdofoaa
