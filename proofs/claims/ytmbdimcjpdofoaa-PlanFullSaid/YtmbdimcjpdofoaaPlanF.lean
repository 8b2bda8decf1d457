/- PlanFull: the configuration that it makes (plain). -/
import Derived.Test.YtmbdimcjpdofoaaPlanLaw
import Derived.Test.YtmbdimcjpdofoaaPlanR
import Derived.Test.YtmbdimcjpdofoaaPlanB2
import Derived.Test.YtmbdimcjpdofoaaCfgArg
import Derived.Test.YtmbdimcjpdofoaaOwn
import Derived.Test.YtmbdimcjpdofoaaBits
namespace Go.Proofs.Ytmbdimcjpdofoaa
open Go.RowKit Go.ChangeShapes Go.WideShapes Go.Deep

set_option maxRecDepth 100000 in
theorem open_ints {H : Type} {enc : TypeId × Value → H} {W : World} {base : Nat} {v : Value} {d : DataW H} {p : List MemPlace} (hv : Value.okWide Try.prog W .any base 41 v) (h : DataW.Trod enc Try.prog W 0 (fun _ => true) true 41 v d p) :
    ∃ (ao : Option Addr) (cap : Nat) (l : List Int), v = .slice ao l.length cap ∧ Lst W ao l.length cap (l.flatMap iCells) 1 ∧ (∀ ad, ao = some ad → 0 < l.length → ad.block < W.heap.size) := by
  obtain ⟨fuel, hf⟩ := Trod_slice Try.underlying41 hv h
  obtain ⟨ao, cap, l, h1, h2, h3, _⟩ := read_slice iCells (fun _ => True) 1 (fun _ => rfl) (by decide) Try.underlying41 (by kernel_rfl) (fun fuel cs x hc ht => by
    match cs, hc with
    | [c0], _ =>
      obtain ⟨z0, rfl, _⟩ := read_int Try.underlying3 ht
      exact ⟨z0, rfl, trivial⟩) hf
  exact ⟨ao, cap, l, h1, h2, h3⟩

/-- Windows one behind the other, of two partitions in turn. -/
def wfR : List Int → Int → Nat → List WinD
  | [], _, _ => []
  | x :: r, e, i => ⟨e, x, ((i % 2 : Nat) : Int)⟩ :: wfR r (e + x) (i + 1)
theorem wfR_len : ∀ (l : List Int) (e : Int) (i : Nat), (wfR l e i).length = l.length
  | [], _, _ => rfl
  | x :: r, e, i => by unfold wfR; rw [List.length_cons, List.length_cons, wfR_len r]
theorem wfR_snoc : ∀ (l : List Int) (x e : Int) (i : Nat), wfR (l ++ [x]) e i = wfR l e i ++ [⟨e + l.sum, x, (((i + l.length) % 2 : Nat) : Int)⟩]
  | [], x, e, i => by simp [wfR]
  | y :: r, x, e, i => by
    show wfR (y :: (r ++ [x])) e i = _
    unfold wfR
    rw [wfR_snoc r x (e + y) (i + 1), List.sum_cons, List.length_cons, List.cons_append, show e + y + r.sum = e + (y + r.sum) by omega, show i + 1 + r.length = i + (r.length + 1) by omega]
def fullC (l : List Int) (sw : Int) (mj : Int) (ps : List PartD) : Cfg := ⟨20, mj, sw, ps, [], wfR l 0 0⟩
theorem sum_pos : ∀ (l : List Int) (sw : Int), 0 ≤ sw → (∀ x ∈ l, sw < x) → 0 ≤ l.sum
  | [], _, _, _ => by simp
  | x :: r, sw, h0, h => by
    have := sum_pos r sw h0 (fun y hy => h y (by simp [hy]))
    have := h x (by simp)
    rw [List.sum_cons]
    omega
theorem full_go {C : Cfg} (h2 : C.parts.length = 2) (h0 : 0 ≤ C.switch) : ∀ (l : List Int) (e : Int) (i : Nat), (∀ x ∈ l, C.switch < x) → 0 ≤ e → e + l.sum ≤ C.major → winsGo C (wfR l e i) e = true
  | [], _, _, _, _, _ => rfl
  | x :: r, e, i, h, he, hm => by
    have hs := sum_pos r C.switch h0 (fun y hy => h y (by simp [hy]))
    have hx := h x (by simp)
    rw [List.sum_cons] at hm
    unfold wfR winsGo
    rw [full_go h2 h0 r (e + x) (i + 1) (fun y hy => h y (by simp [hy])) (by omega) (by omega), Bool.and_true]
    unfold winOk
    rw [h2]
    simp only [wi, Bool.and_eq_true, decide_eq_true_eq]
    omega
theorem full_find : ∀ (l : List Int) (e : Int) (i : Nat) (u : Int), (∀ x ∈ l, 0 < x) → e ≤ u → u < e + l.sum → 0 ≤ (findV (wfR l e i) u).1 ∧ 0 ≤ (findV (wfR l e i) u).2
  | [], _, _, _, _, h1, h2 => by simp at h2; omega
  | x :: r, e, i, u, h, h1, h2 => by
    rw [List.sum_cons] at h2
    unfold wfR findV
    by_cases hi : inW ⟨e, x, ((i % 2 : Nat) : Int)⟩ u = true
    · rw [if_pos hi]
      exact ⟨by dsimp only; omega, by dsimp only; omega⟩
    · rw [if_neg hi]
      refine full_find r (e + x) (i + 1) u (fun y hy => h y (by simp [hy])) ?_ (by omega)
      unfold inW at hi
      simp only [Bool.and_eq_true, decide_eq_true_eq] at hi
      omega
theorem full_want (sw : Int) : ∀ (l : List Int) (e : Int) (i : Nat), ((wfR l e i).map fun x => if x.part = 0 then x.len - sw else 0).sum + ((wfR l e i).map fun x => if x.part = 1 then x.len - sw else 0).sum = l.sum - l.length * sw
  | [], _, _ => by simp [wfR]
  | x :: r, e, i => by
    have ih := full_want sw r (e + x) (i + 1)
    unfold wfR
    rw [List.map_cons, List.map_cons, List.sum_cons, List.sum_cons, List.sum_cons, List.length_cons]
    have : ((r.length + 1 : Nat) : Int) * sw = r.length * sw + sw := by rw [show ((r.length + 1 : Nat) : Int) = (r.length : Int) + 1 by omega, Int.add_mul, Int.one_mul]
    rw [this]
    have hp : i % 2 = 0 ∨ i % 2 = 1 := by omega
    rcases hp with hp | hp <;> rw [hp] <;> simp <;> omega

def fuC (l : List Int) (sw : Int) : Cfg := fullC l sw l.sum [⟨sA, 1, 0⟩, ⟨sB, 1, 0⟩]
theorem fu_sum {l : List Int} {sw : Int} (hs : 0 ≤ sw) (h : ∀ x ∈ l, sw < x ∧ x ≤ 2000) : ∀ k, 0 ≤ (l.take k).sum ∧ (l.take k).sum ≤ 2000 * k := by
  intro k
  induction k with
  | zero => simp
  | succ k ih =>
    by_cases hk : k < l.length
    · rw [List.take_succ_eq_append_getElem hk, List.sum_append]
      have := h _ (List.getElem_mem hk)
      simp
      omega
    · rw [List.take_of_length_le (by omega)]
      rw [List.take_of_length_le (by omega)] at ih
      omega
theorem fu_chk {l : List Int} {sw : Int} (hl : 1 ≤ l.length ∧ l.length ≤ 32) (hs : 0 ≤ sw ∧ sw ≤ 100) (h : ∀ x ∈ l, sw < x ∧ x ≤ 2000) : chk (fuC l sw) = 0 := by
  have hsum := fu_sum hs.1 h l.length
  rw [List.take_length] at hsum
  have h1 : 1 ≤ l.sum := by
    obtain ⟨x, r, rfl⟩ : ∃ x r, l = x :: r := by
      cases l with
      | nil => simp at hl
      | cons x r => exact ⟨x, r, rfl⟩
    have hx := h x (by simp)
    have := sum_pos r sw hs.1 (fun y hy => (h y (by simp [hy])).1)
    rw [List.sum_cons]
    omega
  have p1 : partsOk (fuC l sw) = true := by
    have : partsOk (fuC l sw) = partsOk (wrC 20 1 0 1 0 ⟨0, 0, 1, 1, 1⟩ ⟨0, 1, 0⟩ ⟨1, 1, 0⟩) := rfl
    rw [this, wr_parts]
    rfl
  have p2 : memOk (fuC l sw) = true := by simp [memOk, fuC, fullC, wi]
  have p3 : chansOk (fuC l sw) = true := by simp [chansOk, fuC, fullC]
  have p4 : winsOk (fuC l sw) = true := by
    unfold winsOk winBase
    have hg : winsGo (fuC l sw) (fuC l sw).wins 0 = true := full_go (C := fuC l sw) rfl hs.1 l 0 0 (fun x hx => (h x hx).1) (by omega) (by show 0 + l.sum ≤ l.sum; omega)
    rw [hg, Bool.and_true]
    show (wi l.sum 1 100000 && (wi sw 0 1000 && wi ((wfR l 0 0).length : Int) 1 32)) = true
    rw [wfR_len]
    simp only [wi, Bool.and_eq_true, decide_eq_true_eq]
    omega
  unfold chk
  rw [p1, p2, p3, p4]
  rfl
/-- What the plan tells of it. -/
theorem fu_facts {l : List Int} {sw : Int} (hl : 1 ≤ l.length ∧ l.length ≤ 32) (hs : 0 ≤ sw ∧ sw ≤ 100) (h : ∀ x ∈ l, sw < x ∧ x ≤ 2000) :
    ∃ s0 s1, 0 ≤ s0 ∧ 0 ≤ s1 ∧ s0 + s1 = l.sum - l.length * sw ∧ stepsV (fuC l sw) 0 0 (l.sum * 3) = 3 * s0 ∧ stepsV (fuC l sw) 1 0 (l.sum * 3) = 3 * s1 ∧ shareAll (fuC l sw) 0 = s0 ∧ shareAll (fuC l sw) 1 = s1 ∧
      ∀ t, 0 ≤ t → t ≤ 1073741824 → 0 ≤ (atV (fuC l sw) t).1 ∧ 0 ≤ (atV (fuC l sw) t).2 := by
  have hc := fu_chk hl hs h
  have hF := chk_wins hc
  have hsum := fu_sum hs.1 h l.length
  rw [List.take_length] at hsum
  have hm : (fuC l sw).major = l.sum := rfl
  have hmj := hF.major
  rw [hm] at hmj
  have hst : ∀ p, stepsV (fuC l sw) p 0 (l.sum * 3) = 3 * shareV (fuC l sw) p (fuC l sw).major := fun p => by
    unfold stepsV
    rw [if_pos ⟨by rw [tickB_two, hc, show okT 0 = true from rfl, show okT (l.sum * 3) = true from decide_eq_true (by omega)]; rfl, by omega⟩]
    have := later_upto hF p 0 3
    rw [hm, Int.zero_add, Int.mul_comm] at this
    rw [this, hm]
    omega
  have hw := full_want sw l 0 0
  have hw0 : shareV (fuC l sw) 0 (fuC l sw).major = ((wfR l 0 0).map fun x => if x.part = 0 then x.len - sw else 0).sum := by
    rw [want_share hF]; unfold wantK; rw [List.take_length]; rfl
  have hw1 : shareV (fuC l sw) 1 (fuC l sw).major = ((wfR l 0 0).map fun x => if x.part = 1 then x.len - sw else 0).sum := by
    rw [want_share hF]; unfold wantK; rw [List.take_length]; rfl
  rw [← hw0, ← hw1] at hw
  refine ⟨_, _, (shareV_le hF 0 _).1, (shareV_le hF 1 _).1, hw, hst 0, hst 1, by unfold shareAll; rw [if_pos hc], by unfold shareAll; rw [if_pos hc], fun t h0 h1 => ?_⟩
  unfold atV
  rw [if_pos (by unfold tickB; rw [hc, all_one, show okT t = true from decide_eq_true (by omega)]; rfl)]
  have hu0 : 0 ≤ t % (fuC l sw).major := Int.emod_nonneg _ (by rw [hm]; omega)
  have hu1 : t % (fuC l sw).major < (fuC l sw).major := Int.emod_lt_of_pos _ (by rw [hm]; omega)
  exact full_find l 0 0 _ (fun x hx => by have := h x hx; omega) hu0 (by rw [hm] at hu1 ⊢; omega)
theorem and_one (k : Nat) (h : k ≤ 100) : bits .and .i64 (k : Int) 1 = ((k % 2 : Nat) : Int) := by
  rw [and1]
  omega
theorem fu_at {w : World} {base : Nat} {l : List Int} {sw : Int} {cp cw : Nat} {ap aw : Option Addr} (h1 : w.ownsRow base 44 3 (.slice ap 2 cp) 2 [.string sA, .int .i64 1, .int .i64 0, .string sB, .int .i64 1, .int .i64 0]) (h2 : w.ownsRow base 38 3 (.slice aw l.length cw) l.length ((wfR l 0 0).flatMap winCells)) :
    CfgAt w (fuC l sw) ap none aw cp 0 cw := by
  refine ⟨own_lst h1, Lst.none _ _, ?_, fun p hp => ?_⟩
  · show Lst w aw (wfR l 0 0).length cw _ 3
    rw [wfR_len]
    exact own_lst h2
  · have : p = ⟨sA, 1, 0⟩ ∨ p = ⟨sB, 1, 0⟩ := by simpa [fuC, fullC] using hp
    rcases this with rfl | rfl <;> decide
end Go.Proofs.Ytmbdimcjpdofoaa
