/- ports: what takes a message; Read. -/
import Derived.Test.YtiedfglkjkaefaaPo7
namespace Go.Proofs.Ytiedfglkjkaefaa
open Go.RowKit

theorem take1_any (w : World) : Calls Try.prog 51 #[] w fun e w' => e = .returned (.tuple #[]) ∧ w = w' := by
  go_enter Try.func51, Try.ntmps51
  go_wp2_with fail
  go_returns
  exact ⟨rfl, rfl⟩

/-- The slice value behind its first element. -/
def cutV (g o n cap : Nat) : Value := .slice (if cap = 1 then some ⟨g, o, none⟩ else some ⟨g, o + 1, none⟩) (n - 1) (cap - 1)
theorem cutV_block (g o n cap : Nat) : (cutV g o n cap).ownBlock = some g := by unfold cutV; split <;> rfl
theorem QRow.cut {w : World} {g o n cap : Nat} {ms : List Value} (h : QRow w (.slice (some ⟨g, o, none⟩) n cap) ms) (h0 : 0 < n) : QRow w (cutV g o n cap) ms.tail := by
  obtain ⟨cur, hb, rfl, h1, h2, h3, h4, _⟩ := h.cells
  have hl : ms.tail.length = ms.length - 1 := by simp
  unfold cutV
  by_cases hc : cap = 1
  · rw [if_pos hc]
    have : ms.tail = [] := List.eq_nil_of_length_eq_zero (by omega)
    refine .inr ⟨g, o, cap - 1, cur, by rw [hl], hb, by omega, by omega, by omega, ?_⟩
    rw [this]
    rfl
  · rw [if_neg hc]
    refine .inr ⟨g, o + 1, cap - 1, cur, by rw [hl], hb, by omega, by omega, by omega, ?_⟩
    rw [hl]
    conv => rhs; rw [← h4]
    rw [← List.drop_one, List.drop_take, List.drop_drop]

/-- What a queue's take leaves. -/
structure TakeQ (w w' : World) (b : Nat) (d : Int) (v : Value) (ms : List Value) (v' : Value) : Prop where
  box : Box w' b 82 #[.int .i64 d, v']
  row : QRow w' v' ms.tail
  own : v'.ownBlock = v.ownBlock
  chg : Chg w w' (fun k => k = b)

theorem takeQ_of {w : World} {b g o n cap : Nat} {d : Int} {ms : List Value} (B : Box w b 82 #[.int .i64 d, .slice (some ⟨g, o, none⟩) n cap]) (R : QRow w (cutV g o n cap) ms.tail) (hgne : g ≠ b) (v' : Value) (h : v' = cutV g o n cap) :
    TakeQ w (w.setCell ⟨b, 1, none⟩ v').drew b d (.slice (some ⟨g, o, none⟩) n cap) ms (cutV g o n cap) := by
  subst h
  have C : Chg w (w.setCell ⟨b, 1, none⟩ (cutV g o n cap)).drew (fun k => k = b) := ((Chg.refl w (fun k => k = b)).setCell (p := ⟨b, 1, none⟩) (fun _ => rfl) _).drew
  exact ⟨B.set 1 _, R.chg C (fun g' hg h => hgne (by rw [cutV_block] at hg; injection hg with hg; exact hg.trans h)), cutV_block g o n cap, C⟩

set_option maxRecDepth 100000 in
set_option maxHeartbeats 2000000 in
theorem take2_any {w : World} {t b g o n cap : Nat} {d : Int} {ms : List Value} (T : Box w t 80 #[.pointer (some ⟨b, 0, none⟩)]) (B : Box w b 82 #[.int .i64 d, .slice (some ⟨g, o, none⟩) n cap]) (R : QRow w (.slice (some ⟨g, o, none⟩) n cap) ms) (h0 : 0 < n) :
    Calls Try.prog 52 #[.pointer (some ⟨t, 0, none⟩)] w fun e w' => e = .returned (.tuple #[]) ∧ TakeQ w w' b d (.slice (some ⟨g, o, none⟩) n cap) ms (cutV g o n cap) := by
  obtain ⟨cur, hgb, -, h1, h2, -⟩ := R.cells
  have hgne : g ≠ b := box_ty hgb B (by decide)
  have HR := Lib.hid (R.cut h0)
  have t0 := T.cell 0
  have y1 := B.cell 1
  have z1 := B.frozen 1
  have hcv : ∀ x, cutV g o n cap = x → Hid (cutV g o n cap = x) := fun x h => h
  have HB := Lib.hid B
  have hn1 : (1 : Int) ≤ (n : Int) := by omega
  have hnc : (n : Int) ≤ (cap : Int) := by omega
  unfold maxLen at h2
  clear hgb R T B hcv
  go_enter Try.func52, Try.ntmps52
  refine wp_region_noPanic ?_
  refine wp_region_L 8 (fun w' => w'.cell? ⟨t, 0, none⟩ = some (.pointer (some ⟨b, 0, none⟩)) ∧ w'.cell? ⟨b, 1, none⟩ = some (.slice (some ⟨g, o, none⟩) n cap)) (by kernel_rfl) (⟨t0, y1⟩) (fun hHeld => ?_)
  refine wpAnyL_take (i := 0) (oi := ?oi0) (v := ?v0) ?hi0 (by kernel_rfl) (by kernel_rfl) (by kernel_rfl) (by kernel_rfl) (fun _ _ _ h => h) (Or.inl ⟨?hw0, ?hy0⟩) (by assumption) ?hr0
  case hi0 => simp only [List.getElem?_toArray, List.getElem?_cons_succ, List.getElem?_cons_zero]; rfl
  case hw0 => rfl
  case hy0 => intro wq hSq; (try dsimp only at hSq); go_simp; (try with_reducible rfl)
  try simp only [Act.put, List.setIfInBounds_toArray, List.set_cons_zero, List.set_cons_succ]
  refine wpAnyL_take (i := 1) (oi := ?oi1) (v := ?v1) ?hi1 (by kernel_rfl) (by kernel_rfl) (by kernel_rfl) (by kernel_rfl) (fun _ _ _ h => h) (Or.inl ⟨?hw1, ?hy1⟩) (by assumption) ?hr1
  case hi1 => simp only [List.getElem?_toArray, List.getElem?_cons_succ, List.getElem?_cons_zero]; rfl
  case hw1 => rfl
  case hy1 => intro wq hSq; (try dsimp only at hSq); go_simp; (try with_reducible rfl)
  try simp only [Act.put, List.setIfInBounds_toArray, List.set_cons_zero, List.set_cons_succ]
  refine wpAnyL_take (i := 2) (oi := ?oi2) (v := ?v2) ?hi2 (by kernel_rfl) (by kernel_rfl) (by kernel_rfl) (by kernel_rfl) (fun _ _ _ h => h) (Or.inl ⟨?hw2, ?hy2⟩) (by assumption) ?hr2
  case hi2 => simp only [List.getElem?_toArray, List.getElem?_cons_succ, List.getElem?_cons_zero]; rfl
  case hw2 => rfl
  case hy2 => intro wq hSq; (try dsimp only at hSq); go_simp; (try with_reducible rfl)
  try simp only [Act.put, List.setIfInBounds_toArray, List.set_cons_zero, List.set_cons_succ]
  refine wpAnyL_take (i := 3) (oi := ?oi3) (v := ?v3) ?hi3 (by kernel_rfl) (by kernel_rfl) (by kernel_rfl) (by kernel_rfl) (fun _ _ _ h => h) (Or.inl ⟨?hw3, ?hy3⟩) (by assumption) ?hr3
  case hi3 => simp only [List.getElem?_toArray, List.getElem?_cons_succ, List.getElem?_cons_zero]; rfl
  case hw3 => rfl
  case hy3 => intro wq hSq; (try dsimp only at hSq); go_simp; (try with_reducible rfl)
  try simp only [Act.put, List.setIfInBounds_toArray, List.set_cons_zero, List.set_cons_succ]
  refine wpAnyL_take (i := 4) (oi := ?oi4) (v := ?v4) ?hi4 (by kernel_rfl) (by kernel_rfl) (by kernel_rfl) (by kernel_rfl) (fun _ _ _ h => h) (Or.inl ⟨?hw4, ?hy4⟩) (by assumption) ?hr4
  case hi4 => simp only [List.getElem?_toArray, List.getElem?_cons_succ, List.getElem?_cons_zero]; rfl
  case hw4 => rfl
  case hy4 => intro wq hSq; (try dsimp only at hSq); go_simp; (try with_reducible rfl)
  try simp only [Act.put, List.setIfInBounds_toArray, List.set_cons_zero, List.set_cons_succ]
  refine wpAnyL_take (i := 5) (oi := ?oi5) (v := ?v5) ?hi5 (by kernel_rfl) (by kernel_rfl) (by kernel_rfl) (by kernel_rfl) (fun _ _ _ h => h) (Or.inl ⟨?hw5, ?hy5⟩) (by assumption) ?hr5
  case hi5 => simp only [List.getElem?_toArray, List.getElem?_cons_succ, List.getElem?_cons_zero]; rfl
  case hw5 => rfl
  case hy5 => intro wq hSq; (try dsimp only at hSq); go_simp; (try with_reducible rfl)
  try simp only [Act.put, List.setIfInBounds_toArray, List.set_cons_zero, List.set_cons_succ]
  refine wpAnyL_take (i := 6) (oi := ?oi6) (v := ?v6) ?hi6 (by kernel_rfl) (by kernel_rfl) (by kernel_rfl) (by kernel_rfl) (fun _ _ _ h => h) (Or.inl ⟨?hw6, ?hy6⟩) (by assumption) ?hr6
  case hi6 => simp only [List.getElem?_toArray, List.getElem?_cons_succ, List.getElem?_cons_zero]; rfl
  case hw6 => rfl
  case hy6 => intro wq hSq; (try dsimp only at hSq); go_simp; (try with_reducible rfl)
  try simp only [Act.put, List.setIfInBounds_toArray, List.set_cons_zero, List.set_cons_succ]
  refine wpAnyL_take (i := 7) (oi := ?oi7) (v := ?v7) ?hi7 (by kernel_rfl) (by kernel_rfl) (by kernel_rfl) (by kernel_rfl) (fun _ _ _ h => h) (Or.inl ⟨?hw7, ?hy7⟩) (by assumption) ?hr7
  case hi7 => simp only [List.getElem?_toArray, List.getElem?_cons_succ, List.getElem?_cons_zero]; rfl
  case hw7 => rfl
  case hy7 => intro wq hSq; (try dsimp only at hSq); go_simp; (try with_reducible rfl)
  try simp only [Act.put, List.setIfInBounds_toArray, List.set_cons_zero, List.set_cons_succ]
  refine wpAnyL_ready (rs := [8]) (by kernel_rfl) (by simp) ?_
  refine AllReadyL.cons rfl (fun K hK => ?_) AllReadyL.nil
  go_simp
  refine hK.out _ _ (.inr (by kernel_rfl)) (fun _ => ?_)
  clear hK K
  try simp only [Act.put, List.setIfInBounds_toArray, List.set_cons_zero, List.set_cons_succ]
  refine wpAnyL_done (by kernel_rfl) ?_ _
  refine NoPanic.normal ?_
  clear hHeld
  go_wp2_with fail
  all_goals go_returns
  all_goals refine ⟨rfl, ?_⟩
  · have hc : cap = 1 := by assumption
    subst hc
    exact takeQ_of HB.out HR.out hgne _ (by simp [cutV])
  · exact takeQ_of HB.out HR.out hgne _ (by unfold cutV; rw [if_neg (by assumption)])
end Go.Proofs.Ytiedfglkjkaefaa
