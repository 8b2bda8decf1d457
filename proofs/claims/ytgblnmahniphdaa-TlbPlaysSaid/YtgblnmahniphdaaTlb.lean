/- tlb: slices.Delete. -/
import Derived.Test.YtgblnmahniphdaaDel
namespace Go.Proofs.Ytgblnmahniphdaa
open Go.RowKit

theorem zero_key (w : World) : (zeroValue 60).run Try.prog w = .ok (.agg #[.int .i64 0, .int .i64 0]) w := by kernel_rfl

set_option maxHeartbeats 2000000 in
theorem del_any {w : World} {base g cap n : Nat} {xs : List Value} (h : w.ownsRow base 60 2 (.slice (some ⟨g, 0, none⟩) (n + 1) cap) (n + 1) xs) (hx : ∀ u ∈ xs, u.oneCell' = true) (i : Nat) (hi : i ≤ n) :
    Calls Try.prog 25 #[.slice (some ⟨g, 0, none⟩) (n + 1 : Nat) cap, .int .i64 i, .int .i64 ((i : Int) + 1)] w fun e w' =>
      e = .returned (.slice (some ⟨g, 0, none⟩) n cap) ∧ w'.ownsRow base 60 2 (.slice (some ⟨g, 0, none⟩) n cap) n (xs.take (i * 2) ++ xs.drop ((i + 1) * 2)) ∧ Chg w w' (fun k => k = g) := by
  obtain ⟨hc1, hc2, hc3, hc4⟩ := own_cap h
  unfold maxLen at hc2
  obtain ⟨i0, hi0, hz0, hz1, hz2⟩ := info_parts info_key
  have hne : ((i : Int) == (i : Int) + 1) = false := beq_eq_false_iff_ne.2 (by omega)
  have hic : i ≤ cap := by omega
  have hic1 : i + 1 ≤ cap := by omega
  have hin1 : i + 1 ≤ n + 1 := by omega
  have hin0 : (0 : Int) ≤ (i : Int) + 1 := by omega
  have hin2 : (i : Int) + 1 ≤ ((n + 1 : Nat) : Int) := by omega
  have hn1 : n ≤ cap := by omega
  have hn3 : (n : Int) ≤ ((n + 1 : Nat) : Int) := by omega
  have hn4 : ¬ cap = n := by omega
  have hn5 : n ≤ n + 1 := by omega
  have HT : ∃ w', (Builtin.append_ #[56, 56] 56 #[.slice (some ⟨g, 0, none⟩) i cap, .slice (some (if cap = i + 1 then ⟨g, 0, none⟩ else ⟨g, (i + 1) * 2, none⟩)) (n - i) (cap - (i + 1))]).run Try.prog w.drew = .ok (.slice (some ⟨g, 0, none⟩) n cap) w' ∧
      w'.ownsRow base 60 2 (.slice (some ⟨g, 0, none⟩) n cap) n (xs.take (i * 2) ++ xs.drop ((i + 1) * 2)) ∧ Chg w w' (fun k => k = g) := by
    have := run_append_cut (ty := 56) (i := i) (j := i + 1) (c := cap - (i + 1)) (ad := if cap = i + 1 then ⟨g, 0, none⟩ else ⟨g, (i + 1) * 2, none⟩) Try.underlying56 hi0 hz1 (own_drew h) hx (by omega) (by omega) (by
      by_cases e : cap = i + 1
      · left; omega
      · right; rw [if_neg e])
    rw [show n + 1 - (i + 1) = n - i by omega, show i + (n - i) = n by omega] at this
    obtain ⟨w', h1, h2, h3⟩ := this
    exact ⟨w', h1, h2, h3.drewL⟩
  by_cases hcj : cap = i + 1
  · obtain rfl : i = n := by omega
    subst hcj
    rw [if_pos rfl, Nat.sub_self, Nat.sub_self] at HT
    have hz9 : (i : Int) ≤ (i : Int) + 1 := by omega
    clear hn3
    go_enter Try.func25, Try.ntmps25
    go_wp2_with fail
    go_region_law ((refine step_append_of (by rfl) _ _ _ (by rfl) (.slice (some ⟨g, 0, none⟩) i (i + 1)) _ _ (by rfl) (by rfl) _ HT ?_; rintro w3 ⟨HO, HC⟩))
    all_goals
      go_wp2_with (with_reducible refine wpList_clear_of rfl _ 56 rfl _ (.tuple #[]) rfl _ (run_clear_own Try.underlying56 (zero_key _) rfl (by decide) (by decide) HO (m := 1) (c := 1) (by omega) (by omega)) ?_; rintro w4 ⟨HO4, HC4⟩)
      go_ret
      exact ⟨rfl, HO4, HC.trans HC4⟩
  rw [if_neg hcj] at HT
  go_enter Try.func25, Try.ntmps25
  go_wp2_with fail
  go_region_law ((refine step_append_of (by rfl) _ _ _ (by rfl) (.slice (some ⟨g, 0, none⟩) i cap) _ _ (by rfl) (by rfl) _ HT ?_; rintro w3 ⟨HO, HC⟩))
  all_goals
    go_wp2_with (with_reducible refine wpList_clear_of rfl _ 56 rfl _ (.tuple #[]) rfl _ (run_clear_own Try.underlying56 (zero_key _) rfl (by decide) (by decide) HO (m := 1) (c := cap - n) (by omega) (by omega)) ?_; rintro w4 ⟨HO4, HC4⟩)
    go_ret
    exact ⟨rfl, HO4, HC.trans HC4⟩
end Go.Proofs.Ytgblnmahniphdaa
