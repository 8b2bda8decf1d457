/- shadow: a range is its two halves; SameEntries of one list. -/
import Derived.Test.YtadcmelbcahecaaShP
namespace Go.Proofs.Ytadcmelbcahecaa
open Go.RowKit

theorem ents_split (n : Nat) (f : Nat → Int) (ptbr pages first fr a b : Int) (h0 : 0 ≤ fr) (h1 : fr ≤ 1048576) (a0 : 0 ≤ a) (a1 : a ≤ 1500) (b0 : 0 ≤ b) (b1 : b ≤ 1500) :
    entsL n f ptbr pages first fr (a + b) = entsL n f ptbr pages first fr a ++ entsL n f ptbr pages first (fr + a) b := by
  have e1 : shLo fr = fr := by unfold shLo; rw [if_neg (by omega)]; omega
  have e2 : shLo (fr + a) = min (fr + a) 1048576 := by unfold shLo; rw [if_neg (by omega)]
  have c1 : (shC fr a : Int) = min (fr + a) 1048576 - fr := by unfold shC shHi shN; rw [e1, if_neg (by omega)]; omega
  have c2 : (shC (fr + a) b : Int) = min (fr + a + b) 1048576 - min (fr + a) 1048576 := by unfold shC shHi shN; rw [e2, if_neg (by omega)]; omega
  have c3 : (shC fr (a + b) : Int) = min (fr + a + b) 1048576 - fr := by unfold shC shHi shN; rw [e1, if_neg (by omega)]; omega
  unfold entsL
  rw [show shC fr (a + b) = shC fr a + shC (fr + a) b by omega, mpL_add, List.map_append, show shLo fr + (shC fr a : Int) = shLo (fr + a) by omega]

theorem mpL_rise (g : Int → Int × Bool) (pages lo : Int) : ∀ k, (mpL g pages lo k).Pairwise (fun x y => x.1 < y.1)
  | 0 => List.Pairwise.nil
  | k + 1 => by
    unfold mpL
    rw [List.pairwise_append]
    refine ⟨mpL_rise g pages lo k, ?_, fun x hx y hy => ?_⟩
    · split
      · exact List.pairwise_singleton _ _
      · exact List.Pairwise.nil
    · obtain ⟨j, hj, hx1, _⟩ := mpL_mem hx
      split at hy
      · have := List.mem_singleton.1 hy
        subst this
        show x.1 < lo + k
        omega
      · cases hy
theorem ents_rise (n : Nat) (f : Nat → Int) (ptbr pages first fr cnt : Int) (i : Nat) (h : i + 1 < (entsL n f ptbr pages first fr cnt).length) : (entsL n f ptbr pages first fr cnt)[i].v < (entsL n f ptbr pages first fr cnt)[i + 1].v := by
  have hp := mpL_rise (mvE n f ptbr) (max 0 pages) (shLo fr) (shC fr cnt)
  rw [List.pairwise_iff_getElem] at hp
  have := hp i (i + 1) (by simp [entsL] at h; omega) (by simpa [entsL] using h) (by omega)
  simp only [entsL, List.getElem_map]
  exact this

set_option maxRecDepth 100000 in
set_option maxHeartbeats 2000000 in
theorem same_ents {ao0 ao1 : Option Addr} {cap0 cap1 : Nat} (L : List EntD) (w : World) (l0 : Lst w ao0 L.length cap0 (L.flatMap entCells) 3) (l1 : Lst w ao1 L.length cap1 (L.flatMap entCells) 3) :
    Calls Try.prog 18 #[.slice ao0 L.length cap0, .slice ao1 L.length cap1] w fun e w' => e = .returned (.bool true) ∧ Chg w w' (fun _ => False) := by
  have hm1 := l0.mx
  have hm2 := l0.le
  have hm3 := l1.le
  unfold maxLen at hm1
  go_enter Try.func18, Try.ntmps18
  go_wp2_with fail
  go_loopg [5] L.length (fun g s5 wr => ∃ k : Nat, g + k = L.length ∧ s5 = .int .i64 k ∧ Chg w wr (fun _ => False))
  case atStart => exact ⟨0, rfl, rfl, Chg.refl _ _⟩
  case round =>
    obtain ⟨k, hk, rfl, Ck⟩ := hrel
    have HK := Lib.hid hk
    have l0 := l0.chg Ck (fun _ _ h => h)
    have l1 := l1.chg Ck (fun _ _ h => h)
    by_cases hlt : k < L.length
    · obtain ⟨g0, o0, rfl⟩ := l0.pos (by omega)
      obtain ⟨g1, o1, rfl⟩ := l1.pos (by omega)
      have c00 := Lst.cell0 (n := 3) (fun _ => rfl) l0 k (by decide) hlt rfl
      have c01 := Lst.cell (n := 3) (fun _ => rfl) l0 k 1 (by decide) hlt rfl
      have c02 := Lst.cell (n := 3) (fun _ => rfl) l0 k 2 (by decide) hlt rfl
      have c10 := Lst.cell0 (n := 3) (fun _ => rfl) l1 k (by decide) hlt rfl
      have c11 := Lst.cell (n := 3) (fun _ => rfl) l1 k 1 (by decide) hlt rfl
      have c12 := Lst.cell (n := 3) (fun _ => rfl) l1 k 2 (by decide) hlt rfl
      obtain ⟨x, hx⟩ : ∃ x, L[k] = x := ⟨_, rfl⟩
      rw [hx] at c00 c01 c02 c10 c11 c12
      have hk0 : (0 : Int) ≤ (k : Int) := by omega
      have hk1 : (k : Int) < L.length := by omega
      clear hx hk l0 l1
      go_wp2_with fail
      go_quiet (fail)
      go_wp2_with fail
      go_roundg (gk - 1)
      case measure => have := HK.out; omega
      case rel => exact ⟨k + 1, by have := HK.out; omega, by go_num, Ck.drewN _⟩
    · obtain rfl : k = L.length := by omega
      clear hk
      go_wp2_with fail
      go_ret
      exact ⟨rfl, Ck⟩
end Go.Proofs.Ytadcmelbcahecaa
