/- shadow: what Tables and Build tell, of every memory. -/
import Derived.Test.YtadcmelbcahecaaShF
namespace Go.Proofs.Ytadcmelbcahecaa
open Go.RowKit Go.Shelf

theorem compact_sub (zs : List Int) : List.Sublist (Lib.compact zs) zs := by
  have h : (List.range zs.length).map (fun j => zs.toArray[j]!) = zs := by
    apply List.ext_getElem
    · simp
    · intro i h1 h2
      simp [h2]
  have h2 : List.Sublist (Lib.compact zs) ((List.range zs.length).map (fun j => zs.toArray[j]!)) := (List.filter_sublist).map _
  rw [h] at h2
  exact h2
theorem tabL_sorted (n : Nat) (f : Nat → Int) (ptbr pages : Int) : (tabL n f ptbr pages).Pairwise (· ≤ ·) := by
  unfold tabL
  split
  · exact List.Pairwise.nil
  · have h := List.pairwise_mergeSort (le := fun x y : Int => decide (x ≤ y)) (fun a b c h1 h2 => by simp at *; omega) (fun a b => by simp; omega) (ptbr % 1048576 :: dirsL n f (ptbr % 1048576) 1024)
    have h2 := h.sublist ((List.filter_sublist (p := fun x => !decide (pages ≤ x))).trans (compact_sub _))
    exact h2.imp (fun h => by simpa using h)
theorem tabL_len (n : Nat) (f : Nat → Int) (ptbr pages : Int) : (tabL n f ptbr pages).length ≤ 1025 := by
  unfold tabL
  split
  · simp
  · refine Nat.le_trans (List.length_filter_le _ _) (Nat.le_trans (Lib.compact_length_le _) ?_)
    rw [List.length_mergeSort]
    have := dirsL_le n f (ptbr % 1048576) 1024
    simp; omega

def shC (fr cnt : Int) : Nat := (shHi fr cnt - shLo fr).toNat
theorem shC_eq (fr cnt : Int) : shHi fr cnt = shLo fr + shC fr cnt := by
  unfold shC shHi
  have h1 : shLo fr ≤ 1048576 := by unfold shLo; split <;> omega
  have h2 : 0 ≤ shN fr cnt := by unfold shN; split <;> omega
  omega
/-- The entries that Build tells. -/
def entsL (n : Nat) (f : Nat → Int) (ptbr pages first fr cnt : Int) : List EntD :=
  (mpL (mvE n f ptbr) (max 0 pages) (shLo fr) (shC fr cnt)).map (shEnt (tabL n f ptbr (max 0 pages)) first)

theorem build_any {a b n : Nat} {f : Nat → Int} {w : World} (M : Mem 74 w a b n f) (ptbr pages first fr cnt : Int) :
    Calls Try.prog 15 #[.iface 24 (.pointer (some ⟨a, 0, none⟩)), .int .i64 ptbr, .int .i64 pages, .int .i64 first, .int .i64 fr, .int .i64 cnt] w fun e W' => ∃ v, e = .returned v ∧ W'.ownsRow w.heap.size 35 3 v (entsL n f ptbr pages first fr cnt).length ((entsL n f ptbr pages first fr cnt).flatMap entCells) ∧ Chg w W' (fun _ => False) := by
  refine (callsIn_wide (n := 4)).1 ?_
  have hl := tabL_len n f ptbr (max 0 pages)
  exact build_in Fence.wide 4 trivial trivial trivial trivial trivial trivial trivial rfl (Nat.le_refl _) a b n f ptbr pages first fr cnt (tabL n f ptbr (max 0 pages))
    (fun m v wx Mx => callsIn_wide.2 (map_any Mx ptbr v)) (fun m wx Mx => callsIn_wide.2 (tables_any Mx ptbr (max 0 pages))) (fun m wx => callsIn_wide.2 (span_any fr cnt wx))
    (fun m wx ao cap x h => callsIn_wide.2 (search_any _ (tabL_sorted n f ptbr _) (by omega) x wx h)) w M _ (shC fr cnt) (shC_eq fr cnt) rfl

/-- A list of entries that a call has made. -/
structure EntsAt (w : World) (base : Nat) (ao : Option Addr) (cap : Nat) (L : List EntD) : Prop where
  own : w.ownsRow base 35 3 (.slice ao L.length cap) L.length (L.flatMap entCells)
  lst : Lst w ao L.length cap (L.flatMap entCells) 3
  at_ : ∀ ad, ao = some ad → ∃ g, ad = ⟨g, 0, none⟩ ∧ base ≤ g ∧ g < w.heap.size
theorem build_lst {a b n : Nat} {f : Nat → Int} {w : World} (M : Mem 74 w a b n f) (ptbr pages first fr cnt : Int) (L : List EntD) (hL : entsL n f ptbr pages first fr cnt = L) :
    Calls Try.prog 15 #[.iface 24 (.pointer (some ⟨a, 0, none⟩)), .int .i64 ptbr, .int .i64 pages, .int .i64 first, .int .i64 fr, .int .i64 cnt] w fun e W' => ∃ ao cap, e = .returned (.slice ao L.length cap) ∧ EntsAt W' w.heap.size ao cap L ∧ Chg w W' (fun _ => False) := by
  subst hL
  refine (build_any M ptbr pages first fr cnt).mono ?_
  rintro e W' ⟨v, rfl, ho, hc⟩
  obtain ⟨ao, cap, rfl, h1, h2, h3, h4⟩ := own_form ho
  exact ⟨ao, cap, rfl, ⟨ho, own_lst ho, h4⟩, hc⟩
end Go.Proofs.Ytadcmelbcahecaa
