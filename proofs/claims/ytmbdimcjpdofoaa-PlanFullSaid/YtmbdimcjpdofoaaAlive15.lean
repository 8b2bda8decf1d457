/- trunnionlaw15.alive. -/
import Derived.Test.YtmbdimcjpdofoaaPlan3
import Derived.Test.YtmbdimcjpdofoaaLaw14
namespace Go.Proofs.Ytmbdimcjpdofoaa
open Go.RowKit

def plC : Cfg := ⟨5, 10, 1, [⟨sA, 1, 0⟩], [], [⟨0, 5, 0⟩]⟩
theorem pl_chk : chk plC = 0 := by
  have h1 : partsOk plC = true := by decide +kernel
  unfold chk
  rw [h1]
  decide +kernel
theorem pl_run10 : runsV plC 10 = (0, false) := by
  unfold runsV atV tickB
  rw [pl_chk]
  decide +kernel
theorem pl_run11 : runsV plC 11 = (0, true) := by
  unfold runsV atV tickB
  rw [pl_chk]
  decide +kernel
theorem pl_steps : stepsV plC 0 0 20 = 8 := by
  unfold stepsV tickB
  rw [pl_chk]
  decide +kernel

set_option maxHeartbeats 1000000 in
theorem alive15 (w : World) : Calls Try.prog 10 #[] w fun e w' => e = .returned (.bool true) ∧ Chg w w' (fun _ => False) := by
  go_enter Try.func10, Try.ntmps10
  go_wp2_with fail
  refine (one_any _).mono ?_
  rintro e w1 ⟨p, q, rfl, H1⟩
  have y0 := H1.qb.cell 0
  have y1 := H1.qb.cell 1
  have y2 := H1.qb.cell 2
  have fq := H1.qb.frozen 1
  have hq := H1.qb.lt
  have hsz : (w1.setCell ⟨q, 1, none⟩ (.int .i64 5)).heap.size = w1.heap.size := by simp
  have HB := Box.new (w1.setCell ⟨q, 1, none⟩ (.int .i64 5)) 26 #[.int .i64 5, .int .i64 10, .int .i64 1, .slice (some ⟨p, 0, none⟩) 1 1, .slice none 0 0, .slice (some ⟨q, 0, none⟩) 1 1]
  rw [hsz] at HB
  have HA : CfgAt ((w1.setCell ⟨q, 1, none⟩ (.int .i64 5)).alloc (.cells #[.int .i64 5, .int .i64 10, .int .i64 1, .slice (some ⟨p, 0, none⟩) 1 1, .slice none 0 0, .slice (some ⟨q, 0, none⟩) 1 1] 26)) plC (some ⟨p, 0, none⟩) none (some ⟨q, 0, none⟩) 1 0 1 :=
    ⟨((H1.pb.far H1.pq (.int .i64 5)).alloc _).lst 1 1 3 _ rfl rfl (by decide) (by unfold maxLen; omega), Lst.none _ _, ((H1.qb.set 1 (.int .i64 5)).alloc _).lst 1 1 3 _ rfl rfl (by decide) (by unfold maxLen; omega), fun p hp => by
      have : p = ⟨sA, 1, 0⟩ := by simpa [plC] using hp
      subst this
      decide⟩
  have C2 : Chg w ((w1.setCell ⟨q, 1, none⟩ (.int .i64 5)).alloc (.cells #[.int .i64 5, .int .i64 10, .int .i64 1, .slice (some ⟨p, 0, none⟩) 1 1, .slice none 0 0, .slice (some ⟨q, 0, none⟩) 1 1] 26)) (fun _ => False) := (H1.chg.setCell (fun h => absurd h (by have := H1.hq; show ¬ q < _; omega)) _).alloc _
  go_upto_region 4 with fail
  clear y0 y1 y2 fq hq hsz
  generalize ((w1.setCell ⟨q, 1, none⟩ (.int .i64 5)).alloc (.cells #[.int .i64 5, .int .i64 10, .int .i64 1, .slice (some ⟨p, 0, none⟩) 1 1, .slice none 0 0, .slice (some ⟨q, 0, none⟩) 1 1] 26)) = w2 at *
  have x0 := HB.cell 0
  have x1 := HB.cell 1
  have x2 := HB.cell 2
  have x3 := HB.cell 3
  have x4 := HB.cell 4
  have x5 := HB.cell 5
  go_wp2_with fail
  refine (runs_any _ HA 10).mono ?_
  rintro e w3 ⟨rfl, C3⟩
  rw [pl_run10]
  clear x0 x1 x2 x3 x4 x5
  have B3 := HB.chg C3 (fun h => h)
  have x0 := B3.cell 0
  have x1 := B3.cell 1
  have x2 := B3.cell 2
  have x3 := B3.cell 3
  have x4 := B3.cell 4
  have x5 := B3.cell 5
  go_wp2_with fail
  refine (runs_any _ (HA.keep C3) 11).mono ?_
  rintro e w4 ⟨rfl, C4⟩
  rw [pl_run11]
  clear x0 x1 x2 x3 x4 x5
  have B4 := B3.chg C4 (fun h => h)
  have x0 := B4.cell 0
  have x1 := B4.cell 1
  have x2 := B4.cell 2
  have x3 := B4.cell 3
  have x4 := B4.cell 4
  have x5 := B4.cell 5
  go_wp2_with fail
  refine (steps_any _ ((HA.keep C3).keep C4) 0 0 20).mono ?_
  rintro e w5 ⟨rfl, C5⟩
  rw [pl_steps]
  clear x0 x1 x2 x3 x4 x5
  go_wp2_with fail
  go_ret
  exact ⟨rfl, ((C2.trans C3).trans C4).trans C5⟩
end Go.Proofs.Ytmbdimcjpdofoaa
