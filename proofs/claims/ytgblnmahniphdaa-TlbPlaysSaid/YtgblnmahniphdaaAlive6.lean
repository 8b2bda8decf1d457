/- trunnionlaw6.alive. -/
import Derived.Test.YtgblnmahniphdaaTlbLaw
namespace Go.Proofs.Ytgblnmahniphdaa
open Go.RowKit
theorem ok_small {n : Int} (h0 : -1000000 ≤ n) (h1 : n ≤ 1000000) : i64ok n := ⟨by omega, by omega⟩
set_option maxHeartbeats 1000000 in
theorem alive6 (w : World) : Calls Try.prog 10 #[] w fun e w' => e = .returned (.bool true) ∧ Chg w w' (fun _ => False) := by
  have HN := TS.new (Chg.refl w (fun _ => False)) 1
  rw [show min (max 1 (1 : Int)) 256 = 1 by omega] at HN
  have hr : putR 1 (putR 1 [] (0, 1) 5) (0, 2) 6 = [((0, 2), 6)] := by decide
  have l1 : look [((0, 2), 6)] (0, 1) = none := by decide
  have l2 : look [((0, 2), 6)] (0, 2) = some 6 := by decide
  have HR := Lib.hid hr
  have HL1 := Lib.hid l1
  have HL2 := Lib.hid l2
  clear hr l1 l2
  go_enter Try.func10, Try.ntmps10
  go_wp2_with fail
  refine HN.mono ?_
  rintro e w1 ⟨t, m, rfl, S1⟩
  clear HN
  go_wp2_with fail
  refine (S1.put 0 1 5 (ok_small (by decide) (by decide)) (ok_small (by decide) (by decide))).mono ?_
  rintro e w2 ⟨rfl, S2⟩
  go_wp2_with fail
  refine (S2.put 0 2 6 (ok_small (by decide) (by decide)) (ok_small (by decide) (by decide))).mono ?_
  rintro e w3 ⟨rfl, S3⟩
  rw [HR.out] at S3
  go_wp2_with fail
  refine (S3.look 0 1 (ok_small (by decide) (by decide)) (ok_small (by decide) (by decide))).mono ?_
  rintro e w4 ⟨rfl, rfl⟩
  rw [HL1.out]
  go_wp2_with fail
  refine (S3.look 0 2 (ok_small (by decide) (by decide)) (ok_small (by decide) (by decide))).mono ?_
  rintro e w4 ⟨rfl, rfl⟩
  rw [HL2.out]
  go_wp2_with fail
  refine S3.tlen.mono ?_
  rintro e w4 ⟨rfl, rfl⟩
  go_wp2_with fail
  go_ret
  obtain ⟨v, T, C⟩ := S3
  exact ⟨rfl, C⟩
end Go.Proofs.Ytgblnmahniphdaa
