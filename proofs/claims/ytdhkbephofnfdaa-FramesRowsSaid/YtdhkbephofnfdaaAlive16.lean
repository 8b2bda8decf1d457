/- trunnionlaw16.alive. -/
import Derived.Test.YtdhkbephofnfdaaFrames
import Derived.Test.YtdhkbephofnfdaaLaw14
namespace Go.Proofs.Ytdhkbephofnfdaa
open Go.RowKit

theorem one_first : firstV oneC 0 = 4 := by
  unfold firstV
  rw [one_chk]
  rfl
theorem one_guest4 : guestV oneC 4 = (0, 0) := by
  unfold guestV
  rw [one_chk]
  rfl
theorem one_guest3 : guestV oneC 3 = (-1, -1) := by
  unfold guestV
  rw [one_chk]
  rfl

set_option maxHeartbeats 1000000 in
theorem alive16 (w : World) : Calls Try.prog 19 #[] w fun e w' => e = .returned (.bool true) ∧ Chg w w' (fun _ => False) := by
  go_enter Try.func19, Try.ntmps19
  go_wp2_with fail
  refine (one_any _).mono ?_
  rintro e w1 ⟨p, q, rfl, H1⟩
  go_wp2_with fail
  refine (first_any _ (one_at H1) 0).mono ?_
  rintro e w2 ⟨rfl, C2⟩
  rw [one_first]
  go_wp2_with fail
  refine (one_any _).mono ?_
  rintro e w3 ⟨p3, q3, rfl, H3⟩
  go_wp2_with fail
  refine (owner_any _ (one_at H3) 4).mono ?_
  rintro e w4 ⟨rfl, C4⟩
  rw [one_guest4]
  go_wp2_with fail
  refine (one_any _).mono ?_
  rintro e w5 ⟨p5, q5, rfl, H5⟩
  go_wp2_with fail
  refine (owner_any _ (one_at H5) 3).mono ?_
  rintro e w6 ⟨rfl, C6⟩
  rw [one_guest3]
  go_wp2_with fail
  go_ret
  exact ⟨rfl, ((((H1.chg.trans C2).trans H3.chg).trans C4).trans H5.chg).trans C6⟩
end Go.Proofs.Ytdhkbephofnfdaa
