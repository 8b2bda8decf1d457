/- image.Check and the reference's CheckImage. -/
import Derived.Test.YtgblnmahniphdaaImg3
namespace Go.Proofs.Ytgblnmahniphdaa
open Go.RowKit

/-- What is said of an image. -/
def chkI (e : Int) (m : Nat) : Int := if e < 0 ∨ 4294967295 < e ∨ ¬ e % 4 = 0 then 14 else if 1048576 < m then 2 else 0

set_option maxHeartbeats 800000 in
theorem icheck_any (e : Int) (m c : Nat) (ao : Option Addr) (w : World) :
    Calls Try.prog 18 #[.agg #[.int .i64 e, .slice ao m c]] w fun r w' => r = .returned (.int .i64 (chkI e m)) ∧ Chg w w' (fun _ => False) := by
  have a3 := and3 e
  have hm0 : (0 : Int) ≤ (m : Int) := by omega
  by_cases h1 : e < 0
  · have HC := Lib.hid (show chkI e m = 14 by unfold chkI; rw [if_pos (.inl h1)])
    have d1 : decide (e < 0) = true := decide_eq_true h1
    clear h1
    go_enter Try.func18, Try.ntmps18
    go_wp2_with fail
    go_ret
    exact ⟨by rw [HC.out]; rfl, (Chg.refl w _).alloc _⟩
  have d1 : decide (e < 0) = false := decide_eq_false h1
  by_cases h2 : 4294967295 < e
  · have HC := Lib.hid (show chkI e m = 14 by unfold chkI; rw [if_pos (.inr (.inl h2))])
    have d2 : decide (4294967295 < e) = true := decide_eq_true h2
    clear h1 h2
    go_enter Try.func18, Try.ntmps18
    go_wp2_with fail
    go_ret
    exact ⟨by rw [HC.out]; rfl, (Chg.refl w _).alloc _⟩
  have d2 : decide (4294967295 < e) = false := decide_eq_false h2
  by_cases h3 : e % 4 = 0
  case neg =>
    have HC := Lib.hid (show chkI e m = 14 by unfold chkI; rw [if_pos (.inr (.inr h3))])
    have d3 : (e % 4 != 0) = true := bne_iff_ne.2 h3
    clear h1 h2 h3
    go_enter Try.func18, Try.ntmps18
    go_wp2_with fail
    go_ret
    exact ⟨by rw [HC.out]; rfl, (Chg.refl w _).alloc _⟩
  have d3 : (e % 4 != 0) = false := by rw [bne_eq_false_iff_eq]; exact h3
  by_cases h4 : 1048576 < m
  · have HC := Lib.hid (show chkI e m = 2 by unfold chkI; rw [if_neg (by omega), if_pos h4])
    have d4 : decide ((1048576 : Int) < (m : Int)) = true := decide_eq_true (by omega)
    clear h1 h2 h3 h4
    go_enter Try.func18, Try.ntmps18
    go_wp2_with fail
    go_ret
    exact ⟨by rw [HC.out]; rfl, (Chg.refl w _).alloc _⟩
  · have HC := Lib.hid (show chkI e m = 0 by unfold chkI; rw [if_neg (by omega), if_neg h4])
    have d4 : decide ((1048576 : Int) < (m : Int)) = false := decide_eq_false (by omega)
    clear h1 h2 h3 h4
    go_enter Try.func18, Try.ntmps18
    go_wp2_with fail
    go_ret
    exact ⟨by rw [HC.out]; rfl, (Chg.refl w _).alloc _⟩
set_option maxHeartbeats 800000 in
theorem rcheckI_any (e : Int) (m c : Nat) (ao : Option Addr) (w : World) :
    Calls Try.prog 22 #[.agg #[.int .i64 e, .slice ao m c]] w fun r w' => r = .returned (.int .i64 (chkI e m)) ∧ Chg w w' (fun _ => False) := by
  have hm0 : (0 : Int) ≤ (m : Int) := by omega
  by_cases h1 : e < 0
  · have HC := Lib.hid (show chkI e m = 14 by unfold chkI; rw [if_pos (.inl h1)])
    have d1 : decide (e < 0) = true := decide_eq_true h1
    clear h1
    go_enter Try.func22, Try.ntmps22
    go_wp2_with fail
    go_ret
    exact ⟨by rw [HC.out]; rfl, (Chg.refl w _).alloc _⟩
  have d1 : decide (e < 0) = false := decide_eq_false h1
  by_cases h2 : 4294967295 < e
  · have HC := Lib.hid (show chkI e m = 14 by unfold chkI; rw [if_pos (.inr (.inl h2))])
    have d2 : decide (4294967295 < e) = true := decide_eq_true h2
    clear h1 h2
    go_enter Try.func22, Try.ntmps22
    go_wp2_with fail
    go_ret
    exact ⟨by rw [HC.out]; rfl, (Chg.refl w _).alloc _⟩
  have d2 : decide (4294967295 < e) = false := decide_eq_false h2
  by_cases h3 : e % 4 = 0
  case neg =>
    have HC := Lib.hid (show chkI e m = 14 by unfold chkI; rw [if_pos (.inr (.inr h3))])
    have d3 : (e.tmod 4 != 0) = true := bne_iff_ne.2 (by rw [Int.tmod_eq_emod_of_nonneg (by omega)]; exact h3)
    clear h1 h2 h3
    go_enter Try.func22, Try.ntmps22
    go_wp2_with fail
    go_ret
    exact ⟨by rw [HC.out]; rfl, (Chg.refl w _).alloc _⟩
  have d3 : (e.tmod 4 != 0) = false := by rw [bne_eq_false_iff_eq, Int.tmod_eq_emod_of_nonneg (by omega)]; exact h3
  by_cases h4 : 1048576 < m
  · have HC := Lib.hid (show chkI e m = 2 by unfold chkI; rw [if_neg (by omega), if_pos h4])
    have d4 : decide ((1048576 : Int) < (m : Int)) = true := decide_eq_true (by omega)
    clear h1 h2 h3 h4
    go_enter Try.func22, Try.ntmps22
    go_wp2_with fail
    go_ret
    exact ⟨by rw [HC.out]; rfl, (Chg.refl w _).alloc _⟩
  · have HC := Lib.hid (show chkI e m = 0 by unfold chkI; rw [if_neg (by omega), if_neg h4])
    have d4 : decide ((1048576 : Int) < (m : Int)) = false := decide_eq_false (by omega)
    clear h1 h2 h3 h4
    go_enter Try.func22, Try.ntmps22
    go_wp2_with fail
    go_ret
    exact ⟨by rw [HC.out]; rfl, (Chg.refl w _).alloc _⟩
end Go.Proofs.Ytgblnmahniphdaa
