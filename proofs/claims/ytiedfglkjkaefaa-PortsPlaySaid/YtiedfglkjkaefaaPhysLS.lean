/- phys: Load and Store. -/
import Derived.Test.YtiedfglkjkaefaaPhysAt
namespace Go.Proofs.Ytiedfglkjkaefaa
open Go.RowKit




theorem stN_step (f : Nat → Int) (p k : Nat) (v : Int) : (fun j => if j = p + k then byteN v k else stN f p k v j) = stN f p (k + 1) v := by
  funext j
  unfold stN
  by_cases h : j = p + k
  · subst h
    rw [if_pos rfl, if_pos (by omega), Nat.add_sub_cancel_left]
  · rw [if_neg h]
    by_cases h2 : p ≤ j ∧ j < p + k
    · rw [if_pos h2, if_pos (by omega)]
    · rw [if_neg h2, if_neg (by omega)]




end Go.Proofs.Ytiedfglkjkaefaa
