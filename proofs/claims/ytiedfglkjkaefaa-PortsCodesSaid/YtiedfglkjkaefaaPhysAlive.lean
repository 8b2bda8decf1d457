/- trunnionlaw4.alive; Load and Store at what is known. -/
import Derived.Test.YtiedfglkjkaefaaPhysNew
namespace Go.Proofs.Ytiedfglkjkaefaa
open Go.RowKit

theorem pgN_one : pgN 1 = 4096 := rfl
theorem pgN_two : pgN 2 = 8192 := rfl
theorem pgN_three : pgN 3 = 12288 := rfl

/-- New at a number of pages whose bytes are known. -/
theorem new_at (pages : Int) (n : Nat) (h : pgN pages = n) (w : World) : Calls Try.prog 17 #[.int .i64 pages] w fun e w' => ∃ a b, MemNew 92 w n e w' a b := by
  subst h; exact new_any pages w




end Go.Proofs.Ytiedfglkjkaefaa
