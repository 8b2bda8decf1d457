/- The bit by which there are page tables. -/
import Derived.Test.YtmkhpahkcicfnaaWalkPlain
namespace Go.Proofs.Ytmkhpahkcicfnaa
open Go.RowKit

theorem or_on (x : Int) (h0 : 0 ≤ x) (h1 : x < 2147483648) : bits .or .i64 2147483648 x = 2147483648 + x :=
  bits_join .i64 62 (by decide) (fun n _ _ => by rw [IntKind.wrap_i64]; omega) 31 2147483648 x (by omega) (by decide) (by decide) h0 h1 (by omega)
theorem onB_on (x : Int) (h0 : 0 ≤ x) (h1 : x < 2147483648) : onB (2147483648 + x) = true := decide_eq_true (by omega)
end Go.Proofs.Ytmkhpahkcicfnaa
