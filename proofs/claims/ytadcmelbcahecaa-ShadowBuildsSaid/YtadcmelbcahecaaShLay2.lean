/- The library's contract at this program: slices.DeleteFunc. -/
import Derived.Shelf.SlicesE.DeleteFunc
import Derived.Ground.SlgfProg
import Derived.Lib.SliceRun
import Derived.Test.YtadcmelbcahecaaShLay
namespace Go.Proofs
open Go.Shelf Go.Lib Go.Sort Go.RowKit

shelf_lay_g SlLaysH.n10 Slgf 10 at Try 34 as Try.layDelete
end Go.Proofs
