/- The library's contracts at this program: slices.Sort, Compact, BinarySearch. -/
import Derived.Ground.NamesProg
import Derived.Ground.Names2Prog
import Derived.Shelf.Lay
import Derived.Shelf.Slices.CompactI
import Derived.Shelf.Slices.SearchI
import Derived.Shelf.Slices.Empties
import Derived.Shelf.Slices.In.SortNone
import Derived.Shelf.Sort.Plain
import Derived.Test.YtadcmelbcahecaaProg
namespace Go.Proofs
open Go.Shelf Go.Lib Go.Sort Go.RowKit

shelf_lay Lays2.n25 Nm2 25 at Try as Try.laySearch
shelf_lay Lays2.n20 Nm2 20 at Try as Try.layCompact
shelf_lay Lays.n189 Nm 189 at Try as Try.laySort
#check @Any.slices_BinarySearch_int _ _ Try.laySearch
#check @Any.slices_BinarySearch_int_empty _ _ Try.laySearch
#check @Any.slices_Compact_int _ _ Try.layCompact
#check @Any.slices_Compact_int_empty _ _ Try.layCompact
#check @Any.slices_Sort_int _ _ Try.laySort
#check @Any.slices_Sort_int_none _ _ Try.laySort
end Go.Proofs
