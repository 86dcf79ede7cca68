/- Words in decimal digits (strconv.FormatUint at base 10), over the shelf's contracts. -/
import Derived.Test.YtbdfhnelmojbpaaGreatDoorShelf
import Derived.Lib.AppendIntMem
import Derived.Test.YtbdfhnelmojbpaaGreatDoorWap
set_option linter.unusedVariables false
set_option linter.unusedSimpArgs false
namespace Go.Proofs.YtbdfhnelmojbpaaGreatDoor
open Go.Shelf Go.RowKit Go.Sort Go.Lib Vic
structure Tab (w:World):Prop where
 pow:Lib.TabIs Tryz.prog w "internal/strconv.uint64pow10" .u64 Lib.pow10Tab
 maxLen:∃ m:Int,w.cell? ⟨0,0,none⟩=some (.int .i64 m)
theorem Tab.keep {w w':World}(h:Tab w) (hb:Below w.heap.size w w'):Tab w':=
 ⟨Lib.tabBelow_of_tabIs h.pow w' hb,by obtain ⟨m,hm⟩:=h.maxLen;exact ⟨m,cell_keep hm hb⟩⟩
end Go.Proofs.YtbdfhnelmojbpaaGreatDoor
