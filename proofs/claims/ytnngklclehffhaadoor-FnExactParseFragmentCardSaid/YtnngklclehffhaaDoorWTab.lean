/- The table of powers of ten, carried along. -/
import Derived.Test.YtnngklclehffhaaDoorKit2
import Derived.Test.YtnngklclehffhaaDoorProg
import Derived.BarOnce
import Derived.Lib.LaidTab
import Derived.Lib.ItoaNum
import Derived.Stop.LaidErr
import Derived.Test.YtnngklclehffhaaDoorRows
namespace Go.Proofs.YtnngklclehffhaaDoor
open Go.RowKit
/-- The library's table reads as it is laid. -/
def Tab (w : World) : Prop := Lib.TabIs Tryd.prog w "internal/strconv.uint64pow10" .u64 Lib.pow10Tab
theorem Tab.ext {w w' : World} (h : Tab w) (hx : Ext w w') : Tab w' := by
  obtain ⟨z, rfl⟩ := hx
  exact World.var?_append (bs := z.x) rfl h
theorem laidPow : (Rows.laid_internal_strconv_uint64pow10 : DataW Unit) = Lib.tabData .u64 Lib.pow10Tab := by kernel_rfl
theorem tab_of {W : World} {rest : List (String × DataW Unit)} (h : laidMet Tryd.prog (("internal/strconv.uint64pow10", Rows.laid_internal_strconv_uint64pow10) :: rest) W) : Tab W := by
  rw [laidPow] at h
  exact Lib.tabIs_of_head (g := 3) (t := 157) (e := 78) (n := 20) (by kernel_rfl) (by kernel_rfl) (by kernel_rfl) (by kernel_rfl) (by kernel_rfl) (by kernel_rfl) h
end Go.Proofs.YtnngklclehffhaaDoor
