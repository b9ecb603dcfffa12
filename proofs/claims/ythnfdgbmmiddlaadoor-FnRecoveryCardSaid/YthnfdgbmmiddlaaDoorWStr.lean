/- Library functions on strings, by the shelf's contracts. -/
import Derived.Test.YthnfdgbmmiddlaaDoorProg
import Derived.Test.YthnfdgbmmiddlaaDoorKit2
import Derived.Shelf.Small.Strs
import Derived.Shelf.Strings.Search1
namespace Go.Proofs.YthnfdgbmmiddlaaDoor
open Go.RowKit
set_option maxRecDepth 100000
def ren137 : Go.Shelf.Ren := ⟨fun x => if x = 137 then 48 else if x = 217 then 76 else if x = 266 then 87 else x, fun x => if x = 3 then 3 else if x = 5 then 5 else if x = 9 then 9 else x, fun x => x⟩
theorem lays137 : Go.Proofs.Lays.n137 Tryd.prog ren137 := by constructor <;> first | kernel_rfl | (intro w; kernel_rfl)
theorem strings_IndexByte (s : ByteArray) (c : Int) (w : World) :
    Calls Tryd.prog 48 #[.string s, .int .u8 c] w fun e w' => e = .returned (.int .i64 (Lib.indexByte s.data.toList c.toNat.toUInt8)) ∧ w = w' :=
  (Any.strings_IndexByte lays137 s c w).mono fun _ _ ⟨h, e⟩ => ⟨h, e.symm⟩
end Go.Proofs.YthnfdgbmmiddlaaDoor
