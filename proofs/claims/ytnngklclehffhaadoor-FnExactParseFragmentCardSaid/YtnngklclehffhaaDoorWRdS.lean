/- Texts split and numbers read: the library's contracts in our words. -/
import Derived.Test.YtnngklclehffhaaDoorWVrs
import Derived.Test.YtnngklclehffhaaDoorWRdN
import Derived.Test.YtnngklclehffhaaDoorWSpl
import Derived.Test.YtnngklclehffhaaDoorWStrS
import Derived.Shelf.Strings.Split
import Derived.Shelf.Strings.Cut
import Derived.Shelf.Strconv.ErrVarAll
namespace Go.Proofs.YtnngklclehffhaaDoor
open Go.RowKit
set_option maxHeartbeats 400000
set_option maxRecDepth 100000
theorem infoStr9 : (Tryd.prog.info? 9).map (fun i => (i.zero, i.size, i.bytes)) = some (some (.string ByteArray.empty), 1, 16) := by kernel_rfl
def ren145 : Go.Shelf.Ren := ⟨fun x => if x = 145 then 68 else if x = 217 then 114 else if x = 219 then 102 else if x = 220 then 96 else if x = 224 then 116 else if x = 225 then 115 else if x = 266 then 125 else if x = 267 then 117 else if x = 314 then 126 else x, fun x => if x = 3 then 3 else if x = 4 then 4 else if x = 5 then 5 else if x = 9 then 9 else if x = 46 then 116 else if x = 51 then 135 else if x = 59 then 92 else if x = 146 then 136 else x, fun x => if x = 1 then 0 else x⟩
theorem lays145 : Go.Proofs.Lays.n145 Tryd.prog ren145 := by constructor <;> first | kernel_rfl | (intro w; kernel_rfl)
theorem strings_Cut (s sep : ByteArray) (w : World) (hv : Vrs w) (h : s.size ≤ 1048576) :
    Calls Tryd.prog 68 #[.string s, .string sep] w fun e w' => e = .returned (.tuple #[.string (mkS (Lib.cut s.data.toList sep.data.toList).1), .string (mkS (Lib.cut s.data.toList sep.data.toList).2.1), .bool (Lib.cut s.data.toList sep.data.toList).2.2]) ∧ Ext w w' := by
  obtain ⟨⟨m, hm⟩, -⟩ := hv
  refine (Any.strings_Cut lays145 s sep m w (by omega) hm).mono fun e w' ⟨h1, n, h2⟩ => ⟨h1, ?_⟩
  subst h2
  exact (by repeat' (first | exact Ext.refl _ | assumption | refine Ext.alloc ?_ _ | refine Ext.ext ?_ _ | refine Ext.drew ?_ | refine Ext.drewN ?_ _))
def renC172 : Go.Shelf.Ren := ⟨fun x => if x = 129 then 143 else if x = 171 then 98 else if x = 172 then 103 else if x = 205 then 141 else if x = 243 then 104 else if x = 244 then 118 else if x = 245 then 119 else if x = 246 then 120 else if x = 247 then 127 else if x = 279 then 128 else if x = 280 then 129 else if x = 281 then 130 else if x = 282 then 131 else if x = 283 then 132 else if x = 284 then 133 else if x = 285 then 134 else if x = 286 then 135 else if x = 287 then 139 else if x = 316 then 140 else if x = 317 then 142 else if x = 318 then 144 else if x = 319 then 145 else if x = 320 then 146 else if x = 321 then 149 else if x = 322 then 150 else if x = 337 then 151 else if x = 338 then 152 else x, fun x => if x = 0 then 0 else if x = 2 then 2 else if x = 3 then 3 else if x = 4 then 4 else if x = 5 then 5 else if x = 9 then 9 else if x = 20 then 20 else if x = 21 then 21 else if x = 37 then 46 else if x = 46 then 116 else if x = 51 then 135 else if x = 53 then 78 else if x = 75 then 108 else if x = 76 then 109 else if x = 80 then 111 else if x = 85 then 139 else if x = 127 then 115 else if x = 143 then 166 else if x = 145 then 168 else if x = 167 then 138 else if x = 168 then 141 else if x = 171 then 144 else if x = 173 then 147 else if x = 175 then 150 else if x = 210 then 154 else if x = 212 then 157 else if x = 213 then 158 else if x = 232 then 170 else if x = 233 then 171 else x, fun x => if x = 15 then 1 else if x = 16 then 2 else if x = 17 then 3 else if x = 18 then 6 else if x = 19 then 7 else x⟩
theorem laysC172_0 : Go.Proofs.Lays.n172 Tryd.prog renC172 := by constructor <;> first | kernel_rfl | (intro w; kernel_rfl)
theorem laysC172_1 : Go.Proofs.LaysM.n172 Tryd.prog renC172 := by constructor <;> first | exact laysC172_0 | kernel_rfl | (intro w; kernel_rfl)
theorem laysC172 : Go.Proofs.LaysC.n172 Tryd.prog renC172 := by constructor <;> first | exact laysC172_1 | kernel_rfl | (intro w; kernel_rfl)
theorem strconv_Atoi_ok (s : ByteArray) (v : Int) (w : World) (h : s.size ≤ 1048576) (hv : Lib.atoiAll s.data.toList = .ok v) :
    Calls Tryd.prog 103 #[.string s] w fun e w' => e = .returned (.tuple #[.int .i64 v, .nilIface]) ∧ Ext w w' := by
  refine (Any.strconv_Atoi_ok laysC172 s (by omega) v hv w).mono fun e w' ⟨h1, h2⟩ => ⟨h1, ?_⟩
  rcases h2 with rfl | ⟨t, rfl⟩
  · exact Ext.refl _
  · exact (Lib.bytesWorld_below w _ _).ext
theorem strconv_Atoi_no (s : ByteArray) (w : World) (hw : Vrs w) (h : s.size ≤ 1048576) (hv : ∀ v, Lib.atoiAll s.data.toList ≠ .ok v) :
    Calls Tryd.prog 103 #[.string s] w fun e w' => ∃ x t N, e = .returned (.tuple #[.int .i64 x, .iface t (.pointer (some ⟨N, 0, none⟩))]) ∧ Ext w w' := by
  obtain ⟨-, ⟨t2, p2, h2⟩, t3, p3, h3⟩ := hw
  cases e : Lib.atoiAll s.data.toList
  · exact absurd e (hv _)
  · exact (Any.strconv_Atoi_syntax_var laysC172 s (by omega) e t2 p2 w h2).mono fun _ _ ⟨N, a, _, _, b⟩ => ⟨_, _, N, a, b.ext⟩
  · exact (Any.strconv_Atoi_range_var laysC172 s (by omega) e t3 p3 w h3).mono fun _ _ ⟨N, a, _, _, b⟩ => ⟨_, _, N, a, b.ext⟩
end Go.Proofs.YtnngklclehffhaaDoor
