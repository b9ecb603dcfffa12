/- Texts split and numbers read: the library's contracts in our words. -/
import Derived.Test.YtljknhocfjpolaaGreatDoorJ20
import Derived.Test.YtljknhocfjpolaaGreatDoorKWRdN
import Derived.Test.YtljknhocfjpolaaGreatDoorKWSpl
import Derived.Shelf.Strings.Split
import Derived.Shelf.Strings.Cut
import Derived.Shelf.Strconv.ErrVarAll
namespace Go.Proofs.YtljknhocfjpolaaGreatDoor
open Go.RowKit
set_option maxHeartbeats 400000
set_option maxRecDepth 100000
theorem infoStr9 : (Tryz.prog.info? 9).map (fun i => (i.zero, i.size, i.bytes)) = some (some (.string ByteArray.empty), 1, 16) := by kernel_rfl
def ren146 : Go.Shelf.Ren := ⟨fun x => if x = 138 then 137 else if x = 143 then 138 else if x = 146 then 86 else if x = 195 then 151 else if x = 197 then 152 else if x = 217 then 116 else if x = 218 then 153 else if x = 219 then 154 else if x = 221 then 117 else if x = 224 then 168 else if x = 225 then 167 else if x = 260 then 166 else if x = 266 then 135 else if x = 267 then 169 else if x = 268 then 136 else if x = 314 then 182 else x, fun x => if x = 0 then 0 else if x = 3 then 3 else if x = 4 then 4 else if x = 5 then 5 else if x = 9 then 9 else if x = 21 then 21 else if x = 31 then 53 else if x = 46 then 103 else if x = 51 then 149 else if x = 105 then 130 else if x = 119 then 153 else if x = 138 then 155 else if x = 139 then 156 else if x = 146 then 157 else x, fun x => if x = 1 then 0 else if x = 3 then 2 else if x = 4 then 3 else x⟩
theorem lays146 : Go.Proofs.Lays.n146 Tryz.prog ren146 := by constructor <;> first | kernel_rfl | (intro w; kernel_rfl)
theorem strings_Split (s : ByteArray) (b : UInt8) (w : World) (hv : Vrs w) (h : s.size ≤ 1048576) :
    Calls Tryz.prog 86 #[.string s, .string ⟨#[b]⟩] w fun e w' => e = .returned (.slice (some ⟨w.heap.size, 0, none⟩) (splS s b).length (splS s b).length) ∧ Rd w' 1 (.slice (some ⟨w.heap.size, 0, none⟩) (splS s b).length (splS s b).length) (splS s b).length (vStrs (splS s b)) ∧ Ext w w' := by
  obtain ⟨⟨m, hm⟩, -⟩ := hv
  have hl : Lib.countB s ⟨#[b]⟩ + 1 = (splS s b).length := by
    have := Lib.splitB_all ⟨#[b]⟩ (Nat.le_refl 1) 0 _ s rfl
    rw [splS_tie] at this
    exact this.symm
  have key := Any.strings_Split lays146 infoStr9 s ⟨#[b]⟩ m w (by omega) hm (Nat.le_refl 1)
  rw [splS_tie, hl] at key
  refine key.mono fun e w' ⟨h1, h2⟩ => ⟨h1, ?_, ?_⟩
  · subst h2
    refine ⟨by simp [vStrs], _, _, rfl, .inr ⟨_, _, rfl, fun j hj => ?_⟩⟩
    rw [Nat.zero_add, cell_of_row _ _ j _ _ (0, 0) (heap_at _ rfl)]
    have e1 : ((List.map Value.string (splS s b)).toArray)[j]? = (vStrs (splS s b))[j]? := by rw [List.getElem?_toArray]; rfl
    rw [e1, List.getElem?_eq_getElem hj]
  · subst h2
    exact (by repeat' (first | exact Ext.refl _ | assumption | refine Ext.alloc ?_ _ | refine Ext.ext ?_ _ | refine Ext.drew ?_ | refine Ext.drewN ?_ _))
def renC172 : Go.Shelf.Ren := ⟨fun x => if x = 129 then 176 else if x = 171 then 91 else if x = 172 then 140 else if x = 205 then 185 else if x = 243 then 121 else if x = 244 then 155 else if x = 245 then 156 else if x = 246 then 141 else if x = 247 then 170 else if x = 279 then 171 else if x = 280 then 172 else if x = 281 then 173 else if x = 282 then 174 else if x = 283 then 157 else if x = 284 then 158 else if x = 285 then 159 else if x = 286 then 160 else if x = 287 then 183 else if x = 316 then 184 else if x = 317 then 175 else if x = 318 then 177 else if x = 319 then 178 else if x = 320 then 179 else if x = 321 then 189 else if x = 322 then 190 else if x = 337 then 186 else if x = 338 then 187 else x, fun x => if x = 0 then 0 else if x = 2 then 2 else if x = 3 then 3 else if x = 4 then 4 else if x = 5 then 5 else if x = 9 then 9 else if x = 20 then 20 else if x = 21 then 21 else if x = 37 then 28 else if x = 46 then 103 else if x = 51 then 149 else if x = 53 then 70 else if x = 75 then 118 else if x = 76 then 119 else if x = 80 then 174 else if x = 85 then 142 else if x = 127 then 168 else if x = 143 then 169 else if x = 145 then 171 else if x = 167 then 141 else if x = 168 then 144 else if x = 171 then 133 else if x = 173 then 136 else if x = 175 then 159 else if x = 210 then 163 else if x = 212 then 148 else if x = 213 then 150 else if x = 232 then 172 else if x = 233 then 173 else x, fun x => if x = 15 then 4 else if x = 16 then 5 else if x = 17 then 1 else if x = 18 then 6 else if x = 19 then 7 else x⟩
theorem laysC172_0 : Go.Proofs.Lays.n172 Tryz.prog renC172 := by constructor <;> first | kernel_rfl | (intro w; kernel_rfl)
theorem laysC172_1 : Go.Proofs.LaysM.n172 Tryz.prog renC172 := by constructor <;> first | exact laysC172_0 | kernel_rfl | (intro w; kernel_rfl)
theorem laysC172 : Go.Proofs.LaysC.n172 Tryz.prog renC172 := by constructor <;> first | exact laysC172_1 | kernel_rfl | (intro w; kernel_rfl)
theorem strconv_Atoi_ok (s : ByteArray) (v : Int) (w : World) (h : s.size ≤ 1048576) (hv : Lib.atoiAll s.data.toList = .ok v) :
    Calls Tryz.prog 140 #[.string s] w fun e w' => e = .returned (.tuple #[.int .i64 v, .nilIface]) ∧ Ext w w' := by
  refine (Any.strconv_Atoi_ok laysC172 s (by omega) v hv w).mono fun e w' ⟨h1, h2⟩ => ⟨h1, ?_⟩
  rcases h2 with rfl | ⟨t, rfl⟩
  · exact Ext.refl _
  · exact (Lib.bytesWorld_below w _ _).ext
theorem strconv_Atoi_no (s : ByteArray) (w : World) (hw : Vrs w) (h : s.size ≤ 1048576) (hv : ∀ v, Lib.atoiAll s.data.toList ≠ .ok v) :
    Calls Tryz.prog 140 #[.string s] w fun e w' => ∃ x t N, e = .returned (.tuple #[.int .i64 x, .iface t (.pointer (some ⟨N, 0, none⟩))]) ∧ Ext w w' := by
  obtain ⟨-, ⟨t2, p2, h2⟩, t3, p3, h3⟩ := hw
  cases e : Lib.atoiAll s.data.toList
  · exact absurd e (hv _)
  · exact (Any.strconv_Atoi_syntax_var laysC172 s (by omega) e t2 p2 w h2).mono fun _ _ ⟨N, a, _, _, b⟩ => ⟨_, _, N, a, b.ext⟩
  · exact (Any.strconv_Atoi_range_var laysC172 s (by omega) e t3 p3 w h3).mono fun _ _ ⟨N, a, _, _, b⟩ => ⟨_, _, N, a, b.ext⟩
end Go.Proofs.YtljknhocfjpolaaGreatDoor
