/- The library's variables that reading numbers and splitting texts look at, carried along. Texts split and numbers read: the library's contracts in our words. -/
import Derived.Test.YtlaochpkelbchaaGreatDoorJ2
import Derived.Test.YtlaochpkelbchaaGreatDoorProg
import Derived.Test.YtlaochpkelbchaaGreatDoorRows
import Derived.Stop.LaidErr
import Derived.Look8
import Derived.Shelf.Vars
import Derived.BarOnce
import Derived.Test.YtlaochpkelbchaaGreatDoorKWRdN
import Derived.Test.YtlaochpkelbchaaGreatDoorKWSpl
import Derived.Test.YtlaochpkelbchaaGreatDoorJ5
import Derived.Shelf.Strings.Split
import Derived.Shelf.Strings.Cut
import Derived.Shelf.Strconv.ErrVarAll
namespace Go.Proofs.YtlaochpkelbchaaGreatDoor
open Go.RowKit
def Vrs (w : World) : Prop := (∃ m, w.cell? ⟨0, 0, none⟩ = some (.int .i64 m)) ∧ (∃ tp p, w.var? Tryz.prog "strconv.ErrSyntax" = some #[.iface tp p]) ∧ ∃ tp p, w.var? Tryz.prog "strconv.ErrRange" = some #[.iface tp p]
theorem Vrs.ext {w w' : World} (h : Vrs w) (hx : Ext w w') : Vrs w' := by
  obtain ⟨⟨m, h1⟩, ⟨t2, p2, h2⟩, t3, p3, h3⟩ := h
  refine ⟨⟨m, hx.cell h1⟩, ⟨t2, p2, ?_⟩, t3, p3, ?_⟩
  · obtain ⟨z, rfl⟩ := hx
    exact World.var?_append (bs := z.x) rfl h2
  · obtain ⟨z, rfl⟩ := hx
    exact World.var?_append (bs := z.x) rfl h3
theorem star_es : "*" ++ "errors.errorString" = "*errors.errorString" := by decide
theorem row_es (u : TypeId) (h : Tryz.prog.typeName? 3 u = some "*errors.errorString") : u = 155 :=
  typeName_ptr_named (nm := "errors.errorString") (by rw [star_es]; kernel_rfl) (by kernel_rfl) (by decide) u (by rw [star_es]; exact h)
theorem vrs_of {W : World} (hsh : W.ShapedOpen Tryz.prog) {r1 r2 : List (String × DataW Unit)} (h1 : laidMet Tryz.prog (("strconv.ErrRange", Rows.laid_strconv_ErrRange) :: r1) W) (h2 : laidMet Tryz.prog (("strconv.ErrSyntax", Rows.laid_strconv_ErrSyntax) :: r2) W) : Vrs W := by
  obtain ⟨a1, s1, hv1, -⟩ := laid_sentinel (g := 3) (ti := 99) (tp := 155) (te := 157) (ts := 9) h1 (by kernel_rfl) (by kernel_rfl) Tryz.underlying99 row_es Tryz.underlying155 Tryz.underlying157 rfl rfl (by kernel_rfl) (by kernel_rfl) (by kernel_rfl)
  obtain ⟨a2, s2, hv2, -⟩ := laid_sentinel (g := 2) (ti := 99) (tp := 155) (te := 157) (ts := 9) h2 (by kernel_rfl) (by kernel_rfl) Tryz.underlying99 row_es Tryz.underlying155 Tryz.underlying157 rfl rfl (by kernel_rfl) (by kernel_rfl) (by kernel_rfl)
  exact ⟨cell_of_shapedOpen_int (zero := #[.int .i64 0]) (t := 3) hsh (by decide +kernel) (by kernel_rfl) rfl (by kernel_rfl) (by kernel_rfl) (by kernel_rfl), ⟨_, _, hv2⟩, ⟨_, _, hv1⟩⟩
end Go.Proofs.YtlaochpkelbchaaGreatDoor
namespace Go.Proofs.YtlaochpkelbchaaGreatDoor
open Go.RowKit
set_option maxHeartbeats 400000
set_option maxRecDepth 100000
theorem infoStr9 : (Tryz.prog.info? 9).map (fun i => (i.zero, i.size, i.bytes)) = some (some (.string ByteArray.empty), 1, 16) := by kernel_rfl
def ren146 : Go.Shelf.Ren := ⟨fun x => if x = 138 then 87 else if x = 143 then 88 else if x = 146 then 44 else if x = 195 then 107 else if x = 197 then 108 else if x = 217 then 101 else if x = 218 then 109 else if x = 219 then 84 else if x = 221 then 73 else if x = 224 then 103 else if x = 225 then 102 else if x = 260 then 126 else if x = 266 then 119 else if x = 267 then 104 else if x = 268 then 86 else if x = 314 then 120 else x, fun x => if x = 0 then 0 else if x = 3 then 3 else if x = 4 then 4 else if x = 5 then 5 else if x = 9 then 9 else if x = 21 then 21 else if x = 31 then 68 else if x = 46 then 91 else if x = 51 then 128 else if x = 105 then 116 else if x = 119 then 148 else if x = 138 then 150 else if x = 139 then 151 else if x = 146 then 129 else x, fun x => if x = 1 then 0 else if x = 3 then 4 else if x = 4 then 5 else x⟩
theorem lays146 : Go.Proofs.Lays.n146 Tryz.prog ren146 := by constructor <;> first | kernel_rfl | (intro w; kernel_rfl)
theorem strings_Split (s : ByteArray) (b : UInt8) (w : World) (hv : Vrs w) (h : s.size ≤ 1048576) :
    Calls Tryz.prog 44 #[.string s, .string ⟨#[b]⟩] w fun e w' => e = .returned (.slice (some ⟨w.heap.size, 0, none⟩) (splS s b).length (splS s b).length) ∧ Rd w' 1 (.slice (some ⟨w.heap.size, 0, none⟩) (splS s b).length (splS s b).length) (splS s b).length (vStrs (splS s b)) ∧ Ext w w' := by
  obtain ⟨⟨m, hm⟩, -⟩ := hv
  have hl : Lib.countB s ⟨#[b]⟩ + 1 = (splS s b).length := by
    have := Lib.splitB_all ⟨#[b]⟩ (Nat.le_refl 1) 0 _ s rfl
    rw [splS_tie] at this
    exact this.symm
  have key := Any.strings_Split lays146 infoStr9 s ⟨#[b]⟩ m w (by omega) hm (Nat.le_refl 1)
  rw [splS_tie, hl] at key
  refine key.mono fun e w' ⟨h1, h2⟩ => ⟨h1, ?_, ?_⟩
  · subst h2
    refine ⟨by simp [vStrs], _, _, rfl, .inr ⟨_, _, rfl, fun j hj => ?_⟩⟩
    rw [Nat.zero_add, cell_of_row _ _ j _ _ (0, 0) (heap_at _ rfl)]
    have e1 : ((List.map Value.string (splS s b)).toArray)[j]? = (vStrs (splS s b))[j]? := by rw [List.getElem?_toArray]; rfl
    rw [e1, List.getElem?_eq_getElem hj]
  · subst h2
    exact (by repeat' (first | exact Ext.refl _ | assumption | refine Ext.alloc ?_ _ | refine Ext.ext ?_ _ | refine Ext.drew ?_ | refine Ext.drewN ?_ _))
def ren145 : Go.Shelf.Ren := ⟨fun x => if x = 145 then 42 else if x = 217 then 101 else if x = 219 then 84 else if x = 220 then 71 else if x = 224 then 103 else if x = 225 then 102 else if x = 266 then 119 else if x = 267 then 104 else if x = 314 then 120 else x, fun x => if x = 3 then 3 else if x = 4 then 4 else if x = 5 then 5 else if x = 9 then 9 else if x = 46 then 91 else if x = 51 then 128 else if x = 59 then 65 else if x = 146 then 129 else x, fun x => if x = 1 then 0 else x⟩
theorem lays145 : Go.Proofs.Lays.n145 Tryz.prog ren145 := by constructor <;> first | kernel_rfl | (intro w; kernel_rfl)
theorem strings_Cut (s sep : ByteArray) (w : World) (hv : Vrs w) (h : s.size ≤ 1048576) :
    Calls Tryz.prog 42 #[.string s, .string sep] w fun e w' => e = .returned (.tuple #[.string (mkS (Lib.cut s.data.toList sep.data.toList).1), .string (mkS (Lib.cut s.data.toList sep.data.toList).2.1), .bool (Lib.cut s.data.toList sep.data.toList).2.2]) ∧ Ext w w' := by
  obtain ⟨⟨m, hm⟩, -⟩ := hv
  refine (Any.strings_Cut lays145 s sep m w (by omega) hm).mono fun e w' ⟨h1, n, h2⟩ => ⟨h1, ?_⟩
  subst h2
  exact (by repeat' (first | exact Ext.refl _ | assumption | refine Ext.alloc ?_ _ | refine Ext.ext ?_ _ | refine Ext.drew ?_ | refine Ext.drewN ?_ _))
def renC172 : Go.Shelf.Ren := ⟨fun x => if x = 129 then 130 else if x = 171 then 66 else if x = 172 then 85 else if x = 205 then 136 else if x = 243 then 80 else if x = 244 then 105 else if x = 245 then 106 else if x = 246 then 98 else if x = 247 then 121 else if x = 279 then 122 else if x = 280 then 123 else if x = 281 then 124 else if x = 282 then 125 else if x = 283 then 113 else if x = 284 then 114 else if x = 285 then 115 else if x = 286 then 116 else if x = 287 then 134 else if x = 316 then 135 else if x = 317 then 129 else if x = 318 then 131 else if x = 319 then 132 else if x = 320 then 133 else if x = 321 then 141 else if x = 322 then 142 else if x = 337 then 139 else if x = 338 then 140 else x, fun x => if x = 0 then 0 else if x = 2 then 2 else if x = 3 then 3 else if x = 4 then 4 else if x = 5 then 5 else if x = 9 then 9 else if x = 20 then 20 else if x = 21 then 21 else if x = 37 then 22 else if x = 46 then 91 else if x = 51 then 128 else if x = 53 then 45 else if x = 75 then 99 else if x = 76 then 100 else if x = 80 then 50 else if x = 85 then 132 else if x = 127 then 112 else if x = 143 then 155 else if x = 145 then 157 else if x = 167 then 131 else if x = 168 then 134 else if x = 171 then 120 else if x = 173 then 123 else if x = 175 then 142 else if x = 210 then 146 else if x = 212 then 139 else if x = 213 then 140 else if x = 232 then 158 else if x = 233 then 159 else x, fun x => if x = 15 then 2 else if x = 16 then 3 else if x = 17 then 1 else if x = 18 then 6 else if x = 19 then 7 else x⟩
theorem laysC172_0 : Go.Proofs.Lays.n172 Tryz.prog renC172 := by constructor <;> first | kernel_rfl | (intro w; kernel_rfl)
theorem laysC172_1 : Go.Proofs.LaysM.n172 Tryz.prog renC172 := by constructor <;> first | exact laysC172_0 | kernel_rfl | (intro w; kernel_rfl)
theorem laysC172 : Go.Proofs.LaysC.n172 Tryz.prog renC172 := by constructor <;> first | exact laysC172_1 | kernel_rfl | (intro w; kernel_rfl)
theorem strconv_Atoi_ok (s : ByteArray) (v : Int) (w : World) (h : s.size ≤ 1048576) (hv : Lib.atoiAll s.data.toList = .ok v) :
    Calls Tryz.prog 85 #[.string s] w fun e w' => e = .returned (.tuple #[.int .i64 v, .nilIface]) ∧ Ext w w' := by
  refine (Any.strconv_Atoi_ok laysC172 s (by omega) v hv w).mono fun e w' ⟨h1, h2⟩ => ⟨h1, ?_⟩
  rcases h2 with rfl | ⟨t, rfl⟩
  · exact Ext.refl _
  · exact (Lib.bytesWorld_below w _ _).ext
theorem strconv_Atoi_no (s : ByteArray) (w : World) (hw : Vrs w) (h : s.size ≤ 1048576) (hv : ∀ v, Lib.atoiAll s.data.toList ≠ .ok v) :
    Calls Tryz.prog 85 #[.string s] w fun e w' => ∃ x t N, e = .returned (.tuple #[.int .i64 x, .iface t (.pointer (some ⟨N, 0, none⟩))]) ∧ Ext w w' := by
  obtain ⟨-, ⟨t2, p2, h2⟩, t3, p3, h3⟩ := hw
  cases e : Lib.atoiAll s.data.toList
  · exact absurd e (hv _)
  · exact (Any.strconv_Atoi_syntax_var laysC172 s (by omega) e t2 p2 w h2).mono fun _ _ ⟨N, a, _, _, b⟩ => ⟨_, _, N, a, b.ext⟩
  · exact (Any.strconv_Atoi_range_var laysC172 s (by omega) e t3 p3 w h3).mono fun _ _ ⟨N, a, _, _, b⟩ => ⟨_, _, N, a, b.ext⟩
end Go.Proofs.YtlaochpkelbchaaGreatDoor
