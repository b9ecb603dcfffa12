/- The library's variables that reading numbers and splitting texts look at, carried along. Texts split and numbers read: the library's contracts in our words. Numbers read off texts, and texts split: both sides. -/
import Derived.Test.YtljknhocfjpolaaGreatDoorJ2
import Derived.Test.YtljknhocfjpolaaGreatDoorProg
import Derived.Test.YtljknhocfjpolaaGreatDoorRows
import Derived.Stop.LaidErr
import Derived.Look8
import Derived.Shelf.Vars
import Derived.BarOnce
import Derived.Test.YtljknhocfjpolaaGreatDoorKWRdN
import Derived.Test.YtljknhocfjpolaaGreatDoorJ34
import Derived.Test.YtljknhocfjpolaaGreatDoorJ4
import Derived.Shelf.Strings.Split
import Derived.Shelf.Strings.Cut
import Derived.Shelf.Strconv.ErrVarAll
import Derived.Test.YtljknhocfjpolaaGreatDoorJ19
import Derived.Maps.AppendAt
import Derived.Deep.DeepCutAuto
namespace Go.Proofs.YtljknhocfjpolaaGreatDoor
open Go.RowKit
def Vrs (w : World) : Prop := (∃ m, w.cell? ⟨0, 0, none⟩ = some (.int .i64 m)) ∧ (∃ tp p, w.var? Tryz.prog "strconv.ErrSyntax" = some #[.iface tp p]) ∧ ∃ tp p, w.var? Tryz.prog "strconv.ErrRange" = some #[.iface tp p]
theorem Vrs.ext {w w' : World} (h : Vrs w) (hx : Ext w w') : Vrs w' := by
  obtain ⟨⟨m, h1⟩, ⟨t2, p2, h2⟩, t3, p3, h3⟩ := h
  refine ⟨⟨m, hx.cell h1⟩, ⟨t2, p2, ?_⟩, t3, p3, ?_⟩
  · obtain ⟨z, rfl⟩ := hx
    exact World.var?_append (bs := z.x) rfl h2
  · obtain ⟨z, rfl⟩ := hx
    exact World.var?_append (bs := z.x) rfl h3
theorem star_es : "*" ++ "errors.errorString" = "*errors.errorString" := by decide
theorem row_es (u : TypeId) (h : Tryz.prog.typeName? 3 u = some "*errors.errorString") : u = 169 :=
  typeName_ptr_named (nm := "errors.errorString") (by rw [star_es]; kernel_rfl) (by kernel_rfl) (by decide) u (by rw [star_es]; exact h)
theorem vrs_of {W : World} (hsh : W.ShapedOpen Tryz.prog) {r1 r2 : List (String × DataW Unit)} (h1 : laidMet Tryz.prog (("strconv.ErrRange", Rows.laid_strconv_ErrRange) :: r1) W) (h2 : laidMet Tryz.prog (("strconv.ErrSyntax", Rows.laid_strconv_ErrSyntax) :: r2) W) : Vrs W := by
  obtain ⟨a1, s1, hv1, -⟩ := laid_sentinel (g := 5) (ti := 118) (tp := 169) (te := 171) (ts := 9) h1 (by kernel_rfl) (by kernel_rfl) Tryz.underlying118 row_es Tryz.underlying169 Tryz.underlying171 rfl rfl (by kernel_rfl) (by kernel_rfl) (by kernel_rfl)
  obtain ⟨a2, s2, hv2, -⟩ := laid_sentinel (g := 4) (ti := 118) (tp := 169) (te := 171) (ts := 9) h2 (by kernel_rfl) (by kernel_rfl) Tryz.underlying118 row_es Tryz.underlying169 Tryz.underlying171 rfl rfl (by kernel_rfl) (by kernel_rfl) (by kernel_rfl)
  exact ⟨cell_of_shapedOpen_int (zero := #[.int .i64 0]) (t := 3) hsh (by decide +kernel) (by kernel_rfl) rfl (by kernel_rfl) (by kernel_rfl) (by kernel_rfl), ⟨_, _, hv2⟩, ⟨_, _, hv1⟩⟩
end Go.Proofs.YtljknhocfjpolaaGreatDoor
namespace Go.Proofs.YtljknhocfjpolaaGreatDoor
open Go.RowKit
set_option maxHeartbeats 400000
set_option maxRecDepth 100000
theorem infoStr9 : (Tryz.prog.info? 9).map (fun i => (i.zero, i.size, i.bytes)) = some (some (.string ByteArray.empty), 1, 16) := by kernel_rfl
def ren146 : Go.Shelf.Ren := ⟨fun x => if x = 138 then 137 else if x = 143 then 138 else if x = 146 then 86 else if x = 195 then 151 else if x = 197 then 152 else if x = 217 then 116 else if x = 218 then 153 else if x = 219 then 154 else if x = 221 then 117 else if x = 224 then 168 else if x = 225 then 167 else if x = 260 then 166 else if x = 266 then 135 else if x = 267 then 169 else if x = 268 then 136 else if x = 314 then 182 else x, fun x => if x = 0 then 0 else if x = 3 then 3 else if x = 4 then 4 else if x = 5 then 5 else if x = 9 then 9 else if x = 21 then 21 else if x = 31 then 53 else if x = 46 then 103 else if x = 51 then 149 else if x = 105 then 130 else if x = 119 then 153 else if x = 138 then 155 else if x = 139 then 156 else if x = 146 then 157 else x, fun x => if x = 1 then 0 else if x = 3 then 2 else if x = 4 then 3 else x⟩
theorem lays146 : Go.Proofs.Lays.n146 Tryz.prog ren146 := by constructor <;> first | kernel_rfl | (intro w; kernel_rfl)
theorem strings_Split (s : ByteArray) (b : UInt8) (w : World) (hv : Vrs w) (h : s.size ≤ 1048576) :
    Calls Tryz.prog 86 #[.string s, .string ⟨#[b]⟩] w fun e w' => e = .returned (.slice (some ⟨w.heap.size, 0, none⟩) (splS s b).length (splS s b).length) ∧ Rd w' 1 (.slice (some ⟨w.heap.size, 0, none⟩) (splS s b).length (splS s b).length) (splS s b).length (vStrs (splS s b)) ∧ Ext w w' := by
  obtain ⟨⟨m, hm⟩, -⟩ := hv
  have hl : Lib.countB s ⟨#[b]⟩ + 1 = (splS s b).length := by
    have := Lib.splitB_all ⟨#[b]⟩ (Nat.le_refl 1) 0 _ s rfl
    rw [splS_tie] at this
    exact this.symm
  have key := Any.strings_Split lays146 infoStr9 s ⟨#[b]⟩ m w (by omega) hm (Nat.le_refl 1)
  rw [splS_tie, hl] at key
  refine key.mono fun e w' ⟨h1, h2⟩ => ⟨h1, ?_, ?_⟩
  · subst h2
    refine ⟨by simp [vStrs], _, _, rfl, .inr ⟨_, _, rfl, fun j hj => ?_⟩⟩
    rw [Nat.zero_add, cell_of_row _ _ j _ _ (0, 0) (heap_at _ rfl)]
    have e1 : ((List.map Value.string (splS s b)).toArray)[j]? = (vStrs (splS s b))[j]? := by rw [List.getElem?_toArray]; rfl
    rw [e1, List.getElem?_eq_getElem hj]
  · subst h2
    exact (by repeat' (first | exact Ext.refl _ | assumption | refine Ext.alloc ?_ _ | refine Ext.ext ?_ _ | refine Ext.drew ?_ | refine Ext.drewN ?_ _))
def renC172 : Go.Shelf.Ren := ⟨fun x => if x = 129 then 176 else if x = 171 then 91 else if x = 172 then 140 else if x = 205 then 185 else if x = 243 then 121 else if x = 244 then 155 else if x = 245 then 156 else if x = 246 then 141 else if x = 247 then 170 else if x = 279 then 171 else if x = 280 then 172 else if x = 281 then 173 else if x = 282 then 174 else if x = 283 then 157 else if x = 284 then 158 else if x = 285 then 159 else if x = 286 then 160 else if x = 287 then 183 else if x = 316 then 184 else if x = 317 then 175 else if x = 318 then 177 else if x = 319 then 178 else if x = 320 then 179 else if x = 321 then 189 else if x = 322 then 190 else if x = 337 then 186 else if x = 338 then 187 else x, fun x => if x = 0 then 0 else if x = 2 then 2 else if x = 3 then 3 else if x = 4 then 4 else if x = 5 then 5 else if x = 9 then 9 else if x = 20 then 20 else if x = 21 then 21 else if x = 37 then 28 else if x = 46 then 103 else if x = 51 then 149 else if x = 53 then 70 else if x = 75 then 118 else if x = 76 then 119 else if x = 80 then 174 else if x = 85 then 142 else if x = 127 then 168 else if x = 143 then 169 else if x = 145 then 171 else if x = 167 then 141 else if x = 168 then 144 else if x = 171 then 133 else if x = 173 then 136 else if x = 175 then 159 else if x = 210 then 163 else if x = 212 then 148 else if x = 213 then 150 else if x = 232 then 172 else if x = 233 then 173 else x, fun x => if x = 15 then 4 else if x = 16 then 5 else if x = 17 then 1 else if x = 18 then 6 else if x = 19 then 7 else x⟩
theorem laysC172_0 : Go.Proofs.Lays.n172 Tryz.prog renC172 := by constructor <;> first | kernel_rfl | (intro w; kernel_rfl)
theorem laysC172_1 : Go.Proofs.LaysM.n172 Tryz.prog renC172 := by constructor <;> first | exact laysC172_0 | kernel_rfl | (intro w; kernel_rfl)
theorem laysC172 : Go.Proofs.LaysC.n172 Tryz.prog renC172 := by constructor <;> first | exact laysC172_1 | kernel_rfl | (intro w; kernel_rfl)
theorem strconv_Atoi_ok (s : ByteArray) (v : Int) (w : World) (h : s.size ≤ 1048576) (hv : Lib.atoiAll s.data.toList = .ok v) :
    Calls Tryz.prog 140 #[.string s] w fun e w' => e = .returned (.tuple #[.int .i64 v, .nilIface]) ∧ Ext w w' := by
  refine (Any.strconv_Atoi_ok laysC172 s (by omega) v hv w).mono fun e w' ⟨h1, h2⟩ => ⟨h1, ?_⟩
  rcases h2 with rfl | ⟨t, rfl⟩
  · exact Ext.refl _
  · exact (Lib.bytesWorld_below w _ _).ext
theorem strconv_Atoi_no (s : ByteArray) (w : World) (hw : Vrs w) (h : s.size ≤ 1048576) (hv : ∀ v, Lib.atoiAll s.data.toList ≠ .ok v) :
    Calls Tryz.prog 140 #[.string s] w fun e w' => ∃ x t N, e = .returned (.tuple #[.int .i64 x, .iface t (.pointer (some ⟨N, 0, none⟩))]) ∧ Ext w w' := by
  obtain ⟨-, ⟨t2, p2, h2⟩, t3, p3, h3⟩ := hw
  cases e : Lib.atoiAll s.data.toList
  · exact absurd e (hv _)
  · exact (Any.strconv_Atoi_syntax_var laysC172 s (by omega) e t2 p2 w h2).mono fun _ _ ⟨N, a, _, _, b⟩ => ⟨_, _, N, a, b.ext⟩
  · exact (Any.strconv_Atoi_range_var laysC172 s (by omega) e t3 p3 w h3).mono fun _ _ ⟨N, a, _, _, b⟩ => ⟨_, _, N, a, b.ext⟩
end Go.Proofs.YtljknhocfjpolaaGreatDoor
namespace Go.Proofs.YtljknhocfjpolaaGreatDoor
open Go.RowKit
set_option maxHeartbeats 1000000
set_option maxRecDepth 100000
theorem str_yes {s a : ByteArray} (h : s = a) : (s.toList == a.toList) = true := by rw [h]; simp
theorem str_no {s a : ByteArray} (h : ¬ s = a) : (s.toList == a.toList) = false := by
  rw [beq_eq_false_iff_ne]; intro e; rw [ByteArray.toList_eq, ByteArray.toList_eq] at e; exact h (ByteArray.ext (Array.ext' e))
theorem impl_ParseInt (s : ByteArray) (w : World) (hv : Vrs w) (ht : Tab w) (h : s.size ≤ 1048576) :
    Calls Tryz.prog 119 #[.string s] w fun e w' => e = .returned (.tuple #[.int .i64 ((pI s).getD 0), .bool (pI s).isSome]) ∧ Ext w w' := by
  by_cases hok : ∃ v, Lib.atoiAll s.data.toList = .ok v
  · obtain ⟨v, hv1⟩ := hok
    obtain ⟨b1, b2⟩ := Lib.atoiAll_bounds hv1
    have hp : pI s = if inB v (-999999) 999999 && decide (itoaS v = s) then some v else none := by rw [pI, hv1]
    have ha := hid (fun w => strconv_Atoi_ok s v w h hv1)
    have hw1 := hid (fun w => impl_within v (-999999) 999999 w)
    have hi := hid (fun w ht => strconv_Itoa v w b1 b2 ht)
    have Ht := hid ht
    rw [hp]
    clear hv1 hp ht hv
    cases e1 : inB v (-999999) 999999
    · rw [e1] at hw1
      clear e1
      go_enter Tryz.func119, Tryz.ntmps119
      go_wp2_with (first | (go_at_call 140; refine (ha.out _).mono ?_; rintro e w' ⟨rfl, z1, rfl⟩) | (go_at_call 60; refine (hw1.out _).mono ?_; rintro e w' ⟨rfl, rfl⟩))
      go_ret2
      exact ⟨rfl, (by repeat' (first | exact Ext.refl _ | assumption | refine Ext.alloc ?_ _ | refine Ext.ext ?_ _ | refine Ext.drew ?_ | refine Ext.drewN ?_ _))⟩
    · rw [e1] at hw1
      clear e1
      by_cases he : itoaS v = s
      · have te := str_yes he
        rw [if_pos (by simpa using he)]
        clear he
        go_enter Tryz.func119, Tryz.ntmps119
        go_wp2_with (first | (go_at_call 140; refine (ha.out _).mono ?_; rintro e w' ⟨rfl, z1, rfl⟩) | (go_at_call 60; refine (hw1.out _).mono ?_; rintro e w' ⟨rfl, rfl⟩) | (go_at_call 91; refine (hi.out _ (Ht.out.ext (by repeat' (first | exact Ext.refl _ | assumption | refine Ext.alloc ?_ _ | refine Ext.ext ?_ _ | refine Ext.drew ?_ | refine Ext.drewN ?_ _)))).mono ?_; rintro e w' ⟨rfl, z2, rfl⟩))
        go_ret2
        exact ⟨rfl, (by repeat' (first | exact Ext.refl _ | assumption | refine Ext.alloc ?_ _ | refine Ext.ext ?_ _ | refine Ext.drew ?_ | refine Ext.drewN ?_ _))⟩
      · have te := str_no he
        rw [if_neg (by simpa using he)]
        clear he
        go_enter Tryz.func119, Tryz.ntmps119
        go_wp2_with (first | (go_at_call 140; refine (ha.out _).mono ?_; rintro e w' ⟨rfl, z1, rfl⟩) | (go_at_call 60; refine (hw1.out _).mono ?_; rintro e w' ⟨rfl, rfl⟩) | (go_at_call 91; refine (hi.out _ (Ht.out.ext (by repeat' (first | exact Ext.refl _ | assumption | refine Ext.alloc ?_ _ | refine Ext.ext ?_ _ | refine Ext.drew ?_ | refine Ext.drewN ?_ _)))).mono ?_; rintro e w' ⟨rfl, z2, rfl⟩))
        go_ret2
        exact ⟨rfl, (by repeat' (first | exact Ext.refl _ | assumption | refine Ext.alloc ?_ _ | refine Ext.ext ?_ _ | refine Ext.drew ?_ | refine Ext.drewN ?_ _))⟩
  · have hp : pI s = none := by
      rw [pI]
      split
      · rename_i v e; exact absurd ⟨v, e⟩ hok
      · rfl
    have ha := hid (fun w hv => strconv_Atoi_no s w hv h (fun v e => hok ⟨v, e⟩))
    have Hv := hid hv
    rw [hp]
    clear hok hp hv
    go_enter Tryz.func119, Tryz.ntmps119
    go_wp2_with (go_at_call 140; refine (ha.out _ (Hv.out.ext (by repeat' (first | exact Ext.refl _ | assumption | refine Ext.alloc ?_ _ | refine Ext.ext ?_ _ | refine Ext.drew ?_ | refine Ext.drewN ?_ _)))).mono ?_; rintro e w' ⟨x, t, N, rfl, z1, rfl⟩)
    go_ret2
    exact ⟨rfl, (by repeat' (first | exact Ext.refl _ | assumption | refine Ext.alloc ?_ _ | refine Ext.ext ?_ _ | refine Ext.drew ?_ | refine Ext.drewN ?_ _))⟩
/-- While numbers are gathered. -/
def NuW (w W : World) (u : Value) (L : List Int) : Prop := Ext w W ∧ W.ownsRow w.heap.size 3 1 u L.length (vInts L)
theorem NuW.ext {w W W' : World} {u : Value} {L : List Int} (h : NuW w W u L) (hx : Ext W W') : NuW w W' u L := ⟨h.1.trans hx, own_ext h.2 hx⟩
theorem NuW.grow {w W W' : World} {u u' : Value} {L : List Int} {x : Int} (h : NuW w W u L) (hg : W.grownBy W' u.ownBlock) (ho : W'.ownsRow w.heap.size 3 1 u' (L.length + 1) (vInts L ++ [.int .i64 x])) : NuW w W' u' (L ++ [x]) := by
  refine ⟨h.1.grown hg (fun j e => (own_row h.2 j e).1), ?_⟩
  rw [List.length_append, show vInts (L ++ [x]) = vInts L ++ [.int .i64 x] by simp [vInts]]
  exact ho
theorem pIs_take_no {L : List ByteArray} {k : Nat} (hk : k < L.length) (h : pI (L.getD k ByteArray.empty) = none) : pIs L = none := by
  have e : L = L.take k ++ L.getD k ByteArray.empty :: L.drop (k + 1) := by
    have e1 : L.getD k ByteArray.empty = L[k] := by rw [List.getD_eq_getElem?_getD, List.getElem?_eq_getElem hk]; rfl
    rw [e1, List.getElem_cons_drop, List.take_append_drop]
  rw [e]
  exact pIs_bad h
theorem impl_parseInts (L : List ByteArray) (v : Value) (w : World) (h : Rd w 1 v L.length (vStrs L)) (hv : Vrs w) (ht : Tab w) (h2 : L.length ≤ 1048577) (h3 : ∀ i, i < L.length → (L.getD i ByteArray.empty).size ≤ 1048576) :
    Calls Tryz.prog 88 #[v] w fun e w' => ∃ r, e = .returned (.tuple #[r, .bool (pIs L).isSome]) ∧ w'.ownsRow w.heap.size 3 1 r ((pIs L).getD []).length (vInts ((pIs L).getD [])) ∧ Ext w w' := by
  obtain ⟨h1, p, cap, rfl, h4⟩ := h
  have H4 := hid h4
  have Hv := hid hv
  have Ht := hid ht
  have H3 := hid h3
  clear h4 h1 hv ht h3
  obtain ⟨i0, hi, hz0, hz1, hz2⟩ := info_parts infoInt
  go_enter Tryz.func88, Tryz.ntmps88
  go_wp2
  go_loopw [11, 4] (fun v11 v4 wr => ∃ (k : Nat) (u : Value) (vs : List Int), k ≤ L.length ∧ v11 = .int .i64 k ∧ v4 = u ∧ vs.length ≤ k ∧ Hid (pIs (L.take k) = some vs ∧ NuW w wr u vs)) (fun v11 _ _ => L.length - (intOf v11).toNat)
  case atStart => exact ⟨0, _, [], Nat.zero_le _, rfl, rfl, Nat.le_refl _, ⟨rfl, (by repeat' (first | exact Ext.refl _ | assumption | refine Ext.alloc ?_ _ | refine Ext.ext ?_ _ | refine Ext.drew ?_ | refine Ext.drewN ?_ _)), World.ownsRow_nil _ _ _ _⟩⟩
  case round =>
    obtain ⟨k, u, vs, hk, rfl, rfl, hl, HR⟩ := hrel
    obtain ⟨up, uc, rfl⟩ := own_shape HR.out.2.2
    by_cases hlt : k < L.length
    · obtain ⟨b, off, rfl, h6⟩ := H4.out.resolve_left (by omega)
      have c0 := HR.out.2.1.cell (elem1 Value.string ByteArray.empty L h6 k hlt)
      have hz := H3.out k hlt
      have hsn := pIs_snoc HR.out.1 (L.getD k ByteArray.empty)
      rw [← take_snoc L ByteArray.empty k hlt] at hsn
      have hno := fun e => pIs_take_no hlt e
      generalize L.getD k ByteArray.empty = s at *
      have hc := hid (fun w hv ht => impl_ParseInt s w hv ht hz)
      clear h6
      cases hp : pI s with
      | none =>
        rw [hp] at hc
        have Hn := hid (hno hp)
        clear hno hsn hp
        go_wp2_with (go_at_call 119; refine (hc.out _ (Hv.out.ext (HR.out.2.1.trans (by repeat' (first | exact Ext.refl _ | assumption | refine Ext.alloc ?_ _ | refine Ext.ext ?_ _ | refine Ext.drew ?_ | refine Ext.drewN ?_ _)))) (Ht.out.ext (HR.out.2.1.trans (by repeat' (first | exact Ext.refl _ | assumption | refine Ext.alloc ?_ _ | refine Ext.ext ?_ _ | refine Ext.drew ?_ | refine Ext.drewN ?_ _))))).mono ?_; rintro e w' ⟨rfl, z1, rfl⟩)
        go_ret2
        refine ⟨_, by rw [Hn.out]; rfl, by rw [Hn.out]; exact World.ownsRow_nil _ _ _ _, HR.out.2.1.trans (by repeat' (first | exact Ext.refl _ | assumption | refine Ext.alloc ?_ _ | refine Ext.ext ?_ _ | refine Ext.drew ?_ | refine Ext.drewN ?_ _))⟩
      | some x =>
        rw [hp] at hc hsn
        have Hs := hid hsn
        clear hno hsn hp
        go_wp2_with fail
        go_at_call 119
        refine (hc.out _ (Hv.out.ext (HR.out.2.1.trans (by repeat' (first | exact Ext.refl _ | assumption | refine Ext.alloc ?_ _ | refine Ext.ext ?_ _ | refine Ext.drew ?_ | refine Ext.drewN ?_ _)))) (Ht.out.ext (HR.out.2.1.trans (by repeat' (first | exact Ext.refl _ | assumption | refine Ext.alloc ?_ _ | refine Ext.ext ?_ _ | refine Ext.drew ?_ | refine Ext.drewN ?_ _))))).mono ?_
        rintro e wq ⟨rfl, hx⟩
        have H1 := hid (HR.out.2.ext hx)
        clear hx HR c0
        go_wp2_with (at_builtin; refine wpList_append_own _ rfl _ _ 41 rfl w.heap.size 3 i0 (.int .i64 0) 1 8 Tryz.underlying41 hi hz0 hz1 hz2 rfl (by decide) _ _ _ rfl ((own_ext H1.out.2 (by repeat' (first | exact Ext.refl _ | assumption | refine Ext.alloc ?_ _ | refine Ext.ext ?_ _ | refine Ext.drew ?_ | refine Ext.drewN ?_ _)))) ⟨_, 0, none⟩ 1 1 [.int .i64 x] rfl ?a0A ?a1A ?a2A ?a3A ?a4A ?a5A ?_)
        (try case a0A => rfl)
        case a1A => (intro j u hj; rw [Addr.add_lit, Nat.zero_add, cell_of_row _ _ j _ _ (0, 0) (heap_at _ rfl)]; first | (simpa using hj) | (simpa [hwb.out] using hj))
        case a2A => simp [Value.oneCell']
        case a3A => (first | (unfold maxLen; simp; done) | (unfold maxLen; simp; omega))
        case a4A => (first | omega | (simp; omega))
        case a5A => (have := (H1.out.1.size); first | omega | (simp at *; omega))
        intro v' w1 hown' hgrow hat
        have H2 := hid ((H1.out.ext (show Ext wq (wq.alloc (.cells #[.int .i64 x] 3)) from (by repeat' (first | exact Ext.refl _ | assumption | refine Ext.alloc ?_ _ | refine Ext.ext ?_ _ | refine Ext.drew ?_ | refine Ext.drewN ?_ _)))).grow hgrow hown')
        obtain ⟨vp, vc, rfl⟩ := own_shape hown'
        clear hown' hgrow hat
        clear H1
        go_wp2
        go_roundw
        case rel => exact ⟨k + 1, _, vs ++ [x], by omega, by go_num, rfl, by simp; omega, ⟨Hs.out, H2.out⟩⟩
        case measure => simp [intOf]; omega
    · obtain rfl : k = L.length := by omega
      have hp := HR.out.1
      rw [List.take_length] at hp
      have Hp := hid hp
      clear hp
      go_wp2
      go_ret2
      exact ⟨_, by rw [Hp.out]; rfl, by rw [Hp.out]; exact HR.out.2.2, HR.out.2.1⟩
end Go.Proofs.YtljknhocfjpolaaGreatDoor
