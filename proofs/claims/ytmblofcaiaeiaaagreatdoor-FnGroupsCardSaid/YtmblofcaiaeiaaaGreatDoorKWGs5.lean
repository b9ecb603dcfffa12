/- Where a group is: the program's. -/
import Derived.Test.YtmblofcaiaeiaaaGreatDoorKWGs4
import Derived.Shelf.Small.Strs
namespace Go.Proofs.YtmblofcaiaeiaaaGreatDoor
open Go.RowKit
set_option maxHeartbeats 400000
set_option maxRecDepth 100000
def gpos (gs : List Grp) (name : ByteArray) : Nat := gs.countP (fun g => bl g.s name)
def fhas (gs : List Grp) (name : ByteArray) : Bool := gs.any (fun g => decide (g.s = name))
def fidx (gs : List Grp) (name : ByteArray) : Nat := gs.findIdx (fun g => decide (g.s = name))
theorem getD_mem {gs : List Grp} {i : Nat} (h : i < gs.length) : gs.getD i .z ∈ gs := by
  rw [List.getD_eq_getElem?_getD, List.getElem?_eq_getElem h]; exact List.getElem_mem h
theorem gpos_at {gs : List Grp} {name : ByteArray} {k : Nat} (hk : k ≤ gs.length) (hlo : ∀ i, i < k → bl (gs.getD i .z).s name = true) (hhi : ∀ i, k ≤ i → i < gs.length → bl (gs.getD i .z).s name = false) : gpos gs name = k := by
  unfold gpos
  have e : gs = gs.take k ++ gs.drop k := (List.take_append_drop k gs).symm
  rw [e, List.countP_append]
  have h1 : (gs.take k).countP (fun g => bl g.s name) = k := by
    rw [List.countP_eq_length.2, List.length_take, Nat.min_eq_left hk]
    intro y hy
    obtain ⟨i, hi, rfl⟩ := List.mem_iff_getElem.1 hy
    rw [List.length_take] at hi
    have := hlo i (by omega)
    rw [List.getElem_take]
    rwa [List.getD_eq_getElem?_getD, List.getElem?_eq_getElem (by omega)] at this
  have h2 : (gs.drop k).countP (fun g => bl g.s name) = 0 := by
    rw [List.countP_eq_zero]
    intro y hy
    obtain ⟨i, hi, rfl⟩ := List.mem_iff_getElem.1 hy
    rw [List.length_drop] at hi
    rw [List.getElem_drop]
    have := hhi (k + i) (by omega) (by omega)
    rw [List.getD_eq_getElem?_getD, List.getElem?_eq_getElem (by omega)] at this
    simpa using this
  rw [h1, h2]
  rfl
/-- Names ascend. -/
def srt (gs : List Grp) : Prop := ∀ i j, i < j → j < gs.length → bl (gs.getD i .z).s (gs.getD j .z).s = true
theorem goodG_srt {gs : List Grp} (h : goodG gs = true) : srt gs := fun _ _ h1 h2 => goodG_bl h h1 h2
theorem fhas_at {gs : List Grp} {name : ByteArray} {k : Nat} (h : k < gs.length) (e : (gs.getD k .z).s = name) : fhas gs name = true := by
  rw [fhas, List.any_eq_true]
  exact ⟨_, getD_mem h, by simpa using e⟩
theorem fhas_no {gs : List Grp} {name : ByteArray} (h : ∀ i, i < gs.length → ¬ (gs.getD i .z).s = name) : fhas gs name = false := by
  rw [← Bool.not_eq_true, fhas, List.any_eq_true]
  rintro ⟨g, hg, e⟩
  obtain ⟨i, hi, rfl⟩ := List.mem_iff_getElem.1 hg
  refine h i hi ?_
  rw [List.getD_eq_getElem?_getD, List.getElem?_eq_getElem hi]
  simpa using e
theorem fidx_at {gs : List Grp} {name : ByteArray} {k : Nat} (h : k < gs.length) (hn : ∀ i, i < k → ¬ (gs.getD i .z).s = name) (e : (gs.getD k .z).s = name) : fidx gs name = k := by
  rw [fidx, List.findIdx_eq h]
  constructor
  · rw [List.getD_eq_getElem?_getD, List.getElem?_eq_getElem h] at e
    simpa using e
  · intro j hj
    have := hn j hj
    rw [List.getD_eq_getElem?_getD, List.getElem?_eq_getElem (by omega)] at this
    simpa using this
theorem fhas_get {gs : List Grp} {name : ByteArray} (h : fhas gs name = true) : fidx gs name < gs.length ∧ (gs.getD (fidx gs name) .z).s = name := by
  rw [fhas, List.any_eq_true] at h
  have h1 : fidx gs name < gs.length := List.findIdx_lt_length.2 h
  refine ⟨h1, ?_⟩
  have h2 : gs.findIdx (fun g => decide (g.s = name)) < gs.length := h1
  have := List.findIdx_getElem (xs := gs) (p := fun g => decide (g.s = name)) (w := h2)
  rw [List.getD_eq_getElem?_getD, List.getElem?_eq_getElem h1]
  exact of_decide_eq_true this
/-- In a row that ascends a name is where it would be. -/
theorem gpos_fidx {gs : List Grp} {name : ByteArray} (hs : srt gs) (h : fhas gs name = true) : gpos gs name = fidx gs name := by
  obtain ⟨h1, h2⟩ := fhas_get h
  refine gpos_at (by omega) (fun i hi => ?_) (fun i hi hi2 => ?_)
  · have := hs i _ hi h1
    rwa [h2] at this
  · by_cases e : i = fidx gs name
    · subst e
      rw [h2, bl_irrefl]
    · have := hs (fidx gs name) i (by omega) hi2
      rw [h2] at this
      rw [← Bool.not_eq_true]
      intro h3
      have := bl_trans h3 this
      rw [bl_irrefl] at this
      cases this
theorem gpos_here {gs : List Grp} {name : ByteArray} (hs : srt gs) {k : Nat} (hk : k ≤ gs.length) (hlo : ∀ i, i < k → bl (gs.getD i .z).s name = true) (hhi : ∀ i, k ≤ i → i < gs.length → bl (gs.getD i .z).s name = false) :
    fhas gs name = (decide (k < gs.length) && decide ((gs.getD k .z).s = name)) := by
  by_cases h : k < gs.length
  · by_cases e : (gs.getD k .z).s = name
    · rw [fhas_at h e, decide_eq_true h, decide_eq_true e]; rfl
    · rw [fhas_no (fun i hi he => ?_)]
      · rw [decide_eq_false e, Bool.and_false]
      · by_cases h1 : i < k
        · have := hlo i h1
          rw [he, bl_irrefl] at this
          cases this
        · by_cases h2 : i = k
          · subst h2; exact e he
          · have h3 := hs k i (by omega) hi
            have h4 := hhi k (Nat.le_refl _) h
            rw [he, h4] at h3
            cases h3
  · rw [fhas_no (fun i hi he => ?_)]
    · rw [decide_eq_false h, Bool.false_and]
    · have := hlo i (by omega)
      rw [he, bl_irrefl] at this
      cases this
def ren106 : Go.Shelf.Ren := ⟨fun x => if x = 106 then 60 else if x = 213 then 80 else if x = 265 then 92 else x, fun x => if x = 3 then 3 else if x = 9 then 9 else x, fun x => x⟩
theorem lays106 : Go.Proofs.Lays.n106 Tryz.prog ren106 := by constructor <;> first | kernel_rfl | (intro w; kernel_rfl)
theorem strings_Compare (a b : ByteArray) (w : World) :
    Calls Tryz.prog 60 #[.string a, .string b] w fun e w' => e = .returned (.int .i64 (Lib.compareBytes a.data.toList b.data.toList)) ∧ w = w' :=
  (Any.strings_Compare lays106 a b w).mono fun _ _ ⟨h, e⟩ => ⟨h, e.symm⟩
theorem impl_findGroup_1 (s name : ByteArray) (u : Value) (w : World) :
    Calls Tryz.prog 59 #[.agg #[.string s, u], .string name] w fun e w' => e = .returned (.int .i64 (Lib.compareBytes s.data.toList name.data.toList)) ∧ Ext w w' := by
  go_enter Tryz.func59, Tryz.ntmps59
  go_wp2_with (go_at_call 60; refine (strings_Compare _ _ _).mono ?_; rintro e w' ⟨rfl, rfl⟩)
  go_ret
  exact ⟨rfl, (by repeat' (first | exact Ext.refl _ | assumption | refine Ext.alloc ?_ _ | refine Ext.ext ?_ _ | refine Ext.drew ?_ | refine Ext.drewN ?_ _))⟩
theorem slices_BinarySearchFunc_grp (gs : List Grp) (cs : List Gc) (v : Value) (name : ByteArray) (w : World) (h : GRd w v gs cs) (h2 : gs.length ≤ 1048576) (hs : srt gs) :
    Calls Tryz.prog 58 #[v, .string name, .func (.func 59) #[] #[]] w fun e w' => e = .returned (.tuple #[.int .i64 (gpos gs name), .bool (fhas gs name)]) ∧ Ext w w' := by
  have Hv := hid h
  have Hs := hid hs
  obtain ⟨p, cap, rfl, h4⟩ := h.form
  have H4 := hid h4
  have eg : ∀ args w, (callFunc 59 args).run Tryz.prog w = .ok (.enter 59 args) w := enters_of Tryz.func59 (by kernel_rfl) rfl
  clear h4 h hs
  go_enter Tryz.func58, Tryz.ntmps58
  go_wp2
  go_loopw [9, 10] (fun v9 v10 wr => ∃ i j : Nat, i ≤ j ∧ j ≤ gs.length ∧ v9 = .int .i64 i ∧ v10 = .int .i64 j ∧ Hid (∀ k, k < i → bl (gs.getD k .z).s name = true) ∧ Hid (∀ k, j ≤ k → k < gs.length → bl (gs.getD k .z).s name = false) ∧ Ext w wr) (fun v9 v10 _ => (intOf v10).toNat - (intOf v9).toNat)
  case atStart => exact ⟨0, gs.length, Nat.zero_le _, Nat.le_refl _, rfl, rfl, fun k hk => absurd hk (Nat.not_lt_zero _), fun k h1 h2 => absurd h2 (by omega), Ext.refl _⟩
  case round =>
    obtain ⟨i, j, hij, hj, rfl, rfl, hlo, hhi, z, rfl⟩ := hrel
    by_cases hlt : i < j
    · obtain ⟨b, off, rfl⟩ := H4.out.resolve_left (by omega)
      obtain ⟨m, hm⟩ : ∃ m, (i + j) / 2 = m := ⟨_, rfl⟩
      have hml : i ≤ m ∧ m < j := by omega
      obtain ⟨c0, c1⟩ := Hv.out.at m (by omega)
      have hlo2 : bl (gs.getD m .z).s name = true → ∀ k, k < m + 1 → bl (gs.getD k .z).s name = true := fun hb k hk => by
        by_cases e : k = m
        · subst e; exact hb
        · exact bl_trans (Hs.out k m (by omega) (by omega)) hb
      have hhi2 : bl (gs.getD m .z).s name = false → ∀ k, m ≤ k → k < gs.length → bl (gs.getD k .z).s name = false := fun hb k hk hk2 => by
        by_cases e : k = m
        · subst e; exact hb
        · rw [← Bool.not_eq_true]
          intro h3
          rw [bl_trans (Hs.out m k (by omega) hk2) h3] at hb
          cases hb
      have Hlo2 := hid hlo2
      have Hhi2 := hid hhi2
      clear hlo2 hhi2
      generalize hS : (gs.getD m .z).s = s at *
      generalize (cs.getD m .z).u = u at *
      have hc := bl_cmp s name
      have hf := hid (fun u w => impl_findGroup_1 s name u w)
      clear hS
      cases hb : bl s name
      · rw [hb] at hc
        have Hb := hid hb
        clear hb
        go_wp2_with (go_at_fn 59; refine (hf.out _ _).mono ?_; rintro e w' ⟨rfl, z1, rfl⟩)
        go_roundw
        case rel => exact ⟨i, m, hml.1, by omega, rfl, by go_num, hlo, Hhi2.out Hb.out, (by repeat' (first | exact Ext.refl _ | assumption | refine Ext.alloc ?_ _ | refine Ext.ext ?_ _ | refine Ext.drew ?_ | refine Ext.drewN ?_ _))⟩
        case measure => simp [intOf]; omega
      · rw [hb] at hc
        have Hb := hid hb
        clear hb
        go_wp2_with (go_at_fn 59; refine (hf.out _ _).mono ?_; rintro e w' ⟨rfl, z1, rfl⟩)
        go_roundw
        case rel => exact ⟨m + 1, j, by omega, hj, by go_num, rfl, Hlo2.out Hb.out, hhi, (by repeat' (first | exact Ext.refl _ | assumption | refine Ext.alloc ?_ _ | refine Ext.ext ?_ _ | refine Ext.drew ?_ | refine Ext.drewN ?_ _))⟩
        case measure => simp [intOf]; omega
    · obtain rfl : i = j := by omega
      have hpos := hid (gpos_at hj hlo.out hhi.out)
      have hhere := gpos_here Hs.out hj hlo.out hhi.out
      by_cases hlt2 : i < gs.length
      · obtain ⟨b, off, rfl⟩ := H4.out.resolve_left (by omega)
        obtain ⟨c0, c1⟩ := Hv.out.at i hlt2
        rw [decide_eq_true hlt2, Bool.true_and] at hhere
        generalize (gs.getD i .z).s = s at *
        generalize (cs.getD i .z).u = u at *
        have hf := hid (fun u w => impl_findGroup_1 s name u w)
        have hc := bl_zero s name
        rw [← hhere] at hc
        have Hc := hid hc
        clear hhere hlo hhi hc
        go_wp2_with (go_at_fn 59; refine (hf.out _ _).mono ?_; rintro e w' ⟨rfl, z1, rfl⟩)
        go_ret2
        exact ⟨by rw [hpos.out, ← Hc.out]; rfl, (by repeat' (first | exact Ext.refl _ | assumption | refine Ext.alloc ?_ _ | refine Ext.ext ?_ _ | refine Ext.drew ?_ | refine Ext.drewN ?_ _))⟩
      · rw [decide_eq_false hlt2, Bool.false_and] at hhere
        have Hh := hid hhere
        clear hhere hlo hhi
        go_wp2
        go_ret2
        exact ⟨by rw [hpos.out, Hh.out]; rfl, (by repeat' (first | exact Ext.refl _ | assumption | refine Ext.alloc ?_ _ | refine Ext.ext ?_ _ | refine Ext.drew ?_ | refine Ext.drewN ?_ _))⟩
theorem impl_findGroup (gs : List Grp) (cs : List Gc) (v : Value) (name : ByteArray) (w : World) (h : GRd w v gs cs) (h2 : gs.length ≤ 1048576) (hs : srt gs) :
    Calls Tryz.prog 29 #[v, .string name] w fun e w' => e = .returned (.tuple #[.int .i64 (gpos gs name), .bool (fhas gs name)]) ∧ Ext w w' := by
  have hc := hid (fun w h => slices_BinarySearchFunc_grp gs cs v name w h h2 hs)
  have Hv := hid h
  generalize (gpos gs name : Int) = P at *
  generalize fhas gs name = B at *
  clear h hs
  go_enter Tryz.func29, Tryz.ntmps29
  go_wp2_with (go_at_call 58; refine (hc.out _ Hv.out).mono ?_; rintro e w' ⟨rfl, z1, rfl⟩)
  go_ret2
  exact ⟨rfl, (by repeat' (first | exact Ext.refl _ | assumption | refine Ext.alloc ?_ _ | refine Ext.ext ?_ _ | refine Ext.drew ?_ | refine Ext.drewN ?_ _))⟩
/-- Where the program finds a group: its place and whether it is there. -/
def hgP (gs : List Grp) (name : ByteArray) : Int := if goodG gs then gpos gs name else 0
def hgB (gs : List Grp) (name : ByteArray) : Bool := goodG gs && fhas gs name
theorem impl_hasGroup (gs : List Grp) (cs : List Gc) (v : Value) (name : ByteArray) (w : World) (h : GRd w v gs cs) (h2 : gs.length ≤ 1048576) (h3 : Grp.sum gs ≤ 1048576) :
    Calls Tryz.prog 39 #[v, .string name] w fun e w' => e = .returned (.tuple #[.int .i64 (hgP gs name), .bool (hgB gs name)]) ∧ Ext w w' := by
  have hl := hid (fun w h => impl_IsGroupList gs cs v w h h2 h3)
  have Hv := hid h
  unfold hgP hgB
  cases e1 : goodG gs
  · rw [e1] at hl
    clear e1 h
    go_enter Tryz.func39, Tryz.ntmps39
    go_wp2_with (go_at_call 11; refine (hl.out _ Hv.out).mono ?_; rintro e w' ⟨rfl, z1, rfl⟩)
    go_ret2
    exact ⟨rfl, (by repeat' (first | exact Ext.refl _ | assumption | refine Ext.alloc ?_ _ | refine Ext.ext ?_ _ | refine Ext.drew ?_ | refine Ext.drewN ?_ _))⟩
  · rw [e1] at hl
    have hc := hid (fun w h => impl_findGroup gs cs v name w h h2 (goodG_srt e1))
    generalize (gpos gs name : Int) = P at *
    generalize fhas gs name = B at *
    clear e1 h
    go_enter Tryz.func39, Tryz.ntmps39
    go_wp2_with (first | (go_at_call 11; refine (hl.out _ Hv.out).mono ?_; rintro e w' ⟨rfl, z1, rfl⟩) | (go_at_call 29; refine (hc.out _ (Hv.out.ext (by repeat' (first | exact Ext.refl _ | assumption | refine Ext.alloc ?_ _ | refine Ext.ext ?_ _ | refine Ext.drew ?_ | refine Ext.drewN ?_ _)))).mono ?_; rintro e w' ⟨rfl, z2, rfl⟩))
    go_ret2
    exact ⟨rfl, (by repeat' (first | exact Ext.refl _ | assumption | refine Ext.alloc ?_ _ | refine Ext.ext ?_ _ | refine Ext.drew ?_ | refine Ext.drewN ?_ _))⟩
end Go.Proofs.YtmblofcaiaeiaaaGreatDoor
