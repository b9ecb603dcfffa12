/- Whole reports: both sides. -/
import Derived.Test.YtbencjbdbilmnaaDoorWAgr
namespace Go.Proofs.YtbencjbdbilmnaaDoor
open Go.RowKit
set_option maxHeartbeats 400000
set_option maxRecDepth 100000
def NOREC : ByteArray := ⟨#[84, 104, 101, 114, 101, 32, 97, 114, 101, 32, 110, 111, 32, 114, 101, 99, 101, 105, 118, 101, 114, 115, 46]⟩
def SP : ByteArray := ⟨#[32]⟩
/-- The first k + 1 sentences, joined. -/
def repTo (xs : List Dlv) : Nat → ByteArray
  | 0 => delT (xs.getD 0 .z)
  | k + 1 => repTo xs k ++ SP ++ delT (xs.getD (k + 1) .z)
def repX (xs : List Dlv) : ByteArray := if xs.length = 0 then NOREC else repTo xs (xs.length - 1)
def rtT (xs : List Dlv) : ByteArray := if areD xs then repX xs else ⟨#[]⟩
theorem repTo_join (d : Dlv) (r : List Dlv) : ∀ k, k ≤ r.length → (repTo (d :: r) k).data.toList = (delT d).data.toList ++ Lib.joinTail SP.data.toList ((r.map (fun x => (delT x).data.toList)).take k)
  | 0, _ => by simp [repTo, Lib.joinTail]
  | k + 1, h => by
    have hk : (r.map (fun x => (delT x).data.toList))[k]? = some (delT (r.getD k .z)).data.toList := by
      rw [List.getElem?_map, List.getElem?_eq_getElem (by omega), List.getD_eq_getElem?_getD, List.getElem?_eq_getElem (by omega)]
      rfl
    rw [Lib.joinTail_take_succ _ _ _ _ hk, repTo]
    have ih := repTo_join d r k (by omega)
    simp only [ByteArray.data_append, Array.toList_append, ih, List.getD_cons_succ, List.append_assoc]
theorem rep_join {xs : List Dlv} (h : xs.length ≠ 0) : joinS (xs.map delT) SP = repTo xs (xs.length - 1) := by
  cases xs with
  | nil => simp at h
  | cons d r =>
    apply ByteArray.ext
    apply Array.ext'
    have := repTo_join d r r.length (Nat.le_refl _)
    rw [List.length_cons, Nat.add_sub_cancel, this, joinS, List.map_map, List.map_cons, Lib.join_cons]
    congr 2
    rw [List.take_of_length_le (by simp)]
    rfl
theorem repTo_size {xs : List Dlv} (h : areD xs = true) : ∀ k, k < xs.length → (repTo xs k).size ≤ 201 * (k + 1)
  | 0, hk => by
    have := delT_size (areD_ok h 0 hk)
    show (delT _).size ≤ _
    omega
  | k + 1, hk => by
    have h1 := delT_size (areD_ok h (k + 1) hk)
    have h2 := repTo_size h k (by omega)
    rw [repTo, ByteArray.size_append, ByteArray.size_append]
    show _ + 1 + _ ≤ _
    omega
theorem rt_no {xs : List Dlv} (h : areD xs = false) : rtT xs = ⟨#[]⟩ := by rw [rtT, h]; rfl
theorem rt_yes {xs : List Dlv} (h : areD xs = true) : rtT xs = repX xs := by rw [rtT, h]; rfl
theorem spec_l26Report (xs : List Dlv) (v : Value) (w : World) (h : Rd w 4 v xs.length (xs.flatMap Dlv.cs)) (h2 : xs.length ≤ 1048576) (ha : areD xs = true) :
    Calls Tryd.prog 34 #[v] w fun e w' => e = .returned (.string (repX xs)) ∧ Ext w w' := by
  obtain ⟨h1, p, cap, rfl, h4⟩ := h
  by_cases h0 : xs.length = 0
  · have hf : Hid (repX xs = NOREC) := by show repX xs = NOREC; rw [repX, if_pos h0]
    have h00 := h0
    rw [h0]
    clear h1 h4 ha h0
    go_enter Tryd.func34, Tryd.ntmps34
    go_wp2_with fail
    go_ret
    exact ⟨by rw [hf.out]; rfl, (by repeat' (first | exact Ext.refl _ | assumption | refine Ext.alloc ?_ _ | refine Ext.ext ?_ _ | refine Ext.drew ?_ | refine Ext.drewN ?_ _))⟩
  · have hf : Hid (repX xs = repTo xs (xs.length - 1)) := by show repX xs = _; rw [repX, if_neg h0]
    obtain ⟨b, off, rfl, h6⟩ := h4.resolve_left h0
    have t0 : ((xs.length : Int) == 0) = false := by rw [beq_eq_false_iff_ne]; omega
    have hlen : 0 < xs.length := by omega
    have ok := fun i hi => areD_ok ha i hi
    have hsz := fun k hk => repTo_size ha k hk
    have H6 := hid h6
    have Ok := hid ok
    have Hsz := hid hsz
    obtain ⟨c0, c1, c2, c3⟩ := elem4 Dlv.cs .z Dlv.len xs h6 0 hlen
    have o0 := ok 0 hlen
    have hr0 : Hid (repTo xs 0 = delT (xs.getD 0 .z)) := rfl
    generalize xs.getD 0 .z = d at c0 c1 c2 c3 o0 hr0
    obtain ⟨r, g, p, l⟩ := d
    simp only [Dlv.cs, List.getElem?_cons_zero, List.getElem?_cons_succ, Nat.zero_mul, Nat.add_zero] at c0 c1 c2 c3
    have k0 := hid (fun w => spec_l26Text r g p l w o0)
    clear ok hsz h6 h1 h4 ha h0 o0
    go_enter Tryd.func34, Tryd.ntmps34
    go_wp2_with (go_at_call 27; refine (k0.out _).mono ?_; rintro e w' ⟨rfl, z1, rfl⟩)
    go_loopw [4, 3] (fun v4 v3 wr => ∃ k : Nat, k + 1 ≤ xs.length ∧ v4 = .int .i64 ((k : Int) + 1) ∧ v3 = .string (repTo xs k) ∧ Ext w wr) (fun v4 _ _ => xs.length - (intOf v4).toNat)
    case atStart => exact ⟨0, hlen, rfl, by rw [hr0.out], (by repeat' (first | exact Ext.refl _ | assumption | refine Ext.alloc ?_ _ | refine Ext.ext ?_ _ | refine Ext.drew ?_ | refine Ext.drewN ?_ _))⟩
    case round =>
      obtain ⟨k, hk, rfl, rfl, hx⟩ := hrel
      have Hx := hid hx
      clear hx
      have hsk := Hsz.out k (by omega)
      by_cases hlt : k + 1 < xs.length
      · obtain ⟨c0, c1, c2, c3⟩ := elem4 Dlv.cs .z Dlv.len xs H6.out (k + 1) hlt
        have o1 := Ok.out (k + 1) hlt
        have hst : Hid (repTo xs (k + 1) = repTo xs k ++ SP ++ delT (xs.getD (k + 1) .z)) := rfl
        generalize xs.getD (k + 1) .z = d at c0 c1 c2 c3 o1 hst
        obtain ⟨r, g, p, l⟩ := d
        simp only [Dlv.cs, List.getElem?_cons_zero, List.getElem?_cons_succ] at c0 c1 c2 c3
        replace c0 := Hx.out.cell c0
        replace c1 := Hx.out.cell c1
        replace c2 := Hx.out.cell c2
        replace c3 := Hx.out.cell c3
        have hs1 := delT_size o1
        have k1 := hid (fun w => spec_l26Text r g p l w o1)
        clear o1
        generalize delT ⟨r, g, p, l⟩ = D at *
        generalize hR : repTo xs k = R at *
        clear hR
        go_wp2_with (go_at_call 27; refine (k1.out _).mono ?_; rintro e w' ⟨rfl, z1, rfl⟩)
        go_roundw
        case rel => exact ⟨k + 1, by omega, by go_num, by rw [hst.out]; rfl, Hx.out.trans (by repeat' (first | exact Ext.refl _ | assumption | refine Ext.alloc ?_ _ | refine Ext.ext ?_ _ | refine Ext.drew ?_ | refine Ext.drewN ?_ _))⟩
        case measure => simp [intOf]; omega
      · obtain rfl : k = xs.length - 1 := by omega
        go_wp2
        go_ret
        exact ⟨by rw [hf.out]; rfl, Hx.out⟩
theorem spec_ReportText (xs : List Dlv) (v : Value) (w : World) (h : Rd w 4 v xs.length (xs.flatMap Dlv.cs)) (h2 : xs.length ≤ 1048576) :
    Calls Tryd.prog 15 #[v] w fun e w' => e = .returned (.tuple #[.string (rtT xs), .bool (areD xs)]) ∧ Ext w w' := by
  have Hr := hid h
  have hg : Hid (∀ w, Rd w 4 v xs.length (xs.flatMap Dlv.cs) → Calls Tryd.prog 33 #[v] w fun e w' => e = .returned (.bool (areD xs)) ∧ Ext w w') := fun w h => spec_l26Good xs v w h h2
  clear h
  cases e1 : areD xs
  · rw [rt_no e1]
    rw [e1] at hg
    clear e1
    go_enter Tryd.func15, Tryd.ntmps15
    go_wp2_with (go_at_call 33; (refine (hg.out _ (Hr.out.ext (by repeat' (first | exact Ext.refl _ | assumption | refine Ext.alloc ?_ _ | refine Ext.ext ?_ _ | refine Ext.drew ?_ | refine Ext.drewN ?_ _)))).mono ?_); rintro e w1 ⟨rfl, z1, rfl⟩)
    go_ret2
    exact ⟨rfl, (by repeat' (first | exact Ext.refl _ | assumption | refine Ext.alloc ?_ _ | refine Ext.ext ?_ _ | refine Ext.drew ?_ | refine Ext.drewN ?_ _))⟩
  · rw [rt_yes e1]
    rw [e1] at hg
    have hx : Hid (∀ w, Rd w 4 v xs.length (xs.flatMap Dlv.cs) → Calls Tryd.prog 34 #[v] w fun e w' => e = .returned (.string (repX xs)) ∧ Ext w w') := fun w h => spec_l26Report xs v w h h2 e1
    clear e1
    go_enter Tryd.func15, Tryd.ntmps15
    go_wp2_with (first | (go_at_call 33; (refine (hg.out _ (Hr.out.ext (by repeat' (first | exact Ext.refl _ | assumption | refine Ext.alloc ?_ _ | refine Ext.ext ?_ _ | refine Ext.drew ?_ | refine Ext.drewN ?_ _)))).mono ?_); rintro e w1 ⟨rfl, z1, rfl⟩) | (go_at_call 34; (refine (hx.out _ (Hr.out.ext (by repeat' (first | exact Ext.refl _ | assumption | refine Ext.alloc ?_ _ | refine Ext.ext ?_ _ | refine Ext.drew ?_ | refine Ext.drewN ?_ _)))).mono ?_); rintro e w2 ⟨rfl, z2, rfl⟩))
    go_ret2
    exact ⟨rfl, (by repeat' (first | exact Ext.refl _ | assumption | refine Ext.alloc ?_ _ | refine Ext.ext ?_ _ | refine Ext.drew ?_ | refine Ext.drewN ?_ _))⟩
theorem vStrs_snoc (L : List ByteArray) (s : ByteArray) : vStrs (L ++ [s]) = vStrs L ++ [.string s] := by simp [vStrs]
theorem impl_ReportText (xs : List Dlv) (v : Value) (w : World) (h : Rd w 4 v xs.length (xs.flatMap Dlv.cs)) (h2 : xs.length ≤ 1048576) (ht : Tab w) :
    Calls Tryd.prog 16 #[v] w fun e w' => e = .returned (.tuple #[.string (rtT xs), .bool (areD xs)]) ∧ Ext w w' := by
  have Hr := hid h
  have Ht := hid ht
  obtain ⟨h1, p, cap, rfl, h4⟩ := h
  have hg : Hid (∀ w, Rd w 4 (.slice p xs.length cap) xs.length (xs.flatMap Dlv.cs) → Calls Tryd.prog 35 #[.slice p xs.length cap] w fun e w' => e = .returned (.bool (areD xs)) ∧ Ext w w') := fun w h => impl_areDeliveries xs _ w h h2
  clear ht
  cases e1 : areD xs
  · rw [rt_no e1]
    rw [e1] at hg
    clear e1 h1 h4
    go_enter Tryd.func16, Tryd.ntmps16
    go_wp2_with (go_at_call 35; (refine (hg.out _ (Hr.out.ext (by repeat' (first | exact Ext.refl _ | assumption | refine Ext.alloc ?_ _ | refine Ext.ext ?_ _ | refine Ext.drew ?_ | refine Ext.drewN ?_ _)))).mono ?_); rintro e w1 ⟨rfl, z1, rfl⟩)
    go_ret2
    exact ⟨rfl, (by repeat' (first | exact Ext.refl _ | assumption | refine Ext.alloc ?_ _ | refine Ext.ext ?_ _ | refine Ext.drew ?_ | refine Ext.drewN ?_ _))⟩
  rw [rt_yes e1]
  rw [e1] at hg
  by_cases h0 : xs.length = 0
  · have hf : Hid (repX xs = NOREC) := by show repX xs = NOREC; rw [repX, if_pos h0]
    rw [hf.out]
    rw [h0] at hg Hr ⊢
    clear e1 h1 h4 h0
    go_enter Tryd.func16, Tryd.ntmps16
    go_wp2_with (go_at_call 35; (refine (hg.out _ (Hr.out.ext (by repeat' (first | exact Ext.refl _ | assumption | refine Ext.alloc ?_ _ | refine Ext.ext ?_ _ | refine Ext.drew ?_ | refine Ext.drewN ?_ _)))).mono ?_); rintro e w1 ⟨rfl, z1, rfl⟩)
    go_ret2
    exact ⟨rfl, (by repeat' (first | exact Ext.refl _ | assumption | refine Ext.alloc ?_ _ | refine Ext.ext ?_ _ | refine Ext.drew ?_ | refine Ext.drewN ?_ _))⟩
  · have hf : Hid (repX xs = joinS (xs.map delT) SP) := by show repX xs = _; rw [rep_join h0, repX, if_neg h0]
    have hsz : (joinS (xs.map delT) SP).size ≤ 140737488355328 := by
      rw [rep_join h0]
      have := repTo_size e1 (xs.length - 1) (by omega)
      omega
    have hjn := hid (fun v w h => strings_Join (xs.map delT) SP v w.heap.size w h (by rw [List.length_map]; exact h2) hsz)
    have hjn2 : Hid (∀ v B w, w.ownsRow B 9 1 v (xs.map delT).length (vStrs (xs.map delT)) → Calls Tryd.prog 36 #[v, .string SP] w fun e w' => e = .returned (.string (joinS (xs.map delT) SP)) ∧ Ext w w') := fun v B w h => strings_Join (xs.map delT) SP v B w h (by rw [List.length_map]; exact h2) hsz
    have t0 : ((xs.length : Int) == 0) = false := by rw [beq_eq_false_iff_ne]; omega
    obtain ⟨b, off, rfl, h6⟩ := h4.resolve_left h0
    have ok := fun i hi => areD_ok e1 i hi
    have H6 := hid h6
    have Ok := hid ok
    have hsn := hid (fun k hk => take_snoc xs Dlv.z k hk)
    have hln : Hid (∀ k, k ≤ xs.length → ((xs.take k).map delT).length = k) := fun k hk => by rw [List.length_map, List.length_take]; omega
    obtain ⟨i0, hi, hz0, hz1, hz2⟩ := info_parts infoStr
    have SPe : Hid (SP = ⟨#[32]⟩) := rfl
    clear e1 h1 h4 h0 hsz hjn ok h6
    rw [SPe.out] at hjn2 hf
    generalize joinS (xs.map delT) ⟨#[32]⟩ = J at *
    go_enter Tryd.func16, Tryd.ntmps16
    go_wp2_with (go_at_call 35; (refine (hg.out _ (Hr.out.ext (by repeat' (first | exact Ext.refl _ | assumption | refine Ext.alloc ?_ _ | refine Ext.ext ?_ _ | refine Ext.drew ?_ | refine Ext.drewN ?_ _)))).mono ?_); rintro e w1 ⟨rfl, z1, rfl⟩)
    go_loopw [15, 4] (fun v15 v4 wr => ∃ k : Nat, k ≤ xs.length ∧ v15 = .int .i64 k ∧ wr.ownsRow w.heap.size 9 1 v4 ((xs.take k).map delT).length (vStrs ((xs.take k).map delT)) ∧ Ext w wr) (fun v15 _ _ => xs.length - (intOf v15).toNat)
    case atStart => exact ⟨0, Nat.zero_le _, rfl, World.ownsRow_nil _ _ _ _, (by repeat' (first | exact Ext.refl _ | assumption | refine Ext.alloc ?_ _ | refine Ext.ext ?_ _ | refine Ext.drew ?_ | refine Ext.drewN ?_ _))⟩
    case round =>
      obtain ⟨k, hk, rfl, hown, hx⟩ := hrel
      have Hown := hid hown
      have Hx := hid hx
      clear hown hx hg
      by_cases hlt : k < xs.length
      · obtain ⟨c0, c1, c2, c3⟩ := elem4 Dlv.cs .z Dlv.len xs H6.out k hlt
        have o1 := Ok.out k hlt
        have hst := hsn.out k hlt
        have hl := hln.out k hk
        generalize xs.getD k .z = d at c0 c1 c2 c3 o1 hst
        obtain ⟨r, g, p, l⟩ := d
        simp only [Dlv.cs, List.getElem?_cons_zero, List.getElem?_cons_succ] at c0 c1 c2 c3
        replace c0 := Hx.out.cell c0
        replace c1 := Hx.out.cell c1
        replace c2 := Hx.out.cell c2
        replace c3 := Hx.out.cell c3
        have kd := hid (fun w ht => impl_deliveryText r g p l w o1 ht)
        have hs2 : (xs.take (k + 1)).map delT = (xs.take k).map delT ++ [delT ⟨r, g, p, l⟩] := by rw [hst]; simp
        have Hs2 := hid hs2
        clear o1 hst hs2 hsn hln
        generalize delT ⟨r, g, p, l⟩ = D at *
        generalize hP : (xs.take k).map delT = P at *
        clear hP
        go_wp2_with (first
          | (go_at_call 29; (refine (kd.out _ (Ht.out.ext (Hx.out.trans (by repeat' (first | exact Ext.refl _ | assumption | refine Ext.alloc ?_ _ | refine Ext.ext ?_ _ | refine Ext.drew ?_ | refine Ext.drewN ?_ _))))).mono ?_); rintro e w3 ⟨rfl, hx3⟩; have Hx3 := hid ((show Ext w _ from Hx.out.trans (by repeat' (first | exact Ext.refl _ | assumption | refine Ext.alloc ?_ _ | refine Ext.ext ?_ _ | refine Ext.drew ?_ | refine Ext.drewN ?_ _))).trans hx3); have hown3 := own_ext Hown.out ((show Ext wr _ from (by repeat' (first | exact Ext.refl _ | assumption | refine Ext.alloc ?_ _ | refine Ext.ext ?_ _ | refine Ext.drew ?_ | refine Ext.drewN ?_ _))).trans hx3); clear hx3)
          | (at_builtin; refine wpList_append_own _ rfl _ _ 51 rfl w.heap.size 9 i0 (.string ByteArray.empty) 1 16 Tryd.underlying51 hi hz0 hz1 hz2 rfl (by decide) _ _ _ rfl (hown3.alloc _) ⟨_, 0, none⟩ 1 1 [.string D] rfl rfl ?c1 ?c2 ?c3 ?c4 ?c5 ?_))
        (try case c1 => (intro j u hj; cases j with | zero => (simp at hj; subst hj; simp [Addr.add]) | succ j => simp at hj))
        case c2 => simp [Value.oneCell']
        case c3 => unfold maxLen; simp; omega
        case c4 => omega
        case c5 => have := Hx3.out.size; simp; omega
        intro v' w1 hown' hgrow _
        have hx2 : Ext w w1 := (Hx3.out.alloc _).grown hgrow (fun j hj => (hown3.lt j hj).1)
        have Hx2 := hid hx2; clear hx2 hgrow
        go_wp2
        go_roundw
        case rel => exact ⟨k + 1, by omega, by go_num, by rw [Hs2.out, List.length_append, hl]; simpa [vStrs] using hown', Hx2.out⟩
        case measure => simp [intOf]; omega
      · obtain rfl : k = xs.length := by omega
        have ho := Hown.out
        rw [List.take_length] at ho
        have Ho := hid ho
        clear ho
        go_wp2_with (go_at_call 36; (refine (hjn2.out _ _ _ Ho.out).mono ?_); rintro e w3 ⟨rfl, hx3⟩; have Hx3 := hid hx3; clear hx3)
        go_ret2
        exact ⟨by rw [hf.out]; rfl, Hx.out.trans Hx3.out⟩
end Go.Proofs.YtbencjbdbilmnaaDoor
