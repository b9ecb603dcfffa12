/- Elements of a capture, chosen: both sides. -/
import Derived.Test.YtljknhocfjpolaaGreatDoorKWDelC
namespace Go.Proofs.YtljknhocfjpolaaGreatDoor
open Go.RowKit
set_option maxHeartbeats 1000000
set_option maxRecDepth 100000
def selD (xs : List Cap) (b : Bool) (p : Cap → Bool) : List Cap := if capB xs && b then xs.filter p else []
theorem sel_no {xs : List Cap} {b : Bool} {p : Cap → Bool} (h : (capB xs && b) = false) : selD xs b p = [] := by rw [selD, h]; rfl
theorem sel_yes {xs : List Cap} {b : Bool} {p : Cap → Bool} (h : capB xs = true) (h1 : b = true) : selD xs b p = xs.filter p := by rw [selD, h, h1]; rfl
theorem selD_len (xs : List Cap) (b : Bool) (p : Cap → Bool) : (selD xs b p).length ≤ xs.length := by
  rw [selD]
  split
  · exact List.length_filter_le _ _
  · simp
theorem impl_chosen_1 (xs : List Cap) (p : Cap → Bool) (g : Nat) (lb : Array Value) (eg : ∀ args w, (callFunc g args).run Tryz.prog w = .ok (.enter g args) w) (B : Nat) (t n : Int) (u : Bool) (c m r l : Int) (d : ByteArray) (w0 w : World) (hm : (⟨t, n, u, c, m, r, l, d⟩ : Cap) ∈ xs) (hx : Ext w0 w)
    (hB : w.cell? ⟨B, 0, none⟩ = some (.func (.func g) #[] lb)) (hF : ∀ t n u c m r l d w', (⟨t, n, u, c, m, r, l, d⟩ : Cap) ∈ xs → Ext w0 w' → Calls Tryz.prog g (#[.agg #[.int .i64 t, .int .i64 n, .bool u, .int .i64 c, .int .i64 m, .int .i64 r, .int .i64 l, .string d]] ++ lb) w' fun e w'' => e = .returned (.bool (p ⟨t, n, u, c, m, r, l, d⟩)) ∧ Ext w' w'') :
    Calls Tryz.prog 104 (#[.agg #[.int .i64 t, .int .i64 n, .bool u, .int .i64 c, .int .i64 m, .int .i64 r, .int .i64 l, .string d]] ++ #[.pointer (some ⟨B, 0, none⟩)]) w fun e w' => e = .returned (.bool (!p ⟨t, n, u, c, m, r, l, d⟩)) ∧ Ext w w' := by
  have hnot : ∀ (x : Bool) (w : World), (Op.unary .not (.bool x)).run Tryz.prog w = .ok (.bool (!x)) w := fun _ _ => rfl
  have Hf := hid (fun w' hx' => hF t n u c m r l d w' hm (hx.trans hx'))
  clear hF hm hx
  generalize p ⟨t, n, u, c, m, r, l, d⟩ = pb at *
  go_enter Tryz.func104, Tryz.ntmps104
  go_wp2_with (go_at_fn g; refine (Hf.out _ (by repeat' (first | exact Ext.refl _ | assumption | refine Ext.alloc ?_ _ | refine Ext.ext ?_ _ | refine Ext.drew ?_ | refine Ext.drewN ?_ _))).mono ?_; rintro e w' ⟨rfl, z1, rfl⟩)
  go_ret
  exact ⟨rfl, (by repeat' (first | exact Ext.refl _ | assumption | refine Ext.alloc ?_ _ | refine Ext.ext ?_ _ | refine Ext.drew ?_ | refine Ext.drewN ?_ _))⟩
theorem impl_chosen (xs : List Cap) (q off : Nat) {qc : Nat} (p : Cap → Bool) (g : Nat) (lb : Array Value) (eg : ∀ args w, (callFunc g args).run Tryz.prog w = .ok (.enter g args) w) (w : World) (h : Rd w 8 (.slice (some ⟨q, off, none⟩) xs.length qc) xs.length (xs.flatMap Cap.cs)) (h2 : xs.length ≤ 1048576)
    (hF : ∀ t n u c m r l d w', (⟨t, n, u, c, m, r, l, d⟩ : Cap) ∈ xs → Ext w w' → Calls Tryz.prog g (#[.agg #[.int .i64 t, .int .i64 n, .bool u, .int .i64 c, .int .i64 m, .int .i64 r, .int .i64 l, .string d]] ++ lb) w' fun e w'' => e = .returned (.bool (p ⟨t, n, u, c, m, r, l, d⟩)) ∧ Ext w' w'') :
    Calls Tryz.prog 61 #[.slice (some ⟨q, off, none⟩) xs.length qc, .func (.func g) #[] lb] w fun e w' => ∃ r, e = .returned r ∧ w'.ownsRow w.heap.size 48 8 r (xs.filter p).length ((xs.filter p).flatMap Cap.cs) ∧ Ext w w' := by
  have Hr := hid h
  have HF := hid hF
  clear h hF
  go_enter Tryz.func61, Tryz.ntmps61
  go_wp2_with fail
  have XB : Ext w (w.alloc (.cells #[.func (.func g) #[] lb] 68)) := (by repeat' (first | exact Ext.refl _ | assumption | refine Ext.alloc ?_ _ | refine Ext.ext ?_ _ | refine Ext.drew ?_ | refine Ext.drewN ?_ _))
  have hb : (w.alloc (.cells #[.func (.func g) #[] lb] 68)).cell? ⟨w.heap.size, 0, none⟩ = some (.func (.func g) #[] lb) := by rw [cell_of_row _ _ 0 _ _ (0, 0) (heap_at _ rfl)]; rfl
  have hsz : w.heap.size ≤ (w.alloc (.cells #[.func (.func g) #[] lb] 68)).heap.size := by simp
  generalize (w.alloc (.cells #[.func (.func g) #[] lb] 68)) = W at *
  go_at_call 103
  refine (slices_Clone_cap xs q off _ (Hr.out.ext XB) h2).mono ?_
  rintro e w1 ⟨r1, rfl, ho, hx1⟩
  have Ho := hid ho
  clear ho
  go_wp2_with fail
  go_at_call 102
  refine (slices_DeleteFunc_cap xs (fun x => !p x) 104 #[.pointer (some ⟨w.heap.size, 0, none⟩)] (enters_of Tryz.func104 (by kernel_rfl) rfl) r1 W w1 Ho.out hx1 h2 (fun t n u c m r l d w' hm hx => impl_chosen_1 xs p g lb eg w.heap.size t n u c m r l d w w' hm (XB.trans hx) (hx.cell hb) HF.out)).mono ?_
  rintro e w2 ⟨r2, rfl, ho2, hx2⟩
  have hff : xs.filter (fun x => !(!p x)) = xs.filter p := by simp
  rw [hff] at ho2
  have Ho2 := hid (own_mono ho2 hsz)
  have Hx2 := hid (XB.trans hx2)
  clear ho2 hx2 hx1 hff XB hb
  go_wp2
  go_ret
  exact ⟨_, rfl, Ho2.out, Hx2.out⟩
theorem filter_snoc (p : Cap → Bool) (xs : List Cap) (k : Nat) (h : k < xs.length) : (xs.take (k + 1)).filter p = (xs.take k).filter p ++ (if p (xs.getD k .z) then [xs.getD k .z] else []) := by
  rw [take_snoc xs .z k h, List.filter_append]
  congr 1
  generalize xs.getD k .z = x
  cases hp : p x <;> simp [hp]
theorem filter_le (p : Cap → Bool) (xs : List Cap) (k : Nat) (h : k ≤ xs.length) : ((xs.take k).filter p).length ≤ k := Nat.le_trans (List.length_filter_le _ _) (by rw [List.length_take]; omega)
theorem spec_OnLink (xs : List Cap) (v : Value) (q : Int) (w : World) (h : Rd w 8 v xs.length (xs.flatMap Cap.cs)) (h2 : xs.length ≤ 1048576) (h3 : Cap.chars xs ≤ 1048576) :
    Calls Tryz.prog 23 #[v, .int .i64 q] w fun e w' => ∃ r, e = .returned (.tuple #[r, .bool (capB xs && inB q 1 7)]) ∧ w'.ownsRow w.heap.size 48 8 r (selD xs (inB q 1 7) (fun x : Cap => x.n == q)).length ((selD xs (inB q 1 7) (fun x : Cap => x.n == q)).flatMap Cap.cs) ∧ Ext w w' := by
  have hN := fun w => spec_l21Node q w
  generalize inB q 1 7 = B at *
  have Hr := hid h
  obtain ⟨h1, p, cap, rfl, h4⟩ := h
  have hg : Hid (∀ w, Rd w 8 (.slice p xs.length cap) xs.length (xs.flatMap Cap.cs) → Calls Tryz.prog 40 #[.slice p xs.length cap] w fun e w' => e = .returned (.bool (capB xs)) ∧ Ext w w') := fun w h => spec_l25Good xs _ w h h2 h3
  have hs := hid (fun w => hN w)
  have ho0 := World.ownsRow_lit (base := w.heap.size) (e := 48) (size := 8) w #[] 0 (Nat.le_refl _) (Nat.zero_le _) rfl
  have Ho0 := hid ho0
  obtain ⟨i0, hi, hz0, hz1, hz2⟩ := info_parts infoCap
  clear ho0 h1
  cases e1 : capB xs
  · rw [sel_no (by rw [e1]; rfl)]
    rw [e1] at hg
    clear e1 h4 hi hz0 hz1 hz2
    go_enter Tryz.func23, Tryz.ntmps23
    go_wp2_with (go_at_call 40; (refine (hg.out _ (Hr.out.ext (by repeat' (first | exact Ext.refl _ | assumption | refine Ext.alloc ?_ _ | refine Ext.ext ?_ _ | refine Ext.drew ?_ | refine Ext.drewN ?_ _)))).mono ?_); rintro e w1 ⟨rfl, z1, rfl⟩)
    go_ret2
    exact ⟨_, rfl, own_ext Ho0.out (by repeat' (first | exact Ext.refl _ | assumption | refine Ext.alloc ?_ _ | refine Ext.ext ?_ _ | refine Ext.drew ?_ | refine Ext.drewN ?_ _)), (by repeat' (first | exact Ext.refl _ | assumption | refine Ext.alloc ?_ _ | refine Ext.ext ?_ _ | refine Ext.drew ?_ | refine Ext.drewN ?_ _))⟩
  rw [e1] at hg
  cases e2 : B
  · subst e2
    rw [sel_no (by rw [Bool.and_false])]
    clear e1 h4 hi hz0 hz1 hz2
    go_enter Tryz.func23, Tryz.ntmps23
    go_wp2_with (first | (go_at_call 40; (refine (hg.out _ (Hr.out.ext (by repeat' (first | exact Ext.refl _ | assumption | refine Ext.alloc ?_ _ | refine Ext.ext ?_ _ | refine Ext.drew ?_ | refine Ext.drewN ?_ _)))).mono ?_); rintro e w1 ⟨rfl, z1, rfl⟩) | (go_at_call 65; refine (hs.out _).mono ?_; rintro e w' ⟨rfl, rfl⟩))
    go_ret2
    exact ⟨_, rfl, own_ext Ho0.out (by repeat' (first | exact Ext.refl _ | assumption | refine Ext.alloc ?_ _ | refine Ext.ext ?_ _ | refine Ext.drew ?_ | refine Ext.drewN ?_ _)), (by repeat' (first | exact Ext.refl _ | assumption | refine Ext.alloc ?_ _ | refine Ext.ext ?_ _ | refine Ext.drew ?_ | refine Ext.drewN ?_ _))⟩
  subst e2
  rw [sel_yes e1 rfl]
  have H4 := hid h4
  have hsn := hid (filter_snoc (fun x : Cap => x.n == q) xs)
  have hln := hid (filter_le (fun x : Cap => x.n == q) xs)
  clear e1 h4
  go_enter Tryz.func23, Tryz.ntmps23
  go_wp2_with (first | (go_at_call 40; (refine (hg.out _ (Hr.out.ext (by repeat' (first | exact Ext.refl _ | assumption | refine Ext.alloc ?_ _ | refine Ext.ext ?_ _ | refine Ext.drew ?_ | refine Ext.drewN ?_ _)))).mono ?_); rintro e w1 ⟨rfl, z1, rfl⟩) | (go_at_call 65; refine (hs.out _).mono ?_; rintro e w' ⟨rfl, rfl⟩))
  go_loopw [7, 6] (fun v7 v6 wr => ∃ k : Nat, k ≤ xs.length ∧ v7 = .int .i64 k ∧ wr.ownsRow w.heap.size 48 8 v6 ((xs.take k).filter (fun x : Cap => x.n == q)).length (((xs.take k).filter (fun x : Cap => x.n == q)).flatMap Cap.cs) ∧ Ext w wr) (fun v7 _ _ => xs.length - (intOf v7).toNat)
  case atStart => exact ⟨0, Nat.zero_le _, rfl, own_ext Ho0.out (by repeat' (first | exact Ext.refl _ | assumption | refine Ext.alloc ?_ _ | refine Ext.ext ?_ _ | refine Ext.drew ?_ | refine Ext.drewN ?_ _)), (by repeat' (first | exact Ext.refl _ | assumption | refine Ext.alloc ?_ _ | refine Ext.ext ?_ _ | refine Ext.drew ?_ | refine Ext.drewN ?_ _))⟩
  case round =>
    obtain ⟨k, hk, rfl, hown, hx⟩ := hrel
    have Hown := hid hown
    have Hx := hid hx
    clear hown hx hg hs
    by_cases hlt : k < xs.length
    · obtain ⟨b, off, rfl, h6⟩ := H4.out.resolve_left (by omega)
      obtain ⟨c0, c1, c2, c3, c4, c5, c6, c7⟩ := Cap.at xs h6 k hlt
      have hst := hsn.out k hlt
      have hl0 := hln.out k hk
      clear h6
      generalize xs.getD k .z = x at c0 c1 c2 c3 c4 c5 c6 c7 hst
      obtain ⟨t, n, u, c, m, r, l, d⟩ := x
      dsimp only at c0 c1 c2 c3 c4 c5 c6 c7 hst
      replace c0 := Hx.out.cell c0
      replace c1 := Hx.out.cell c1
      replace c2 := Hx.out.cell c2
      replace c3 := Hx.out.cell c3
      replace c4 := Hx.out.cell c4
      replace c5 := Hx.out.cell c5
      replace c6 := Hx.out.cell c6
      replace c7 := Hx.out.cell c7
      generalize (xs.take k).filter (fun x : Cap => x.n == q) = P at *
      cases ht : ((fun x : Cap => x.n == q) ⟨t, n, u, c, m, r, l, d⟩ : Bool)
      · dsimp only at ht
        rw [ht] at hst
        have Hst := hid hst
        clear hst
        go_wp2
        go_roundw
        case rel => exact ⟨k + 1, by omega, by go_num, by rw [Hst.out]; simpa using Hown.out, Hx.out⟩
        case measure => simp [intOf]; omega
      · dsimp only at ht
        rw [ht] at hst
        have Hst := hid hst
        clear hst
        go_wp2_with (at_builtin; refine wpList_append_own _ rfl _ _ 22 rfl w.heap.size 48 i0 (.agg #[.int .i64 0, .int .i64 0, .bool false, .int .i64 0, .int .i64 0, .int .i64 0, .int .i64 0, .string ByteArray.empty]) 8 72 Tryz.underlying22 hi hz0 hz1 hz2 rfl (by decide) _ _ _ rfl ((own_ext Hown.out (by repeat' (first | exact Ext.refl _ | assumption | refine Ext.alloc ?_ _ | refine Ext.ext ?_ _ | refine Ext.drew ?_ | refine Ext.drewN ?_ _)))) ⟨_, 0, none⟩ 1 1 [.int .i64 t, .int .i64 n, .bool u, .int .i64 c, .int .i64 m, .int .i64 r, .int .i64 l, .string d] rfl ?c0 ?c1 ?c2 ?c3 ?c4 ?c5 ?_)
        (try case c0 => rfl)
        (try case c1 => (intro j u hj; rw [Addr.add_lit, Nat.zero_add, cell_of_row _ _ j _ _ (0, 0) (heap_at _ rfl)]; simpa using hj))
        case c2 => simp [Value.oneCell']
        case c3 => unfold maxLen; simp; omega
        case c4 => omega
        case c5 => have := Hx.out.size; simp; omega
        intro v' w1 hown' hgrow _
        have hx2 : Ext w w1 := (Hx.out.trans (by repeat' (first | exact Ext.refl _ | assumption | refine Ext.alloc ?_ _ | refine Ext.ext ?_ _ | refine Ext.drew ?_ | refine Ext.drewN ?_ _))).grown hgrow (fun j hj => (Hown.out.lt j hj).1)
        have Hx2 := hid hx2
        have Hown2 := hid hown'
        clear hx2 hgrow hown'
        go_wp2
        go_roundw
        case rel => exact ⟨k + 1, by omega, by go_num, by rw [Hst.out]; simpa [Cap.cs] using Hown2.out, Hx2.out⟩
        case measure => simp [intOf]; omega
    · obtain rfl : k = xs.length := by omega
      have ho := Hown.out
      rw [List.take_length] at ho
      have Ho := hid ho
      clear ho
      go_wp2
      go_ret2
      exact ⟨_, rfl, Ho.out, Hx.out⟩
theorem spec_OfKind (xs : List Cap) (v : Value) (q : Int) (w : World) (h : Rd w 8 v xs.length (xs.flatMap Cap.cs)) (h2 : xs.length ≤ 1048576) (h3 : Cap.chars xs ≤ 1048576) :
    Calls Tryz.prog 20 #[v, .int .i64 q] w fun e w' => ∃ r, e = .returned (.tuple #[r, .bool (capB xs && inB q 1 5)]) ∧ w'.ownsRow w.heap.size 48 8 r (selD xs (inB q 1 5) (fun x : Cap => x.c == q)).length ((selD xs (inB q 1 5) (fun x : Cap => x.c == q)).flatMap Cap.cs) ∧ Ext w w' := by
  have hN := fun w => spec_l1In q 1 5 w
  generalize inB q 1 5 = B at *
  have Hr := hid h
  obtain ⟨h1, p, cap, rfl, h4⟩ := h
  have hg : Hid (∀ w, Rd w 8 (.slice p xs.length cap) xs.length (xs.flatMap Cap.cs) → Calls Tryz.prog 40 #[.slice p xs.length cap] w fun e w' => e = .returned (.bool (capB xs)) ∧ Ext w w') := fun w h => spec_l25Good xs _ w h h2 h3
  have hs := hid (fun w => hN w)
  have ho0 := World.ownsRow_lit (base := w.heap.size) (e := 48) (size := 8) w #[] 0 (Nat.le_refl _) (Nat.zero_le _) rfl
  have Ho0 := hid ho0
  obtain ⟨i0, hi, hz0, hz1, hz2⟩ := info_parts infoCap
  clear ho0 h1
  cases e1 : capB xs
  · rw [sel_no (by rw [e1]; rfl)]
    rw [e1] at hg
    clear e1 h4 hi hz0 hz1 hz2
    go_enter Tryz.func20, Tryz.ntmps20
    go_wp2_with (go_at_call 40; (refine (hg.out _ (Hr.out.ext (by repeat' (first | exact Ext.refl _ | assumption | refine Ext.alloc ?_ _ | refine Ext.ext ?_ _ | refine Ext.drew ?_ | refine Ext.drewN ?_ _)))).mono ?_); rintro e w1 ⟨rfl, z1, rfl⟩)
    go_ret2
    exact ⟨_, rfl, own_ext Ho0.out (by repeat' (first | exact Ext.refl _ | assumption | refine Ext.alloc ?_ _ | refine Ext.ext ?_ _ | refine Ext.drew ?_ | refine Ext.drewN ?_ _)), (by repeat' (first | exact Ext.refl _ | assumption | refine Ext.alloc ?_ _ | refine Ext.ext ?_ _ | refine Ext.drew ?_ | refine Ext.drewN ?_ _))⟩
  rw [e1] at hg
  cases e2 : B
  · subst e2
    rw [sel_no (by rw [Bool.and_false])]
    clear e1 h4 hi hz0 hz1 hz2
    go_enter Tryz.func20, Tryz.ntmps20
    go_wp2_with (first | (go_at_call 40; (refine (hg.out _ (Hr.out.ext (by repeat' (first | exact Ext.refl _ | assumption | refine Ext.alloc ?_ _ | refine Ext.ext ?_ _ | refine Ext.drew ?_ | refine Ext.drewN ?_ _)))).mono ?_); rintro e w1 ⟨rfl, z1, rfl⟩) | (go_at_call 63; refine (hs.out _).mono ?_; rintro e w' ⟨rfl, rfl⟩))
    go_ret2
    exact ⟨_, rfl, own_ext Ho0.out (by repeat' (first | exact Ext.refl _ | assumption | refine Ext.alloc ?_ _ | refine Ext.ext ?_ _ | refine Ext.drew ?_ | refine Ext.drewN ?_ _)), (by repeat' (first | exact Ext.refl _ | assumption | refine Ext.alloc ?_ _ | refine Ext.ext ?_ _ | refine Ext.drew ?_ | refine Ext.drewN ?_ _))⟩
  subst e2
  rw [sel_yes e1 rfl]
  have H4 := hid h4
  have hsn := hid (filter_snoc (fun x : Cap => x.c == q) xs)
  have hln := hid (filter_le (fun x : Cap => x.c == q) xs)
  clear e1 h4
  go_enter Tryz.func20, Tryz.ntmps20
  go_wp2_with (first | (go_at_call 40; (refine (hg.out _ (Hr.out.ext (by repeat' (first | exact Ext.refl _ | assumption | refine Ext.alloc ?_ _ | refine Ext.ext ?_ _ | refine Ext.drew ?_ | refine Ext.drewN ?_ _)))).mono ?_); rintro e w1 ⟨rfl, z1, rfl⟩) | (go_at_call 63; refine (hs.out _).mono ?_; rintro e w' ⟨rfl, rfl⟩))
  go_loopw [7, 6] (fun v7 v6 wr => ∃ k : Nat, k ≤ xs.length ∧ v7 = .int .i64 k ∧ wr.ownsRow w.heap.size 48 8 v6 ((xs.take k).filter (fun x : Cap => x.c == q)).length (((xs.take k).filter (fun x : Cap => x.c == q)).flatMap Cap.cs) ∧ Ext w wr) (fun v7 _ _ => xs.length - (intOf v7).toNat)
  case atStart => exact ⟨0, Nat.zero_le _, rfl, own_ext Ho0.out (by repeat' (first | exact Ext.refl _ | assumption | refine Ext.alloc ?_ _ | refine Ext.ext ?_ _ | refine Ext.drew ?_ | refine Ext.drewN ?_ _)), (by repeat' (first | exact Ext.refl _ | assumption | refine Ext.alloc ?_ _ | refine Ext.ext ?_ _ | refine Ext.drew ?_ | refine Ext.drewN ?_ _))⟩
  case round =>
    obtain ⟨k, hk, rfl, hown, hx⟩ := hrel
    have Hown := hid hown
    have Hx := hid hx
    clear hown hx hg hs
    by_cases hlt : k < xs.length
    · obtain ⟨b, off, rfl, h6⟩ := H4.out.resolve_left (by omega)
      obtain ⟨c0, c1, c2, c3, c4, c5, c6, c7⟩ := Cap.at xs h6 k hlt
      have hst := hsn.out k hlt
      have hl0 := hln.out k hk
      clear h6
      generalize xs.getD k .z = x at c0 c1 c2 c3 c4 c5 c6 c7 hst
      obtain ⟨t, n, u, c, m, r, l, d⟩ := x
      dsimp only at c0 c1 c2 c3 c4 c5 c6 c7 hst
      replace c0 := Hx.out.cell c0
      replace c1 := Hx.out.cell c1
      replace c2 := Hx.out.cell c2
      replace c3 := Hx.out.cell c3
      replace c4 := Hx.out.cell c4
      replace c5 := Hx.out.cell c5
      replace c6 := Hx.out.cell c6
      replace c7 := Hx.out.cell c7
      generalize (xs.take k).filter (fun x : Cap => x.c == q) = P at *
      cases ht : ((fun x : Cap => x.c == q) ⟨t, n, u, c, m, r, l, d⟩ : Bool)
      · dsimp only at ht
        rw [ht] at hst
        have Hst := hid hst
        clear hst
        go_wp2
        go_roundw
        case rel => exact ⟨k + 1, by omega, by go_num, by rw [Hst.out]; simpa using Hown.out, Hx.out⟩
        case measure => simp [intOf]; omega
      · dsimp only at ht
        rw [ht] at hst
        have Hst := hid hst
        clear hst
        go_wp2_with (at_builtin; refine wpList_append_own _ rfl _ _ 22 rfl w.heap.size 48 i0 (.agg #[.int .i64 0, .int .i64 0, .bool false, .int .i64 0, .int .i64 0, .int .i64 0, .int .i64 0, .string ByteArray.empty]) 8 72 Tryz.underlying22 hi hz0 hz1 hz2 rfl (by decide) _ _ _ rfl ((own_ext Hown.out (by repeat' (first | exact Ext.refl _ | assumption | refine Ext.alloc ?_ _ | refine Ext.ext ?_ _ | refine Ext.drew ?_ | refine Ext.drewN ?_ _)))) ⟨_, 0, none⟩ 1 1 [.int .i64 t, .int .i64 n, .bool u, .int .i64 c, .int .i64 m, .int .i64 r, .int .i64 l, .string d] rfl ?c0 ?c1 ?c2 ?c3 ?c4 ?c5 ?_)
        (try case c0 => rfl)
        (try case c1 => (intro j u hj; rw [Addr.add_lit, Nat.zero_add, cell_of_row _ _ j _ _ (0, 0) (heap_at _ rfl)]; simpa using hj))
        case c2 => simp [Value.oneCell']
        case c3 => unfold maxLen; simp; omega
        case c4 => omega
        case c5 => have := Hx.out.size; simp; omega
        intro v' w1 hown' hgrow _
        have hx2 : Ext w w1 := (Hx.out.trans (by repeat' (first | exact Ext.refl _ | assumption | refine Ext.alloc ?_ _ | refine Ext.ext ?_ _ | refine Ext.drew ?_ | refine Ext.drewN ?_ _))).grown hgrow (fun j hj => (Hown.out.lt j hj).1)
        have Hx2 := hid hx2
        have Hown2 := hid hown'
        clear hx2 hgrow hown'
        go_wp2
        go_roundw
        case rel => exact ⟨k + 1, by omega, by go_num, by rw [Hst.out]; simpa [Cap.cs] using Hown2.out, Hx2.out⟩
        case measure => simp [intOf]; omega
    · obtain rfl : k = xs.length := by omega
      have ho := Hown.out
      rw [List.take_length] at ho
      have Ho := hid ho
      clear ho
      go_wp2
      go_ret2
      exact ⟨_, rfl, Ho.out, Hx.out⟩
theorem impl_OnLink_1 (q : Int) (t n : Int) (u : Bool) (c m r l : Int) (d : ByteArray) (B : Nat) (w : World) (hB : w.cell? ⟨B, 0, none⟩ = some (.int .i64 q)) :
    Calls Tryz.prog 64 (#[.agg #[.int .i64 t, .int .i64 n, .bool u, .int .i64 c, .int .i64 m, .int .i64 r, .int .i64 l, .string d]] ++ #[.pointer (some ⟨B, 0, none⟩)]) w fun e w' => e = .returned (.bool (n == q)) ∧ Ext w w' := by
  by_cases hk : n = q
  · subst hk
    have hT : Hid ((n == n) = true) := beq_self_eq_true _
    go_enter Tryz.func64, Tryz.ntmps64
    repeat (first | (go_wp2_with (fail); refine wp_region_ext (by kernel_rfl) (by kernel_rfl) ?_; (repeat (go_big_quiet_step (fail))); refine wpQuiet_nil ?_; rintro _ ⟨zq, rfl⟩))
    go_wp2_with (fail)
    go_ret
    exact ⟨by rw [hT.out]; rfl, (by repeat' (first | exact Ext.refl _ | assumption | refine Ext.alloc ?_ _ | refine Ext.ext ?_ _ | refine Ext.drew ?_ | refine Ext.drewN ?_ _))⟩
  · have t0 : (n == q) = false := by simp [hk]
    have T0 := hid t0
    go_enter Tryz.func64, Tryz.ntmps64
    repeat (first | (go_wp2_with (fail); refine wp_region_ext (by kernel_rfl) (by kernel_rfl) ?_; (repeat (go_big_quiet_step (fail))); refine wpQuiet_nil ?_; rintro _ ⟨zq, rfl⟩))
    go_wp2_with (fail)
    go_ret
    exact ⟨by rw [T0.out]; rfl, (by repeat' (first | exact Ext.refl _ | assumption | refine Ext.alloc ?_ _ | refine Ext.ext ?_ _ | refine Ext.drew ?_ | refine Ext.drewN ?_ _))⟩
theorem impl_OnLink (xs : List Cap) (q0 off : Nat) {qc : Nat} (q : Int) (w : World) (h : Rd w 8 (.slice (some ⟨q0, off, none⟩) xs.length qc) xs.length (xs.flatMap Cap.cs)) (h2 : xs.length ≤ 1048576) (h3 : Cap.chars xs ≤ 1048576) :
    Calls Tryz.prog 22 #[.slice (some ⟨q0, off, none⟩) xs.length qc, .int .i64 q] w fun e w' => ∃ r, e = .returned (.tuple #[r, .bool (capB xs && inB q 1 7)]) ∧ w'.ownsRow w.heap.size 48 8 r (selD xs (inB q 1 7) (fun x : Cap => x.n == q)).length ((selD xs (inB q 1 7) (fun x : Cap => x.n == q)).flatMap Cap.cs) ∧ Ext w w' := by
  have hN := fun w => impl_isFace q w
  generalize inB q 1 7 = B at *
  have Hr := hid h
  have hg : Hid (∀ w, Rd w 8 (.slice (some ⟨q0, off, none⟩) xs.length qc) xs.length (xs.flatMap Cap.cs) → Calls Tryz.prog 15 #[.slice (some ⟨q0, off, none⟩) xs.length qc] w fun e w' => e = .returned (.bool (capB xs)) ∧ Ext w w') := fun w h => impl_IsCapture xs _ w h h2 h3
  have hs := hid (fun w => hN w)
  cases e1 : capB xs
  · rw [sel_no (by rw [e1]; rfl)]
    rw [e1] at hg
    clear e1 h
    go_enter Tryz.func22, Tryz.ntmps22
    go_wp2_with (go_at_call 15; (refine (hg.out _ (Hr.out.ext (by repeat' (first | exact Ext.refl _ | assumption | refine Ext.alloc ?_ _ | refine Ext.ext ?_ _ | refine Ext.drew ?_ | refine Ext.drewN ?_ _)))).mono ?_); rintro e w1 ⟨rfl, z1, rfl⟩)
    go_ret2
    exact ⟨_, rfl, World.ownsRow_nil _ _ _ _, (by repeat' (first | exact Ext.refl _ | assumption | refine Ext.alloc ?_ _ | refine Ext.ext ?_ _ | refine Ext.drew ?_ | refine Ext.drewN ?_ _))⟩
  rw [e1] at hg
  cases e2 : B
  · subst e2
    rw [sel_no (by rw [Bool.and_false])]
    clear e1 h
    go_enter Tryz.func22, Tryz.ntmps22
    go_wp2_with (first | (go_at_call 15; (refine (hg.out _ (Hr.out.ext (by repeat' (first | exact Ext.refl _ | assumption | refine Ext.alloc ?_ _ | refine Ext.ext ?_ _ | refine Ext.drew ?_ | refine Ext.drewN ?_ _)))).mono ?_); rintro e w1 ⟨rfl, z1, rfl⟩) | (go_at_call 53; refine (hs.out _).mono ?_; rintro e w' ⟨rfl, rfl⟩))
    go_ret2
    exact ⟨_, rfl, World.ownsRow_nil _ _ _ _, (by repeat' (first | exact Ext.refl _ | assumption | refine Ext.alloc ?_ _ | refine Ext.ext ?_ _ | refine Ext.drew ?_ | refine Ext.drewN ?_ _))⟩
  subst e2
  rw [sel_yes e1 rfl]
  clear e1 h
  go_enter Tryz.func22, Tryz.ntmps22
  go_wp2_with fail
  have XB : Ext w (w.alloc (.cells #[.int .i64 q] 3)) := (by repeat' (first | exact Ext.refl _ | assumption | refine Ext.alloc ?_ _ | refine Ext.ext ?_ _ | refine Ext.drew ?_ | refine Ext.drewN ?_ _))
  have hb : (w.alloc (.cells #[.int .i64 q] 3)).cell? ⟨w.heap.size, 0, none⟩ = some (.int .i64 q) := by rw [cell_of_row _ _ 0 _ _ (0, 0) (heap_at _ rfl)]; rfl
  generalize (w.alloc (.cells #[.int .i64 q] 3)) = W at *
  go_at_call 15
  refine (hg.out _ (Hr.out.ext XB)).mono ?_
  rintro e w1 ⟨rfl, hx1⟩
  have hb1 := hx1.cell hb
  have X1 := hid (XB.trans hx1)
  clear hx1 hb XB
  go_wp2_with (go_at_call 53; refine (hs.out _).mono ?_; rintro e w' ⟨rfl, rfl⟩)
  go_at_call 61
  refine (impl_chosen xs q0 off (fun x : Cap => x.n == q) 64 #[.pointer (some ⟨w.heap.size, 0, none⟩)] (enters_of Tryz.func64 (by kernel_rfl) rfl) w1 (Hr.out.ext X1.out) h2 (fun t n u c m r l d w' _ hx => impl_OnLink_1 q t n u c m r l d _ w' (hx.cell hb1))).mono ?_
  rintro e w2 ⟨r2, rfl, ho2, hx2⟩
  have Ho2 := hid (own_mono ho2 X1.out.size)
  have Hx2 := hid (X1.out.trans hx2)
  clear ho2 hx2 hb1
  go_wp2
  go_ret2
  exact ⟨_, rfl, Ho2.out, Hx2.out⟩
theorem impl_OfKind_1 (q : Int) (t n : Int) (u : Bool) (c m r l : Int) (d : ByteArray) (B : Nat) (w : World) (hB : w.cell? ⟨B, 0, none⟩ = some (.int .i64 q)) :
    Calls Tryz.prog 62 (#[.agg #[.int .i64 t, .int .i64 n, .bool u, .int .i64 c, .int .i64 m, .int .i64 r, .int .i64 l, .string d]] ++ #[.pointer (some ⟨B, 0, none⟩)]) w fun e w' => e = .returned (.bool (c == q)) ∧ Ext w w' := by
  by_cases hk : c = q
  · subst hk
    have hT : Hid ((c == c) = true) := beq_self_eq_true _
    go_enter Tryz.func62, Tryz.ntmps62
    repeat (first | (go_wp2_with (fail); refine wp_region_ext (by kernel_rfl) (by kernel_rfl) ?_; (repeat (go_big_quiet_step (fail))); refine wpQuiet_nil ?_; rintro _ ⟨zq, rfl⟩))
    go_wp2_with (fail)
    go_ret
    exact ⟨by rw [hT.out]; rfl, (by repeat' (first | exact Ext.refl _ | assumption | refine Ext.alloc ?_ _ | refine Ext.ext ?_ _ | refine Ext.drew ?_ | refine Ext.drewN ?_ _))⟩
  · have t0 : (c == q) = false := by simp [hk]
    have T0 := hid t0
    go_enter Tryz.func62, Tryz.ntmps62
    repeat (first | (go_wp2_with (fail); refine wp_region_ext (by kernel_rfl) (by kernel_rfl) ?_; (repeat (go_big_quiet_step (fail))); refine wpQuiet_nil ?_; rintro _ ⟨zq, rfl⟩))
    go_wp2_with (fail)
    go_ret
    exact ⟨by rw [T0.out]; rfl, (by repeat' (first | exact Ext.refl _ | assumption | refine Ext.alloc ?_ _ | refine Ext.ext ?_ _ | refine Ext.drew ?_ | refine Ext.drewN ?_ _))⟩
theorem impl_OfKind (xs : List Cap) (q0 off : Nat) {qc : Nat} (q : Int) (w : World) (h : Rd w 8 (.slice (some ⟨q0, off, none⟩) xs.length qc) xs.length (xs.flatMap Cap.cs)) (h2 : xs.length ≤ 1048576) (h3 : Cap.chars xs ≤ 1048576) :
    Calls Tryz.prog 19 #[.slice (some ⟨q0, off, none⟩) xs.length qc, .int .i64 q] w fun e w' => ∃ r, e = .returned (.tuple #[r, .bool (capB xs && inB q 1 5)]) ∧ w'.ownsRow w.heap.size 48 8 r (selD xs (inB q 1 5) (fun x : Cap => x.c == q)).length ((selD xs (inB q 1 5) (fun x : Cap => x.c == q)).flatMap Cap.cs) ∧ Ext w w' := by
  have hN := fun w => impl_within q 1 5 w
  generalize inB q 1 5 = B at *
  have Hr := hid h
  have hg : Hid (∀ w, Rd w 8 (.slice (some ⟨q0, off, none⟩) xs.length qc) xs.length (xs.flatMap Cap.cs) → Calls Tryz.prog 15 #[.slice (some ⟨q0, off, none⟩) xs.length qc] w fun e w' => e = .returned (.bool (capB xs)) ∧ Ext w w') := fun w h => impl_IsCapture xs _ w h h2 h3
  have hs := hid (fun w => hN w)
  cases e1 : capB xs
  · rw [sel_no (by rw [e1]; rfl)]
    rw [e1] at hg
    clear e1 h
    go_enter Tryz.func19, Tryz.ntmps19
    go_wp2_with (go_at_call 15; (refine (hg.out _ (Hr.out.ext (by repeat' (first | exact Ext.refl _ | assumption | refine Ext.alloc ?_ _ | refine Ext.ext ?_ _ | refine Ext.drew ?_ | refine Ext.drewN ?_ _)))).mono ?_); rintro e w1 ⟨rfl, z1, rfl⟩)
    go_ret2
    exact ⟨_, rfl, World.ownsRow_nil _ _ _ _, (by repeat' (first | exact Ext.refl _ | assumption | refine Ext.alloc ?_ _ | refine Ext.ext ?_ _ | refine Ext.drew ?_ | refine Ext.drewN ?_ _))⟩
  rw [e1] at hg
  cases e2 : B
  · subst e2
    rw [sel_no (by rw [Bool.and_false])]
    clear e1 h
    go_enter Tryz.func19, Tryz.ntmps19
    go_wp2_with (first | (go_at_call 15; (refine (hg.out _ (Hr.out.ext (by repeat' (first | exact Ext.refl _ | assumption | refine Ext.alloc ?_ _ | refine Ext.ext ?_ _ | refine Ext.drew ?_ | refine Ext.drewN ?_ _)))).mono ?_); rintro e w1 ⟨rfl, z1, rfl⟩) | (go_at_call 60; refine (hs.out _).mono ?_; rintro e w' ⟨rfl, rfl⟩))
    go_ret2
    exact ⟨_, rfl, World.ownsRow_nil _ _ _ _, (by repeat' (first | exact Ext.refl _ | assumption | refine Ext.alloc ?_ _ | refine Ext.ext ?_ _ | refine Ext.drew ?_ | refine Ext.drewN ?_ _))⟩
  subst e2
  rw [sel_yes e1 rfl]
  clear e1 h
  go_enter Tryz.func19, Tryz.ntmps19
  go_wp2_with fail
  have XB : Ext w (w.alloc (.cells #[.int .i64 q] 3)) := (by repeat' (first | exact Ext.refl _ | assumption | refine Ext.alloc ?_ _ | refine Ext.ext ?_ _ | refine Ext.drew ?_ | refine Ext.drewN ?_ _))
  have hb : (w.alloc (.cells #[.int .i64 q] 3)).cell? ⟨w.heap.size, 0, none⟩ = some (.int .i64 q) := by rw [cell_of_row _ _ 0 _ _ (0, 0) (heap_at _ rfl)]; rfl
  generalize (w.alloc (.cells #[.int .i64 q] 3)) = W at *
  go_at_call 15
  refine (hg.out _ (Hr.out.ext XB)).mono ?_
  rintro e w1 ⟨rfl, hx1⟩
  have hb1 := hx1.cell hb
  have X1 := hid (XB.trans hx1)
  clear hx1 hb XB
  go_wp2_with (go_at_call 60; refine (hs.out _).mono ?_; rintro e w' ⟨rfl, rfl⟩)
  go_at_call 61
  refine (impl_chosen xs q0 off (fun x : Cap => x.c == q) 62 #[.pointer (some ⟨w.heap.size, 0, none⟩)] (enters_of Tryz.func62 (by kernel_rfl) rfl) w1 (Hr.out.ext X1.out) h2 (fun t n u c m r l d w' _ hx => impl_OfKind_1 q t n u c m r l d _ w' (hx.cell hb1))).mono ?_
  rintro e w2 ⟨r2, rfl, ho2, hx2⟩
  have Ho2 := hid (own_mono ho2 X1.out.size)
  have Hx2 := hid (X1.out.trans hx2)
  clear ho2 hx2 hb1
  go_wp2
  go_ret2
  exact ⟨_, rfl, Ho2.out, Hx2.out⟩
end Go.Proofs.YtljknhocfjpolaaGreatDoor
