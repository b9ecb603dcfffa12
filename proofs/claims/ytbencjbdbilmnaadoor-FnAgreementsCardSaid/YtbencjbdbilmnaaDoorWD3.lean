/- Reports: sums, and the worst receiver. -/
import Derived.Test.YtbencjbdbilmnaaDoorWD2
namespace Go.Proofs.YtbencjbdbilmnaaDoor
open Go.RowKit
set_option maxHeartbeats 400000
def totals (xs : List Dlv) : List Int := [tot (·.g) xs, tot (·.p) xs, tot (·.l) xs]
theorem ok_g {xs : List Dlv} (h : areD xs = true) (i : Nat) (hi : i < xs.length) : 0 ≤ (xs.getD i .z).g ∧ (xs.getD i .z).g ≤ 1000000 := (okD_iff.1 (areD_ok h i hi)).2.1
theorem ok_p {xs : List Dlv} (h : areD xs = true) (i : Nat) (hi : i < xs.length) : 0 ≤ (xs.getD i .z).p ∧ (xs.getD i .z).p ≤ 1000000 := by
  obtain ⟨-, ⟨-, a⟩, ⟨b, c⟩, -⟩ := okD_iff.1 (areD_ok h i hi); omega
theorem ok_l {xs : List Dlv} (h : areD xs = true) (i : Nat) (hi : i < xs.length) : 0 ≤ (xs.getD i .z).l ∧ (xs.getD i .z).l ≤ 1000000 := (okD_iff.1 (areD_ok h i hi)).2.2.2
theorem spec_TotalDelivery (xs : List Dlv) (v : Value) (w : World) (h : Rd w 4 v xs.length (xs.flatMap Dlv.cs)) (h2 : xs.length ≤ 1048576) :
    Calls Tryd.prog 20 #[v] w fun e w' => ∃ r, e = .returned (.tuple #[r, .bool (areD xs)]) ∧ w'.ownsRow w.heap.size 3 1 r (if areD xs then totals xs else []).length (vInts (if areD xs then totals xs else [])) ∧ Ext w w' := by
  have hr := h
  obtain ⟨h1, p, cap, rfl, h4⟩ := h
  have H1 := hid h1; clear h1
  have H4 := hid h4; clear h4
  have Hr := hid hr; clear hr
  cases hgd : areD xs
  · have Hgd := hid hgd
    go_enter Tryd.func20, Tryd.ntmps20
    go_wp2_with (go_at_call 33; refine (spec_l26Good xs _ _ Hr.out h2).mono ?_; rintro e w' ⟨rfl, z1, rfl⟩)
    go_ret2
    refine ⟨_, rfl, ?_, (by repeat' (first | exact Ext.refl _ | assumption | refine Ext.alloc ?_ _ | refine Ext.ext ?_ _ | refine Ext.drew ?_ | refine Ext.drewN ?_ _))⟩
    have := World.ownsRow_lit (base := w.heap.size) (e := 3) (size := 1) (w.ext z1) #[] 0 (by simp [World.size_ext]) (Nat.zero_le _) rfl
    simpa [vInts] using this
  · have bg := tot_bd (·.g) xs (ok_g hgd)
    have bp := tot_bd (·.p) xs (ok_p hgd)
    have bl := tot_bd (·.l) xs (ok_l hgd)
    have B := hid (And.intro bg (And.intro bp bl)); clear bg bp bl
    have O := hid (And.intro (ok_g hgd) (And.intro (ok_p hgd) (ok_l hgd)))
    have Hgd := hid hgd
    go_enter Tryd.func20, Tryd.ntmps20
    go_wp2_with (go_at_call 33; refine (spec_l26Good xs _ _ Hr.out h2).mono ?_; rintro e w' ⟨rfl, z1, rfl⟩)
    go_loopw [7, 4, 5, 6] (fun v7 v4 v5 v6 wr => ∃ k : Nat, k ≤ xs.length ∧ v7 = .int .i64 k ∧ v4 = .int .i64 (tot (·.g) (xs.take k)) ∧ v5 = .int .i64 (tot (·.p) (xs.take k)) ∧ v6 = .int .i64 (tot (·.l) (xs.take k)) ∧ Ext w wr) (fun v7 _ _ _ _ => xs.length - (intOf v7).toNat)
    case atStart => exact ⟨0, Nat.zero_le _, rfl, rfl, rfl, rfl, (by repeat' (first | exact Ext.refl _ | assumption | refine Ext.alloc ?_ _ | refine Ext.ext ?_ _ | refine Ext.drew ?_ | refine Ext.drewN ?_ _))⟩
    case round =>
      obtain ⟨k, hk, rfl, rfl, rfl, rfl, z, rfl⟩ := hrel
      obtain ⟨bg, bp, bl⟩ := B.out
      have bg' := bg k hk
      have bp' := bp k hk
      have bl' := bl k hk
      clear bg bp bl
      by_cases hlt : k < xs.length
      · obtain ⟨b, off, rfl, h6⟩ := H4.out.resolve_left (by omega)
        obtain ⟨c0, c1, c2, c3⟩ := elem4 Dlv.cs .z (fun _ => rfl) xs h6 k hlt
        have S := hid (And.intro (tot_snoc (·.g) xs k hlt) (And.intro (tot_snoc (·.p) xs k hlt) (tot_snoc (·.l) xs k hlt)))
        obtain ⟨og, op, ol⟩ := O.out
        have og' := og k hlt
        have op' := op k hlt
        have ol' := ol k hlt
        clear og op ol
        generalize xs.getD k .z = d at c0 c1 c2 c3 S og' op' ol'
        obtain ⟨r, g, p, l⟩ := d
        simp only [Dlv.cs, List.getElem?_cons_zero, List.getElem?_cons_succ] at c0 c1 c2 c3
        dsimp only at og' op' ol'
        have H6 := hid h6; clear h6
        generalize hA : tot (·.g) (xs.take k) = a at *
        generalize hB : tot (·.p) (xs.take k) = b' at *
        generalize hC : tot (·.l) (xs.take k) = c at *
        clear hA hB hC
        go_wp2
        go_roundw
        case rel =>
          obtain ⟨s1, s2, s3⟩ := S.out
          exact ⟨k + 1, by omega, by go_num, by rw [s1], by rw [s2], by rw [s3], (by repeat' (first | exact Ext.refl _ | assumption | refine Ext.alloc ?_ _ | refine Ext.ext ?_ _ | refine Ext.drew ?_ | refine Ext.drewN ?_ _))⟩
        case measure => simp [intOf]; omega
      · obtain rfl : k = xs.length := by omega
        rw [List.take_length] at *
        go_wp2
        go_ret2
        refine ⟨_, rfl, ?_, (by repeat' (first | exact Ext.refl _ | assumption | refine Ext.alloc ?_ _ | refine Ext.ext ?_ _ | refine Ext.drew ?_ | refine Ext.drewN ?_ _))⟩
        have := World.ownsRow_lit (base := w.heap.size) (e := 3) (size := 1) (w.ext z) #[.int .i64 (tot (·.g) xs), .int .i64 (tot (·.p) xs), .int .i64 (tot (·.l) xs)] 3 (by simp [World.size_ext]) (by decide) rfl
        exact this
theorem impl_TotalDelivery (xs : List Dlv) (v : Value) (w : World) (h : Rd w 4 v xs.length (xs.flatMap Dlv.cs)) (h2 : xs.length ≤ 1048576) :
    Calls Tryd.prog 19 #[v] w fun e w' => ∃ r, e = .returned (.tuple #[r, .bool (areD xs)]) ∧ w'.ownsRow w.heap.size 3 1 r (if areD xs then totals xs else []).length (vInts (if areD xs then totals xs else [])) ∧ Ext w w' := by
  have hr := h
  obtain ⟨h1, p, cap, rfl, h4⟩ := h
  have H1 := hid h1; clear h1
  have H4 := hid h4; clear h4
  have Hr := hid hr; clear hr
  cases hgd : areD xs
  · have Hgd := hid hgd
    go_enter Tryd.func19, Tryd.ntmps19
    go_wp2_with (go_at_call 35; refine (impl_areDeliveries xs _ _ Hr.out h2).mono ?_; rintro e w' ⟨rfl, z1, rfl⟩)
    go_ret2
    exact ⟨_, rfl, World.ownsRow_nil _ _ _ _, (by repeat' (first | exact Ext.refl _ | assumption | refine Ext.alloc ?_ _ | refine Ext.ext ?_ _ | refine Ext.drew ?_ | refine Ext.drewN ?_ _))⟩
  · have bg := tot_bd (·.g) xs (ok_g hgd)
    have bp := tot_bd (·.p) xs (ok_p hgd)
    have bl := tot_bd (·.l) xs (ok_l hgd)
    have B := hid (And.intro bg (And.intro bp bl)); clear bg bp bl
    have O := hid (And.intro (ok_g hgd) (And.intro (ok_p hgd) (ok_l hgd)))
    have Hgd := hid hgd
    have hmk : ∀ w, (Instr.makeSlice 39 (.int .i64 3) (.int .i64 3)).run Tryd.prog w = .ok (.slice (some ⟨w.heap.size, 0, none⟩) 3 3) (w.alloc (.cells #[.int .i64 0, .int .i64 0, .int .i64 0] 3)) := fun _ => by kernel_rfl
    go_enter Tryd.func19, Tryd.ntmps19
    go_wp2_with (go_at_call 35; refine (impl_areDeliveries xs _ _ Hr.out h2).mono ?_; rintro e w' ⟨rfl, z1, rfl⟩)
    generalize hG : (w.ext z1).heap.size = G
    have hGw : w.heap.size ≤ G := by rw [← hG, World.size_ext]; omega
    have HG := hid hG; clear hG
    go_loopw [13] (fun v13 wr => ∃ k : Nat, k ≤ xs.length ∧ v13 = .int .i64 k ∧ wr.heap[G]? = some (.cells #[.int .i64 (tot (·.g) (xs.take k)), .int .i64 (tot (·.p) (xs.take k)), .int .i64 (tot (·.l) (xs.take k))] 3 (0, 0)) ∧ Ext w wr) (fun v13 _ => xs.length - (intOf v13).toNat)
    case atStart => exact ⟨0, Nat.zero_le _, rfl, by rw [← HG.out]; exact heap_alloc_new _ _, (by repeat' (first | exact Ext.refl _ | assumption | refine Ext.alloc ?_ _ | refine Ext.ext ?_ _ | refine Ext.drew ?_ | refine Ext.drewN ?_ _))⟩
    case round =>
      obtain ⟨k, hk, rfl, hbox, hx⟩ := hrel
      obtain ⟨bg, bp, bl⟩ := B.out
      have bg' := bg k hk
      have bp' := bp k hk
      have bl' := bl k hk
      clear bg bp bl
      by_cases hlt : k < xs.length
      · obtain ⟨b, off, rfl, h6⟩ := H4.out.resolve_left (by omega)
        obtain ⟨c0, c1, c2, c3⟩ := elem4 Dlv.cs .z (fun _ => rfl) xs h6 k hlt
        have S := hid (And.intro (tot_snoc (·.g) xs k hlt) (And.intro (tot_snoc (·.p) xs k hlt) (tot_snoc (·.l) xs k hlt)))
        obtain ⟨og, op, ol⟩ := O.out
        have og' := og k hlt
        have op' := op k hlt
        have ol' := ol k hlt
        clear og op ol
        generalize xs.getD k .z = d at c0 c1 c2 c3 S og' op' ol'
        obtain ⟨r, g, p, l⟩ := d
        simp only [Dlv.cs, List.getElem?_cons_zero, List.getElem?_cons_succ] at c0 c1 c2 c3
        dsimp only at og' op' ol'
        replace c0 := hx.cell c0
        replace c1 := hx.cell c1
        replace c2 := hx.cell c2
        replace c3 := hx.cell c3
        have H6 := hid h6; clear h6
        generalize hA : tot (·.g) (xs.take k) = a at *
        generalize hB : tot (·.p) (xs.take k) = b' at *
        generalize hC : tot (·.l) (xs.take k) = c at *
        clear hA hB hC
        have e0 := cell_of_row wr G 0 _ _ _ hbox
        have e1 := cell_of_row wr G 1 _ _ _ hbox
        have e2 := cell_of_row wr G 2 _ _ _ hbox
        have f0 := frozen_of_row wr G 0 _ _ hbox
        have f1 := frozen_of_row wr G 1 _ _ hbox
        have f2 := frozen_of_row wr G 2 _ _ hbox
        have hbl := (Array.getElem?_eq_some_iff.1 hbox).1
        have Hbox := hid hbox; clear hbox
        simp only [List.getElem?_toArray, List.getElem?_cons_zero, List.getElem?_cons_succ] at e0 e1 e2
        go_wp2
        go_region
        go_wp2
        go_region
        go_wp2
        go_region
        go_wp2
        go_roundw
        case rel =>
          obtain ⟨s1, s2, s3⟩ := S.out
          refine ⟨k + 1, by omega, by go_num, ?_, ?_⟩
          · have q0 := heap_setCell_same wr G 0 _ 3 (.int .i64 (a + g)) Hbox.out
            have q1 := heap_setCell_same _ G 1 _ 3 (.int .i64 (b' + p)) q0
            have q2 := heap_setCell_same _ G 2 _ 3 (.int .i64 (c + l)) q1
            refine (heap_alloc_old _ _ (by simpa using hbl)).trans (q2.trans ?_)
            rw [s1, s2, s3]
            rfl
          · exact ((((hx.setCell hGw _).setCell hGw _).setCell hGw _).alloc _).drew.drew.drew
        case measure => simp [intOf]; omega
      · obtain rfl : k = xs.length := by omega
        rw [List.take_length] at *
        go_wp2
        go_ret2
        refine ⟨_, rfl, ?_, hx⟩
        exact ⟨rfl, .inr ⟨G, 3, _, rfl, hGw, hbox, Nat.le_refl _, by decide, rfl, rfl⟩⟩
end Go.Proofs.YtbencjbdbilmnaaDoor
