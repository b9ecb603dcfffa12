/- The fragment of a text: the program's walk. -/
import Derived.Test.YtnngklclehffhaaGreatDoorKWPfL
import Derived.Test.YtnngklclehffhaaGreatDoorJ41
import Derived.Deep.RegionHeld3
import Derived.Deep.AppendLies
namespace Go.Proofs.YtnngklclehffhaaGreatDoor
open Go.RowKit
set_option maxHeartbeats 1000000
set_option maxRecDepth 100000
def pfF (o : Option Fra) : Fra := o.getD ⟨0, 0, 0, ⟨#[]⟩⟩
theorem pf_three {vs : List Int} (h : vs.length = 3) : ∃ a b c, vs = [a, b, c] := by
  match vs, h with
  | [a, b, c], _ => exact ⟨a, b, c, rfl⟩
theorem impl_ParseFragment (s : ByteArray) (w : World) (hv : Vrs w) (ht : Tab w) (h : s.size ≤ 1048576) :
    Calls Tryz.prog 13 #[.string s] w fun e w' => e = .returned (.tuple #[.agg #[.int .i64 (pfF (PFi s)).n, .int .i64 (pfF (PFi s)).p, .int .i64 (pfF (PFi s)).q, .string (pfF (PFi s)).d], .bool (PFi s).isSome]) ∧ Ext w w' := by
  have z1 := ctN_size s 58
  have z2 := ctR_size s 58
  have z3 := ctN_size (ctN s 58) 46
  have z4 := ctR_size (ctN s 58) 46
  have z5 := ctN_size (ctR (ctN s 58) 46) 47
  have z6 := ctR_size (ctR (ctN s 58) 46) 47
  have hdef : PFi s = (pIs [ctN (ctN s 58) 46, ctN (ctR (ctN s 58) 46) 47, ctR (ctR (ctN s 58) 46) 47]).bind fun vs => if ftT (fOf vs (ctR s 58)) = s then some (fOf vs (ctR s 58)) else none := rfl
  have c1 := hid (fun w hv => strings_Cut s ⟨#[58]⟩ w hv h)
  have c2 := hid (fun w hv => strings_Cut (ctN s 58) ⟨#[46]⟩ w hv (by omega))
  have c3 := hid (fun w hv => strings_Cut (ctR (ctN s 58) 46) ⟨#[47]⟩ w hv (by omega))
  change Hid (∀ w, Vrs w → Calls Tryz.prog 35 #[.string s, .string ⟨#[58]⟩] w fun e w' => e = .returned (.tuple #[.string (ctN s 58), .string (ctR s 58), .bool (Lib.cut s.data.toList [58]).2.2]) ∧ Ext w w') at c1
  change Hid (∀ w, Vrs w → Calls Tryz.prog 35 #[.string (ctN s 58), .string ⟨#[46]⟩] w fun e w' => e = .returned (.tuple #[.string (ctN (ctN s 58) 46), .string (ctR (ctN s 58) 46), .bool (Lib.cut (ctN s 58).data.toList [46]).2.2]) ∧ Ext w w') at c2
  change Hid (∀ w, Vrs w → Calls Tryz.prog 35 #[.string (ctR (ctN s 58) 46), .string ⟨#[47]⟩] w fun e w' => e = .returned (.tuple #[.string (ctN (ctR (ctN s 58) 46) 47), .string (ctR (ctR (ctN s 58) 46) 47), .bool (Lib.cut (ctR (ctN s 58) 46).data.toList [47]).2.2]) ∧ Ext w w') at c3
  generalize (Lib.cut (ctR (ctN s 58) 46).data.toList [47]).2.2 = f3 at c3
  generalize (Lib.cut (ctN s 58).data.toList [46]).2.2 = f2 at c2
  generalize (Lib.cut s.data.toList [58]).2.2 = f1 at c1
  generalize PFi s = O at *
  generalize ctN (ctR (ctN s 58) 46) 47 = A at *
  generalize ctR (ctR (ctN s 58) 46) 47 = B at *
  generalize ctR (ctN s 58) 46 = R at *
  generalize ctN (ctN s 58) 46 = M at *
  generalize ctR s 58 = D at *
  generalize ctN s 58 = H at *
  have hpi := hid (fun v w h hv ht => impl_parseInts [M, A, B] v w h hv ht (Nat.le_of_ble_eq_true rfl) (fun i hi => by
    match i, hi with
    | 0, _ => show M.size ≤ _; omega
    | 1, _ => show A.size ≤ _; omega
    | 2, _ => show B.size ≤ _; omega))
  have Hv := hid hv
  have Ht := hid ht
  have Hdef := hid hdef
  have hD : D.size ≤ 1048576 := by omega
  clear hv ht hdef z1 z2 z3 z4 z5 z6
  have hB0 : Hid ((w.alloc (.cells #[.int .i64 0, .int .i64 0, .int .i64 0, .string ⟨#[]⟩] 31)).heap[w.heap.size]? = some (.cells #[.int .i64 0, .int .i64 0, .int .i64 0, .string ⟨#[]⟩] 31 (0, 0))) := heap_at _ rfl
  have HX0 : Hid (Ext w (w.alloc (.cells #[.int .i64 0, .int .i64 0, .int .i64 0, .string ⟨#[]⟩] 31))) := (by repeat' (first | exact Ext.refl _ | assumption | refine Ext.alloc ?_ _ | refine Ext.ext ?_ _ | refine Ext.drew ?_ | refine Ext.drewN ?_ _))
  go_enter Tryz.func13, Tryz.ntmps13
  go_wp2_with fail
  generalize w.alloc (.cells #[.int .i64 0, .int .i64 0, .int .i64 0, .string ⟨#[]⟩] 31) = W0 at *
  go_at_call 35
  refine (c1.out _ (Hv.out.ext (HX0.out.trans (by repeat' (first | exact Ext.refl _ | assumption | refine Ext.alloc ?_ _ | refine Ext.ext ?_ _ | refine Ext.drew ?_ | refine Ext.drewN ?_ _))))).mono ?_
  rintro e w1 ⟨rfl, hx⟩
  have X1 := hid (And.intro (HX0.out.trans hx) (blkx hB0.out hx))
  clear hx c1 hB0 HX0
  go_wp2_with fail
  go_at_call 35
  refine (c2.out _ (Hv.out.ext (X1.out.1.trans (by repeat' (first | exact Ext.refl _ | assumption | refine Ext.alloc ?_ _ | refine Ext.ext ?_ _ | refine Ext.drew ?_ | refine Ext.drewN ?_ _))))).mono ?_
  rintro e w2 ⟨rfl, hx⟩
  have X2 := hid (And.intro (X1.out.1.trans hx) (blkx X1.out.2 hx))
  clear hx c2 X1
  go_wp2_with fail
  go_at_call 35
  refine (c3.out _ (Hv.out.ext (X2.out.1.trans (by repeat' (first | exact Ext.refl _ | assumption | refine Ext.alloc ?_ _ | refine Ext.ext ?_ _ | refine Ext.drew ?_ | refine Ext.drewN ?_ _))))).mono ?_
  rintro e w3 ⟨rfl, hx⟩
  have X3 := hid (And.intro (X2.out.1.trans hx) (blkx X2.out.2 hx))
  clear hx c3 X2
  have hl0 : (w3.alloc (.cells #[.string M, .string A, .string B] 9)).ownsRow w3.heap.size 9 1 (.slice (some ⟨w3.heap.size, 0, none⟩) 3 3) 3 [.string M, .string A, .string B] := World.ownsRow_lit w3 #[.string M, .string A, .string B] 3 (Nat.le_refl _) (by decide) rfl
  have hx4 : Ext w3 (w3.alloc (.cells #[.string M, .string A, .string B] 9)) := (by repeat' (first | exact Ext.refl _ | assumption | refine Ext.alloc ?_ _ | refine Ext.ext ?_ _ | refine Ext.drew ?_ | refine Ext.drewN ?_ _))
  have X4 := hid (And.intro (And.intro (X3.out.1.trans hx4) (blkx X3.out.2 hx4)) (Rd.own hl0))
  clear hx4 hl0 X3
  go_wp2_with fail
  generalize w3.alloc (.cells #[.string M, .string A, .string B] 9) = W4 at *
  go_at_call 36
  refine (hpi.out _ _ X4.out.2 (Hv.out.ext X4.out.1.1) (Ht.out.ext X4.out.1.1)).mono ?_
  rintro e w5 ⟨r, rfl, ho, hx⟩
  have X5 := hid (And.intro (X4.out.1.1.trans hx) (blkx X4.out.1.2 hx))
  obtain ⟨rp, rc, rfl⟩ := own_shape ho
  have Ho := hid ho
  clear hx ho hpi X4
  cases hp : pIs [M, A, B] with
  | none =>
    have hO := Hdef.out
    rw [hp] at hO
    have HO : Hid (O = none) := hO
    obtain ⟨⟨b0, b1, b2, b3⟩, ⟨g0, g1, g2, g3⟩, hbl⟩ := box4 X5.out.2
    clear hO hp Ho
    go_wp2
    refine bodyPost_ret (results_ct rfl (box4_set (t := 31) X5.out.2 _ _ _ _) Tryz.underlying31 rfl (by kernel_rfl) rfl rfl) rfl ⟨(by rw [HO.out]; rfl), ?_⟩
    exact Ext.set4 X5.out.1 (Nat.le_refl _) _ _ _ _
  | some vs =>
    rw [hp] at Ho
    have hO := Hdef.out
    rw [hp, Option.bind_some] at hO
    obtain ⟨a, b, c, rfl⟩ := pf_three (pIs_len hp)
    have he1 : fOf [a, b, c] D = ⟨a, b, c, D⟩ := rfl
    rw [he1] at hO
    have hft := hid (fun w => impl_FragmentText a b c D w hD)
    generalize okF ⟨a, b, c, D⟩ = okf at hft
    generalize ftT ⟨a, b, c, D⟩ = T at *
    obtain ⟨gb, gc, e, -⟩ := World.ownsRow.form Ho.out (Nat.le_of_ble_eq_true rfl)
    cases e
    have c0 : w5.cell? ⟨gb, 0, none⟩ = some (.int .i64 a) := (Ho.out.cellAt 0 (Nat.le_of_ble_eq_true rfl)).trans rfl
    have c1 : w5.cell? ⟨gb, 1, none⟩ = some (.int .i64 b) := (Ho.out.cellAt 1 (Nat.le_of_ble_eq_true rfl)).trans rfl
    have c2 : w5.cell? ⟨gb, 2, none⟩ = some (.int .i64 c) := (Ho.out.cellAt 2 (Nat.le_of_ble_eq_true rfl)).trans rfl
    go_wp2_with fail
    have X0 : Ext w5 w5.drew := (by repeat' (first | exact Ext.refl _ | assumption | refine Ext.alloc ?_ _ | refine Ext.ext ?_ _ | refine Ext.drew ?_ | refine Ext.drewN ?_ _))
    have d0 := X0.cell c0
    have d1 := X0.cell c1
    have d2 := X0.cell c2
    have X1 : Ext w5 (w5.alloc (.cells #[.int .i64 a, .int .i64 b, .int .i64 c, .string D] 31)).drew := (by repeat' (first | exact Ext.refl _ | assumption | refine Ext.alloc ?_ _ | refine Ext.ext ?_ _ | refine Ext.drew ?_ | refine Ext.drewN ?_ _))
    have e0 := X1.cell c0
    have e1 := X1.cell c1
    have e2 := X1.cell c2
    have X2 : Ext w5 (w5.alloc (.cells #[.int .i64 0, .int .i64 0, .int .i64 0, .string ⟨#[]⟩] 31)).drew := (by repeat' (first | exact Ext.refl _ | assumption | refine Ext.alloc ?_ _ | refine Ext.ext ?_ _ | refine Ext.drew ?_ | refine Ext.drewN ?_ _))
    have k0 := X2.cell c0
    have k1 := X2.cell c1
    have k2 := X2.cell c2
    have HB : (w5.alloc (.cells #[.int .i64 a, .int .i64 b, .int .i64 c, .string D] 31)).drew.heap[w5.heap.size]? = some (.cells #[.int .i64 a, .int .i64 b, .int .i64 c, .string D] 31 (0, 0)) := heap_at (w := w5) _ rfl
    go_region_held3 (fun w' => w'.cell? ⟨gb, 0, none⟩ = some (.int .i64 a) ∧ w'.cell? ⟨gb, 1, none⟩ = some (.int .i64 b) ∧ w'.cell? ⟨gb, 2, none⟩ = some (.int .i64 c)) (first | exact ⟨c0, c1, c2⟩ | exact ⟨d0, d1, d2⟩ | exact ⟨e0, e1, e2⟩ | exact ⟨k0, k1, k2⟩) (fail)
    have X6 := hid (And.intro (X5.out.1.trans X1) (blkx X5.out.2 X1))
    clear d0 d1 d2 e0 e1 e2 c0 c1 c2 k0 k1 k2 X0 X1 X2 X5 Ho hp he1 Hdef
    rename_i hHeld
    clear hHeld
    generalize (w5.alloc (.cells #[.int .i64 a, .int .i64 b, .int .i64 c, .string D] 31)).drew = W6 at *
    generalize w5.heap.size = Q at *
    obtain ⟨⟨b0, b1, b2, b3⟩, -, -⟩ := box4 HB
    go_wp2_with fail
    go_at_call 12
    refine (hft.out _).mono ?_
    rintro e w7 ⟨rfl, hx⟩
    have X7 := hid (And.intro (X6.out.1.trans hx) (blkx X6.out.2 hx))
    replace HB := blkx HB hx
    clear hx X6 b0 b1 b2 b3 hft
    obtain ⟨⟨b0, b1, b2, b3⟩, -, -⟩ := box4 HB
    obtain ⟨⟨d0, d1, d2, d3⟩, ⟨g0, g1, g2, g3⟩, hbl⟩ := box4 X7.out.2
    by_cases he : T = s
    · have te := str_yes he
      rw [if_pos he] at hO
      have HO := hid hO
      clear hO he
      go_wp2
      refine bodyPost_ret (results_ct rfl (box4_set (t := 31) X7.out.2 _ _ _ _) Tryz.underlying31 rfl (by kernel_rfl) rfl rfl) rfl ⟨(by rw [HO.out]; rfl), ?_⟩
      exact Ext.set4 X7.out.1 (Nat.le_refl _) _ _ _ _
    · have te := str_no he
      rw [if_neg he] at hO
      have HO := hid hO
      clear hO he
      go_wp2
      refine bodyPost_ret (results_ct rfl (box4_set (t := 31) X7.out.2 _ _ _ _) Tryz.underlying31 rfl (by kernel_rfl) rfl rfl) rfl ⟨(by rw [HO.out]; rfl), ?_⟩
      exact Ext.set4 X7.out.1 (Nat.le_refl _) _ _ _ _
end Go.Proofs.YtnngklclehffhaaGreatDoor
