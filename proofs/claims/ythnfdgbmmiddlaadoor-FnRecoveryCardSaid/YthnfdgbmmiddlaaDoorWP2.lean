/- Parities: their texts. -/
import Derived.Test.YthnfdgbmmiddlaaDoorWP
import Derived.Test.YthnfdgbmmiddlaaDoorKit3
namespace Go.Proofs.YthnfdgbmmiddlaaDoor
open Go.RowKit
set_option maxHeartbeats 400000
def pb (n : Int) : UInt8 := if n = 0 then 45 else UInt8.ofNat (96 + n).toNat
def ptext (xs : List Int) : ByteArray := ⟨(xs.map pb).toArray⟩
def abc : ByteArray := ⟨#[45, 97, 98, 99, 100, 101, 102, 103, 104, 105, 106, 107, 108, 109, 110, 111, 112, 113, 114, 115, 116, 117, 118, 119, 120, 121, 122]⟩
theorem abc_all : ((List.range 27).all fun n => (abc.extract n (n + 1)).data.toList == [pb n]) = true := by decide +kernel
theorem abc_at (n : Nat) (h : n ≤ 26) : abc.extract n (n + 1) = ⟨#[pb n]⟩ := by
  have h1 := (List.all_eq_true.1 abc_all) n (List.mem_range.2 (by omega))
  have h2 : (abc.extract n (n + 1)).data.toList = [pb n] := by simpa using h1
  apply ByteArray.ext
  apply Array.toList_inj.1
  exact h2
theorem ptext_snoc (xs : List Int) (k : Nat) (x : Int) : ptext (xs.take k ++ [x]) = ptext (xs.take k) ++ ⟨#[pb x]⟩ := by
  apply ByteArray.ext
  simp [ptext]
theorem ptext_size (xs : List Int) : (ptext xs).size = xs.length := by simp [ptext, ByteArray.size]
theorem pb_val {x : Int} (h : 0 ≤ x ∧ x ≤ 26) (h0 : ¬ x = 0) : ((pb x).toNat : Int) = 97 + x - 1 := by
  unfold pb
  rw [if_neg h0, UInt8.toNat_ofNat']
  omega
theorem impl_parityText (xs : List Int) (v : Value) (w : World) (h : Rd w 1 v xs.length (vInts xs)) (hp : isPar xs = true) :
    Calls Tryd.prog 37 #[v] w fun e w' => e = .returned (.string (ptext xs)) ∧ Ext w w' := by
  obtain ⟨h1, p, cap, rfl, h4⟩ := h
  have H1 := hid h1; clear h1
  have H4 := hid h4; clear h4
  have hl := isPar_len hp
  have hl' : xs.length ≤ 8 := by omega
  have Hl := hid hl; clear hl
  have Hp := hid hp; clear hp
  go_enter Tryd.func37, Tryd.ntmps37
  go_wp2
  go_loopw [8, 3] (fun v8 v3 wr => ∃ k : Nat, k ≤ xs.length ∧ v8 = .int .i64 k ∧ v3 = .string (ptext (xs.take k)) ∧ Ext w wr) (fun v8 _ _ => xs.length - (intOf v8).toNat)
  case atStart => exact ⟨0, Nat.zero_le _, rfl, rfl, Ext.refl _⟩
  case round =>
    obtain ⟨k, hk, rfl, rfl, z, rfl⟩ := hrel
    by_cases hlt : k < xs.length
    · obtain ⟨b, off, rfl, h6⟩ := H4.out.resolve_left (by omega)
      have c0 := elem1 (Value.int .i64) 0 xs h6 k hlt
      have H6 := hid h6; clear h6 H4
      have bd := isPar_get Hp.out k hlt
      have hsn := take_snoc xs 0 k hlt
      generalize xs.getD k 0 = x at c0 bd hsn
      obtain ⟨n, rfl⟩ := Int.eq_ofNat_of_zero_le bd.1
      have hn : n ≤ 26 := by omega
      have hsl : ∀ w, (Instr.slice 9 (.string ⟨#[45, 97, 98, 99, 100, 101, 102, 103, 104, 105, 106, 107, 108, 109, 110, 111, 112, 113, 114, 115, 116, 117, 118, 119, 120, 121, 122]⟩) (some (.int .i64 (n : Int))) (some (.int .i64 ((n : Int) + 1))) none).run Tryd.prog w = .ok (.string ⟨#[pb n]⟩) w := fun w => by
        have := run_slice_string (P := Tryd.prog) w 9 abc .i64 .i64 (n : Int) ((n : Int) + 1) Tryd.underlying9 (by omega) (by omega) (by show (n : Int) + 1 ≤ 27; omega)
        rw [show abc = (⟨#[45, 97, 98, 99, 100, 101, 102, 103, 104, 105, 106, 107, 108, 109, 110, 111, 112, 113, 114, 115, 116, 117, 118, 119, 120, 121, 122]⟩ : ByteArray) from rfl] at this
        rw [this]
        have e := abc_at n hn
        rw [show abc = (⟨#[45, 97, 98, 99, 100, 101, 102, 103, 104, 105, 106, 107, 108, 109, 110, 111, 112, 113, 114, 115, 116, 117, 118, 119, 120, 121, 122]⟩ : ByteArray) from rfl] at e
        rw [show ((n : Int) + 1).toNat = n + 1 by omega, show ((n : Int)).toNat = n by omega, e]
      have Hsn := hid hsn; clear hsn
      have hsz : (ptext (xs.take k)).size ≤ 8 := by rw [ptext_size, List.length_take]; omega
      have hsz1 : (⟨#[pb n]⟩ : ByteArray).size = 1 := rfl
      go_wp2
      go_roundw
      case rel => exact ⟨k + 1, by omega, by go_num, by rw [Hsn.out, ptext_snoc], (by repeat' (first | exact Ext.refl _ | assumption | refine Ext.alloc ?_ _ | refine Ext.ext ?_ _ | refine Ext.drew ?_ | refine Ext.drewN ?_ _))⟩
      case measure => simp [intOf]; omega
    · go_wp2
      go_ret
      exact ⟨by rw [List.take_of_length_le (by omega)]; rfl, (by repeat' (first | exact Ext.refl _ | assumption | refine Ext.alloc ?_ _ | refine Ext.ext ?_ _ | refine Ext.drew ?_ | refine Ext.drewN ?_ _))⟩
theorem spec_l24Text (xs : List Int) (v : Value) (w : World) (h : Rd w 1 v xs.length (vInts xs)) (hp : isPar xs = true) :
    Calls Tryd.prog 49 #[v] w fun e w' => e = .returned (.string (ptext xs)) ∧ Ext w w' := by
  obtain ⟨h1, p, cap, rfl, h4⟩ := h
  have H1 := hid h1; clear h1
  have H4 := hid h4; clear h4
  have hl := isPar_len hp
  have hl' : xs.length ≤ 8 := by omega
  have Hl := hid hl; clear hl
  have Hp := hid hp; clear hp
  obtain ⟨i0, hi, hz0, hz1, hz2⟩ := info_parts infoU8
  go_enter Tryd.func49, Tryd.ntmps49
  go_wp2
  go_loopw [4, 3] (fun v4 v3 wr => ∃ k : Nat, k ≤ xs.length ∧ v4 = .int .i64 k ∧ wr.ownsRow w.heap.size 5 1 v3 k (vBytes ((xs.take k).map pb)) ∧ Ext w wr) (fun v4 _ _ => xs.length - (intOf v4).toNat)
  case atStart => exact ⟨0, Nat.zero_le _, rfl, World.ownsRow_lit w #[] 0 (Nat.le_refl _) (Nat.zero_le _) rfl, (by repeat' (first | exact Ext.refl _ | assumption | refine Ext.alloc ?_ _ | refine Ext.ext ?_ _ | refine Ext.drew ?_ | refine Ext.drewN ?_ _))⟩
  case round =>
    obtain ⟨k, hk, rfl, hown, hx⟩ := hrel
    have Hx := hid hx; clear hx
    by_cases hlt : k < xs.length
    · obtain ⟨b, off, rfl, h6⟩ := H4.out.resolve_left (by omega)
      have c0 := Hx.out.cell (elem1 (Value.int .i64) 0 xs h6 k hlt)
      have H6 := hid h6; clear h6 H4
      have bd := isPar_get Hp.out k hlt
      have hsn := take_snoc xs 0 k hlt
      generalize xs.getD k 0 = x at c0 bd hsn
      have Hsn := hid hsn; clear hsn
      by_cases hx0 : x = 0
      · have t0 : (x == 0) = true := by simp [hx0]
        have Hx0 := hid hx0; clear hx0
        go_wp2_with (at_builtin; refine wpList_append_own _ rfl _ _ 22 rfl w.heap.size 5 i0 (.int .u8 0) 1 1 Tryd.underlying22 hi hz0 hz1 hz2 rfl (by decide) _ _ _ rfl (hown.alloc _) ⟨_, 0, none⟩ 1 1 [.int .u8 45] rfl rfl ?c1 ?c2 ?c3 ?c4 ?c5 ?_)
        case c1 =>
          intro j u hj
          cases j with
          | zero => simp at hj; subst hj; simp [Addr.add]
          | succ j => simp at hj
        case c2 => simp [Value.oneCell']
        case c3 => unfold maxLen; simp; omega
        case c4 => omega
        case c5 => have := Hx.out.size; simp; omega
        intro v' w1 hown' hgrow _
        have hx2 : Ext w w1 := (Hx.out.alloc _).grown hgrow (fun j hj => (hown.lt j hj).1)
        have Hx2 := hid hx2; clear hx2 hgrow
        have hn : vBytes ((xs.take (k + 1)).map pb) = vBytes ((xs.take k).map pb) ++ [.int .u8 45] := by rw [Hsn.out, Hx0.out]; simp [vBytes, pb]
        have Hn := hid hn; clear hn
        go_wp2
        go_roundw
        case rel => exact ⟨k + 1, by omega, by go_num, by rw [Hn.out, List.map_take]; exact hown', Hx2.out⟩
        case measure => simp [intOf]; omega
      · have t0 : (x == 0) = false := by rw [beq_eq_false_iff_ne]; exact hx0
        have hpb := pb_val bd hx0
        have Hpb := hid hpb; clear hpb hx0
        go_wp2_with (at_builtin; refine wpList_append_own _ rfl _ _ 22 rfl w.heap.size 5 i0 (.int .u8 0) 1 1 Tryd.underlying22 hi hz0 hz1 hz2 rfl (by decide) _ _ _ rfl (hown.alloc _) ⟨_, 0, none⟩ 1 1 [.int .u8 (97 + x - 1)] rfl rfl ?c1 ?c2 ?c3 ?c4 ?c5 ?_)
        case c1 =>
          intro j u hj
          cases j with
          | zero => simp at hj; subst hj; simp [Addr.add]
          | succ j => simp at hj
        case c2 => simp [Value.oneCell']
        case c3 => unfold maxLen; simp; omega
        case c4 => omega
        case c5 => have := Hx.out.size; simp; omega
        intro v' w1 hown' hgrow _
        have hx2 : Ext w w1 := (Hx.out.alloc _).grown hgrow (fun j hj => (hown.lt j hj).1)
        have Hx2 := hid hx2; clear hx2 hgrow
        have hn : vBytes ((xs.take (k + 1)).map pb) = vBytes ((xs.take k).map pb) ++ [.int .u8 (97 + x - 1)] := by rw [Hsn.out]; simp [vBytes, Hpb.out]
        have Hn := hid hn; clear hn
        go_wp2
        go_roundw
        case rel => exact ⟨k + 1, by omega, by go_num, by rw [Hn.out, List.map_take]; exact hown', Hx2.out⟩
        case measure => simp [intOf]; omega
    · have hk8 : k = xs.length := by omega
      subst hk8
      rw [List.take_length] at hown
      have hcv := conv_rd (P := Tryd.prog) Tryd.underlying22 Tryd.underlying5 Tryd.underlying9 (Rd.own hown)
      go_wp2
      go_ret
      exact ⟨rfl, Hx.out⟩
def parityT (xs : List Int) : ByteArray := if isPar xs then ptext xs else ⟨#[]⟩
theorem spec_ParityText (xs : List Int) (v : Value) (w : World) (h : Rd w 1 v xs.length (vInts xs)) (h2 : xs.length ≤ 1048576) :
    Calls Tryd.prog 16 #[v] w fun e w' => e = .returned (.tuple #[.string (parityT xs), .bool (isPar xs)]) ∧ Ext w w' := by
  have hr := h
  obtain ⟨h1, p, cap, rfl, h4⟩ := h
  clear h1 h4
  have Hr := hid hr; clear hr
  unfold parityT
  cases hp : isPar xs
  · have Hp := hid hp
    go_enter Tryd.func16, Tryd.ntmps16
    go_wp2_with (go_at_call 44; refine (spec_l24Good xs _ _ Hr.out h2).mono ?_; rintro e w' ⟨rfl, z1, rfl⟩)
    go_ret2
    exact ⟨rfl, (by repeat' (first | exact Ext.refl _ | assumption | refine Ext.alloc ?_ _ | refine Ext.ext ?_ _ | refine Ext.drew ?_ | refine Ext.drewN ?_ _))⟩
  · have Hp := hid hp
    go_enter Tryd.func16, Tryd.ntmps16
    go_wp2_with (first | (go_at_call 44; refine (spec_l24Good xs _ _ Hr.out h2).mono ?_; rintro e w' ⟨rfl, z1, rfl⟩) | (go_at_call 49; refine (spec_l24Text xs _ _ (Hr.out.ext ⟨_, rfl⟩) Hp.out).mono ?_; rintro e w' ⟨rfl, z1, rfl⟩))
    go_ret2
    exact ⟨rfl, (by repeat' (first | exact Ext.refl _ | assumption | refine Ext.alloc ?_ _ | refine Ext.ext ?_ _ | refine Ext.drew ?_ | refine Ext.drewN ?_ _))⟩
theorem impl_ParityText (xs : List Int) (v : Value) (w : World) (h : Rd w 1 v xs.length (vInts xs)) (h2 : xs.length ≤ 1048576) :
    Calls Tryd.prog 14 #[v] w fun e w' => e = .returned (.tuple #[.string (parityT xs), .bool (isPar xs)]) ∧ Ext w w' := by
  have hr := h
  obtain ⟨h1, p, cap, rfl, h4⟩ := h
  clear h1 h4
  have Hr := hid hr; clear hr
  unfold parityT
  cases hp : isPar xs
  · have Hp := hid hp
    go_enter Tryd.func14, Tryd.ntmps14
    go_wp2_with (go_at_call 35; refine (impl_isParity xs _ _ Hr.out h2).mono ?_; rintro e w' ⟨rfl, z1, rfl⟩)
    go_ret2
    exact ⟨rfl, (by repeat' (first | exact Ext.refl _ | assumption | refine Ext.alloc ?_ _ | refine Ext.ext ?_ _ | refine Ext.drew ?_ | refine Ext.drewN ?_ _))⟩
  · have Hp := hid hp
    go_enter Tryd.func14, Tryd.ntmps14
    go_wp2_with (first | (go_at_call 35; refine (impl_isParity xs _ _ Hr.out h2).mono ?_; rintro e w' ⟨rfl, z1, rfl⟩) | (go_at_call 37; refine (impl_parityText xs _ _ (Hr.out.ext ⟨_, rfl⟩) Hp.out).mono ?_; rintro e w' ⟨rfl, z1, rfl⟩))
    go_ret2
    exact ⟨rfl, (by repeat' (first | exact Ext.refl _ | assumption | refine Ext.alloc ?_ _ | refine Ext.ext ?_ _ | refine Ext.drew ?_ | refine Ext.drewN ?_ _))⟩
end Go.Proofs.YthnfdgbmmiddlaaDoor
