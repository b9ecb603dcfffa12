/- The octets of packets: the walks. -/
import Derived.Test.YtljknhocfjpolaaGreatDoorKWOct
import Derived.Maps.AppendAt
namespace Go.Proofs.YtljknhocfjpolaaGreatDoor
open Go.RowKit
set_option maxHeartbeats 1000000
set_option maxRecDepth 100000
theorem chk_bd {L : List Int} (hs : small L) (h18 : L.length ≤ 18) : 0 ≤ chk L ∧ chk L ≤ 65520 := by
  unfold chk
  have := chkTo_bd hs h18 L.length (Nat.le_refl _)
  omega
theorem own_app {w : World} {B q : Nat} {v : Value} {L : List Int} (N : List Int)
    (h : w.ownsRow B 3 1 v q (vInts L ++ vInts N)) (hq : q = L.length + N.length) : w.ownsRow B 3 1 v (L ++ N).length (vInts (L ++ N)) := by
  subst hq
  rw [List.length_append]
  simpa [vInts] using h
theorem spec_l4Octets (c m r l : Int) (d : ByteArray) (w : World) (h : okPk c m r l d = true) :
    Calls Tryz.prog 79 #[.agg #[.int .i64 c, .int .i64 m, .int .i64 r, .int .i64 l, .string d]] w fun e w' => ∃ v, e = .returned v ∧ w'.ownsRow w.heap.size 3 1 v (octL c m r l d).length (vInts (octL c m r l d)) ∧ Ext w w' := by
  obtain ⟨hs, h8⟩ := octB_small h
  simp only [okPk, Bool.and_eq_true] at h
  obtain ⟨-, hm, hr, hl, -, -⟩ := h
  obtain ⟨m0, m1⟩ := srl_bd hm
  obtain ⟨r0, r1⟩ := srl_bd hr
  obtain ⟨l0, l1⟩ := srl_bd hl
  have hlen := fun k hk => octB_len c m r l d k hk
  have h18 : (octB c m r l d d.size).length ≤ 18 := by rw [hlen _ (Nat.le_refl _)]; omega
  have hck := hid (fun v w h => spec_l4Check (octB c m r l d d.size) v w h hs h18)
  obtain ⟨k0, k1⟩ := chk_bd hs h18
  have hOL : Hid (octL c m r l d = octB c m r l d d.size ++ [chk (octB c m r l d d.size) / 256, chk (octB c m r l d d.size) % 256]) := rfl
  have hsn := hid (fun k hk => octB_snoc c m r l d k hk)
  have Hlen := hid hlen
  obtain ⟨i0, hi, hz0, hz1, hz2⟩ := info_parts infoInt
  have hbx : (w.alloc (.cells #[.int .i64 c, .int .i64 m, .int .i64 r, .int .i64 l, .string d] 46)).cell? ⟨w.heap.size, 4, none⟩ = some (.string d) := by rw [cell_of_row _ _ 4 _ _ (0, 0) (heap_at _ rfl)]; rfl
  have Hbx := hid hbx
  have ho0 : ((w.alloc (.cells #[.int .i64 c, .int .i64 m, .int .i64 r, .int .i64 l, .string d] 46)).alloc (.cells #[.int .i64 c, .int .i64 (m / 256), .int .i64 (m % 256), .int .i64 (r / 256), .int .i64 (r % 256), .int .i64 (l / 256), .int .i64 (l % 256), .int .i64 d.size] 3)).ownsRow (w.heap.size + 1) 3 1 (.slice (some ⟨w.heap.size + 1, 0, none⟩) 8 8) (octB c m r l d 0).length (vInts (octB c m r l d 0)) := by
    have := World.ownsRow_lit (base := w.heap.size + 1) (e := 3) (size := 1) (w.alloc (.cells #[.int .i64 c, .int .i64 m, .int .i64 r, .int .i64 l, .string d] 46)) #[.int .i64 c, .int .i64 (m / 256), .int .i64 (m % 256), .int .i64 (r / 256), .int .i64 (r % 256), .int .i64 (l / 256), .int .i64 (l % 256), .int .i64 d.size] 8 (by simp) (by decide) rfl
    simpa [octB, bys, octH, vInts] using this
  have Ho0 := hid ho0
  clear hm hr hl hlen hs h18 hbx ho0
  generalize chk (octB c m r l d d.size) = K at *
  go_enter Tryz.func79, Tryz.ntmps79
  go_wp2
  go_loopw [4, 3] (fun v4 v3 wr => ∃ k : Nat, k ≤ d.size ∧ v4 = .int .i64 k ∧ wr.ownsRow (w.heap.size + 1) 3 1 v3 (octB c m r l d k).length (vInts (octB c m r l d k)) ∧ Ext (w.alloc (.cells #[.int .i64 c, .int .i64 m, .int .i64 r, .int .i64 l, .string d] 46)) wr) (fun v4 _ _ => d.size - (intOf v4).toNat)
  case atStart => exact ⟨0, Nat.zero_le _, rfl, Ho0.out, (by repeat' (first | exact Ext.refl _ | assumption | refine Ext.alloc ?_ _ | refine Ext.ext ?_ _ | refine Ext.drew ?_ | refine Ext.drewN ?_ _))⟩
  case round =>
    obtain ⟨k, hk, rfl, hown, hx⟩ := hrel
    have hl0 := Hlen.out k hk
    have c4 := hx.cell Hbx.out
    have Hown := hid hown
    have Hx := hid hx
    clear hown hx
    by_cases hlt : k < d.size
    · have hst := hid (hsn.out k hlt)
      generalize octB c m r l d k = P at *
      have hwb : Hid (wrap64 (d[k].toNat : Int) = d[k].toNat) := IntWalk.wrap64_in _ ⟨by omega, by have := d[k].toNat_lt; omega⟩
      go_wp2_with (at_builtin; refine wpList_append_own _ rfl _ _ 41 rfl (w.heap.size + 1) 3 i0 (.int .i64 0) 1 8 Tryz.underlying41 hi hz0 hz1 hz2 rfl (by decide) _ _ _ rfl (own_ext Hown.out (by repeat' (first | exact Ext.refl _ | assumption | refine Ext.alloc ?_ _ | refine Ext.ext ?_ _ | refine Ext.drew ?_ | refine Ext.drewN ?_ _))) ⟨_, 0, none⟩ 1 1 [.int .i64 (d[k].toNat : Int)] rfl ?a0x ?a1x ?a2x ?a3x ?a4x ?a5x ?_)
      (try case a0x => rfl)
      case a1x => (intro j u hj; rw [Addr.add_lit, Nat.zero_add, cell_of_row _ _ j _ _ (0, 0) (heap_at _ rfl)]; first | (simpa using hj) | (simpa [hwb.out] using hj))
      case a2x => simp [Value.oneCell']
      case a3x => (unfold maxLen; simp; omega)
      case a4x => (first | omega | (simp; omega))
      case a5x => (have := Hx.out.size; first | omega | (simp at *; omega))
      intro v' w1 hown' hgrow hat
      have hx2 : Ext (w.alloc (.cells #[.int .i64 c, .int .i64 m, .int .i64 r, .int .i64 l, .string d] 46)) w1 := (Hx.out.trans (by repeat' (first | exact Ext.refl _ | assumption | refine Ext.alloc ?_ _ | refine Ext.ext ?_ _ | refine Ext.drew ?_ | refine Ext.drewN ?_ _))).grown hgrow (fun j hj => by have := (Hown.out.lt j hj).1; simpa using this)
      have Hx2 := hid hx2
      have hown2 := own_app [(d[k].toNat : Int)] hown' (by rw [hl0]; rfl)
      have Hown2 := hid hown2
      clear hx2 hgrow hat hown' hown2
      go_wp2
      go_roundw
      case rel => exact ⟨k + 1, by omega, by go_num, by rw [hst.out]; exact Hown2.out, Hx2.out⟩
      case measure => simp [intOf]; omega
    · obtain rfl : k = d.size := by omega
      clear hsn Hlen Ho0
      generalize octB c m r l d d.size = P at *
      go_wp2_with (first
        | (go_at_call 110; (refine (hck.out _ _ (Rd.own Hown.out)).mono ?_); rintro e w4 ⟨rfl, hx4⟩; have Hown4 := hid (own_ext Hown.out hx4); have Hx4 := hid (Hx.out.trans hx4); clear hx4)
        | (at_builtin; refine wpList_append_own _ rfl _ _ 41 rfl (w.heap.size + 1) 3 i0 (.int .i64 0) 1 8 Tryz.underlying41 hi hz0 hz1 hz2 rfl (by decide) _ _ _ rfl (own_ext Hown4.out (by repeat' (first | exact Ext.refl _ | assumption | refine Ext.alloc ?_ _ | refine Ext.ext ?_ _ | refine Ext.drew ?_ | refine Ext.drewN ?_ _))) ⟨_, 0, none⟩ 2 2 [.int .i64 (K / 256), .int .i64 (K % 256)] rfl ?a0y ?a1y ?a2y ?a3y ?a4y ?a5y ?_))
      (try case a0y => rfl)
      case a1y => (intro j u hj; rw [Addr.add_lit, Nat.zero_add, cell_of_row _ _ j _ _ (0, 0) (heap_at _ rfl)]; first | (simpa using hj) | (simpa [hwb.out] using hj))
      case a2y => simp [Value.oneCell']
      case a3y => (unfold maxLen; simp; omega)
      case a4y => (first | omega | (simp; omega))
      case a5y => (have := Hx4.out.size; first | omega | (simp at *; omega))
      intro v' w1 hown' hgrow hat
      have hx2 : Ext (w.alloc (.cells #[.int .i64 c, .int .i64 m, .int .i64 r, .int .i64 l, .string d] 46)) w1 := (Hx4.out.trans (by repeat' (first | exact Ext.refl _ | assumption | refine Ext.alloc ?_ _ | refine Ext.ext ?_ _ | refine Ext.drew ?_ | refine Ext.drewN ?_ _))).grown hgrow (fun j hj => by have := (Hown4.out.lt j hj).1; simpa using this)
      have Hx2 := hid ((show Ext w _ from (by repeat' (first | exact Ext.refl _ | assumption | refine Ext.alloc ?_ _ | refine Ext.ext ?_ _ | refine Ext.drew ?_ | refine Ext.drewN ?_ _))).trans hx2)
      have hown2 := own_app [K / 256, K % 256] hown' (by rw [hl0]; rfl)
      have Hown2 := hid (own_mono hown2 (Nat.le_succ _))
      clear hx2 hgrow hat hown' hown2
      go_wp2
      go_ret
      exact ⟨_, rfl, by rw [hOL.out]; exact Hown2.out, Hx2.out⟩
def octP (c : Int) (L : List Int) : Nat → List Int
  | 0 => [c]
  | k + 1 => octP c L k ++ [L.getD k 0 / 256, L.getD k 0 % 256]
theorem octP_len (c : Int) (L : List Int) : ∀ k, (octP c L k).length = 1 + 2 * k
  | 0 => rfl
  | k + 1 => by rw [octP, List.length_append, octP_len c L k]; simp; omega
theorem impl_octetsOf (c m r l : Int) (d : ByteArray) (w : World) (h : okPk c m r l d = true) :
    Calls Tryz.prog 78 #[.agg #[.int .i64 c, .int .i64 m, .int .i64 r, .int .i64 l, .string d]] w fun e w' => ∃ v, e = .returned v ∧ w'.ownsRow w.heap.size 3 1 v (octL c m r l d).length (vInts (octL c m r l d)) ∧ Ext w w' := by
  obtain ⟨hs, h8⟩ := octB_small h
  simp only [okPk, Bool.and_eq_true] at h
  obtain ⟨-, hm, hr, hl, -, -⟩ := h
  obtain ⟨m0, m1⟩ := srl_bd hm
  obtain ⟨r0, r1⟩ := srl_bd hr
  obtain ⟨l0, l1⟩ := srl_bd hl
  have hlen := fun k hk => octB_len c m r l d k hk
  have h18 : (octB c m r l d d.size).length ≤ 18 := by rw [hlen _ (Nat.le_refl _)]; omega
  have hck := hid (fun v w h => impl_octetCheck (octB c m r l d d.size) v w h hs h18)
  obtain ⟨k0, k1⟩ := chk_bd hs h18
  have hOL : Hid (octL c m r l d = octB c m r l d d.size ++ [chk (octB c m r l d d.size) / 256, chk (octB c m r l d d.size) % 256]) := rfl
  have hsn := hid (fun k hk => octB_snoc c m r l d k hk)
  have Hlen := hid hlen
  have hP3 : Hid (octB c m r l d 0 = octP c [m, r, l] 3 ++ [(d.size : Int)]) := rfl
  have hPl := hid (octP_len c [m, r, l])
  have hPs : Hid (∀ k, octP c [m, r, l] (k + 1) = octP c [m, r, l] k ++ [[m, r, l].getD k 0 / 256, [m, r, l].getD k 0 % 256]) := fun k => rfl
  have hbd : Hid (∀ k, k < 3 → 0 ≤ [m, r, l].getD k 0 ∧ [m, r, l].getD k 0 ≤ 65535) := fun k hk => by
    rcases k with _ | _ | _ | k
    · exact ⟨m0, m1⟩
    · exact ⟨r0, r1⟩
    · exact ⟨l0, l1⟩
    · omega
  obtain ⟨i0, hi, hz0, hz1, hz2⟩ := info_parts infoInt
  have hbx : (w.alloc (.cells #[.int .i64 c, .int .i64 m, .int .i64 r, .int .i64 l, .string d] 46)).cell? ⟨w.heap.size, 4, none⟩ = some (.string d) := by rw [cell_of_row _ _ 4 _ _ (0, 0) (heap_at _ rfl)]; rfl
  have Hbx := hid hbx
  have ho0 : ((w.alloc (.cells #[.int .i64 c, .int .i64 m, .int .i64 r, .int .i64 l, .string d] 46)).alloc (.cells #[.int .i64 c] 3)).ownsRow (w.heap.size + 1) 3 1 (.slice (some ⟨w.heap.size + 1, 0, none⟩) 1 1) (octP c [m, r, l] 0).length (vInts (octP c [m, r, l] 0)) := by
    have := World.ownsRow_lit (base := w.heap.size + 1) (e := 3) (size := 1) (w.alloc (.cells #[.int .i64 c, .int .i64 m, .int .i64 r, .int .i64 l, .string d] 46)) #[.int .i64 c] 1 (by simp) (by decide) rfl
    simpa [octP, vInts] using this
  have Ho0 := hid ho0
  clear hm hr hl hlen hs h18 hbx ho0
  generalize chk (octB c m r l d d.size) = K at *
  go_enter Tryz.func78, Tryz.ntmps78
  go_wp2
  go_loopw [19, 3] (fun v19 v3 wr => ∃ k : Nat, k ≤ 3 ∧ v19 = .int .i64 k ∧ wr.ownsRow (w.heap.size + 1) 3 1 v3 (octP c [m, r, l] k).length (vInts (octP c [m, r, l] k)) ∧ v3.ownBlock ≠ some (w.heap.size + 1 + 1) ∧ wr.heap[w.heap.size + 1 + 1]? = some (.cells #[.int .i64 m, .int .i64 r, .int .i64 l] 3 (0, 0)) ∧ Ext (w.alloc (.cells #[.int .i64 c, .int .i64 m, .int .i64 r, .int .i64 l, .string d] 46)) wr) (fun v19 _ _ => 3 - (intOf v19).toNat)
  case atStart => exact ⟨0, by omega, rfl, own_ext Ho0.out (by repeat' (first | exact Ext.refl _ | assumption | refine Ext.alloc ?_ _ | refine Ext.ext ?_ _ | refine Ext.drew ?_ | refine Ext.drewN ?_ _)), by simp [Value.ownBlock], heap_at _ (by simp), (by repeat' (first | exact Ext.refl _ | assumption | refine Ext.alloc ?_ _ | refine Ext.ext ?_ _ | refine Ext.drew ?_ | refine Ext.drewN ?_ _))⟩
  case round =>
    obtain ⟨k, hk, rfl, hown, hnb, hlb, hx⟩ := hrel
    have hl0 := hPl.out k
    have Hown := hid hown
    have Hx := hid hx
    have Hlb := hid hlb
    have Hnb := hid hnb
    clear hown hx hlb hnb
    by_cases hlt : k < 3
    · have c0 : wr.cell? ⟨w.heap.size + 1 + 1, k, none⟩ = some (.int .i64 ([m, r, l].getD k 0)) := by
        rw [cell_of_row _ _ k _ _ (0, 0) Hlb.out]
        rcases k with _ | _ | _ | k
        · rfl
        · rfl
        · rfl
        · omega
      obtain ⟨x0, x1⟩ := hbd.out k hlt
      have hst := hid (hPs.out k)
      generalize [m, r, l].getD k 0 = x at *
      have hand := and255 x x0 (by omega)
      generalize octP c [m, r, l] k = P at *
      go_wp2_with (at_builtin; refine wpList_append_own_at _ rfl _ _ 41 rfl (w.heap.size + 1) 3 i0 (.int .i64 0) 1 8 Tryz.underlying41 hi hz0 hz1 hz2 rfl (by decide) _ _ _ rfl (own_ext Hown.out (by repeat' (first | exact Ext.refl _ | assumption | refine Ext.alloc ?_ _ | refine Ext.ext ?_ _ | refine Ext.drew ?_ | refine Ext.drewN ?_ _))) ⟨_, 0, none⟩ 2 2 [.int .i64 (x / 256), .int .i64 (x % 256)] rfl ?a0x ?a1x ?a2x ?a3x ?a4x ?a5x ?_)
      (try case a0x => rfl)
      case a1x => (intro j u hj; rw [Addr.add_lit, Nat.zero_add, cell_of_row _ _ j _ _ (0, 0) (heap_at _ rfl)]; first | (simpa using hj) | (simpa [hwb.out] using hj))
      case a2x => simp [Value.oneCell']
      case a3x => (unfold maxLen; simp; omega)
      case a4x => (first | omega | (simp; omega))
      case a5x => (have := Hx.out.size; first | omega | (simp at *; omega))
      intro v' w1 hown' hgrow hat
      intro hpl
      have hx2 : Ext (w.alloc (.cells #[.int .i64 c, .int .i64 m, .int .i64 r, .int .i64 l, .string d] 46)) w1 := (Hx.out.trans (by repeat' (first | exact Ext.refl _ | assumption | refine Ext.alloc ?_ _ | refine Ext.ext ?_ _ | refine Ext.drew ?_ | refine Ext.drewN ?_ _))).grown hgrow (fun j hj => by have := (Hown.out.lt j hj).1; simpa using this)
      have hlb2 := (hgrow.block (w.heap.size + 1 + 1) (by have := (Array.getElem?_eq_some_iff.1 Hlb.out).1; simp; omega) (fun e => Hnb.out e.symm)).trans (heap_old Hlb.out _)
      have hnb2 : v'.ownBlock ≠ some (w.heap.size + 1 + 1) := by
        have h9 := (Array.getElem?_eq_some_iff.1 Hlb.out).1
        rcases hpl with h | h
        · rw [h]; exact Hnb.out
        · rw [h]
          intro e
          injection e with e
          simp at e
          omega
      have Hx2 := hid hx2
      have Hlb2 := hid hlb2
      have Hnb2 := hid hnb2
      have hown2 := own_app [x / 256, x % 256] hown' (by rw [hl0]; rfl)
      have Hown2 := hid hown2
      clear hx2 hgrow hat hown' hown2 hpl hlb2 hnb2
      go_wp2
      go_roundw
      case rel => exact ⟨k + 1, by omega, by go_num, by rw [hst.out]; exact Hown2.out, Hnb2.out, Hlb2.out, Hx2.out⟩
      case measure => simp [intOf]; omega
    · obtain rfl : k = 3 := by omega
      have c4 := Hx.out.cell Hbx.out
      clear Hlb Hnb hPs hbd Ho0
      generalize octP c [m, r, l] 3 = P at *
      go_wp2_with (at_builtin; refine wpList_append_own _ rfl _ _ 41 rfl (w.heap.size + 1) 3 i0 (.int .i64 0) 1 8 Tryz.underlying41 hi hz0 hz1 hz2 rfl (by decide) _ _ _ rfl (own_ext Hown.out (by repeat' (first | exact Ext.refl _ | assumption | refine Ext.alloc ?_ _ | refine Ext.ext ?_ _ | refine Ext.drew ?_ | refine Ext.drewN ?_ _))) ⟨_, 0, none⟩ 1 1 [.int .i64 (d.size : Int)] rfl ?a0y ?a1y ?a2y ?a3y ?a4y ?a5y ?_)
      (try case a0y => rfl)
      case a1y => (intro j u hj; rw [Addr.add_lit, Nat.zero_add, cell_of_row _ _ j _ _ (0, 0) (heap_at _ rfl)]; first | (simpa using hj) | (simpa [hwb.out] using hj))
      case a2y => simp [Value.oneCell']
      case a3y => (unfold maxLen; simp; omega)
      case a4y => (first | omega | (simp; omega))
      case a5y => (have := Hx.out.size; first | omega | (simp at *; omega))
      intro v' w1 hown' hgrow hat
      have hx2 : Ext (w.alloc (.cells #[.int .i64 c, .int .i64 m, .int .i64 r, .int .i64 l, .string d] 46)) w1 := (Hx.out.trans (by repeat' (first | exact Ext.refl _ | assumption | refine Ext.alloc ?_ _ | refine Ext.ext ?_ _ | refine Ext.drew ?_ | refine Ext.drewN ?_ _))).grown hgrow (fun j hj => by have := (Hown.out.lt j hj).1; simpa using this)
      have Hx2 := hid hx2
      have hown2 := own_app [(d.size : Int)] hown' (by rw [hl0]; rfl)
      rw [← hP3.out] at hown2
      have Hown2 := hid hown2
      clear hx2 hgrow hat hown' hown2 c4 Hown Hx hP3 hl0 hPl
      have c5 := Hx2.out.cell Hbx.out
      go_wp2
      clear c5
      go_loopw [40, 3] (fun v40 v3 wr => ∃ k : Nat, k ≤ d.size ∧ v40 = .int .i64 k ∧ wr.ownsRow (w.heap.size + 1) 3 1 v3 (octB c m r l d k).length (vInts (octB c m r l d k)) ∧ Ext (w.alloc (.cells #[.int .i64 c, .int .i64 m, .int .i64 r, .int .i64 l, .string d] 46)) wr) (fun v40 _ _ => d.size - (intOf v40).toNat)
      case atStart => exact ⟨0, Nat.zero_le _, rfl, Hown2.out, Hx2.out⟩
      case round =>
        obtain ⟨k, hk, rfl, hown, hx⟩ := hrel
        have hl0 := Hlen.out k hk
        have c4 := hx.cell Hbx.out
        have Hown := hid hown
        have Hx := hid hx
        clear hown hx Hown2 Hx2
        by_cases hlt : k < d.size
        · have hst := hid (hsn.out k hlt)
          generalize octB c m r l d k = P at *
          have hwb : Hid (wrap64 (d[k].toNat : Int) = d[k].toNat) := IntWalk.wrap64_in _ ⟨by omega, by have := d[k].toNat_lt; omega⟩
          go_wp2_with (at_builtin; refine wpList_append_own _ rfl _ _ 41 rfl (w.heap.size + 1) 3 i0 (.int .i64 0) 1 8 Tryz.underlying41 hi hz0 hz1 hz2 rfl (by decide) _ _ _ rfl (own_ext Hown.out (by repeat' (first | exact Ext.refl _ | assumption | refine Ext.alloc ?_ _ | refine Ext.ext ?_ _ | refine Ext.drew ?_ | refine Ext.drewN ?_ _))) ⟨_, 0, none⟩ 1 1 [.int .i64 (d[k].toNat : Int)] rfl ?a0z ?a1z ?a2z ?a3z ?a4z ?a5z ?_)
          (try case a0z => rfl)
          case a1z => (intro j u hj; rw [Addr.add_lit, Nat.zero_add, cell_of_row _ _ j _ _ (0, 0) (heap_at _ rfl)]; first | (simpa using hj) | (simpa [hwb.out] using hj))
          case a2z => simp [Value.oneCell']
          case a3z => (unfold maxLen; simp; omega)
          case a4z => (first | omega | (simp; omega))
          case a5z => (have := Hx.out.size; first | omega | (simp at *; omega))
          intro v' w1 hown' hgrow hat
          have hx2 : Ext (w.alloc (.cells #[.int .i64 c, .int .i64 m, .int .i64 r, .int .i64 l, .string d] 46)) w1 := (Hx.out.trans (by repeat' (first | exact Ext.refl _ | assumption | refine Ext.alloc ?_ _ | refine Ext.ext ?_ _ | refine Ext.drew ?_ | refine Ext.drewN ?_ _))).grown hgrow (fun j hj => by have := (Hown.out.lt j hj).1; simpa using this)
          have Hx2 := hid hx2
          have hown2 := own_app [(d[k].toNat : Int)] hown' (by rw [hl0]; rfl)
          have Hown2 := hid hown2
          clear hx2 hgrow hat hown' hown2
          go_wp2
          go_roundw
          case rel => exact ⟨k + 1, by omega, by go_num, by rw [hst.out]; exact Hown2.out, Hx2.out⟩
          case measure => simp [intOf]; omega
        · obtain rfl : k = d.size := by omega
          clear hsn Hlen
          have hand := and255 K k0 (by omega)
          generalize octB c m r l d d.size = P at *
          go_wp2_with (first
            | (go_at_call 109; (refine (hck.out _ _ (Rd.own Hown.out)).mono ?_); rintro e w4 ⟨rfl, hx4⟩; have Hown4 := hid (own_ext Hown.out hx4); have Hx4 := hid (Hx.out.trans hx4); clear hx4)
            | (at_builtin; refine wpList_append_own _ rfl _ _ 41 rfl (w.heap.size + 1) 3 i0 (.int .i64 0) 1 8 Tryz.underlying41 hi hz0 hz1 hz2 rfl (by decide) _ _ _ rfl (own_ext Hown4.out (by repeat' (first | exact Ext.refl _ | assumption | refine Ext.alloc ?_ _ | refine Ext.ext ?_ _ | refine Ext.drew ?_ | refine Ext.drewN ?_ _))) ⟨_, 0, none⟩ 2 2 [.int .i64 (K / 256), .int .i64 (K % 256)] rfl ?a0u ?a1u ?a2u ?a3u ?a4u ?a5u ?_))
          (try case a0u => rfl)
          case a1u => (intro j u hj; rw [Addr.add_lit, Nat.zero_add, cell_of_row _ _ j _ _ (0, 0) (heap_at _ rfl)]; first | (simpa using hj) | (simpa [hwb.out] using hj))
          case a2u => simp [Value.oneCell']
          case a3u => (unfold maxLen; simp; omega)
          case a4u => (first | omega | (simp; omega))
          case a5u => (have := Hx4.out.size; first | omega | (simp at *; omega))
          intro v' w1 hown' hgrow hat
          have hx2 : Ext (w.alloc (.cells #[.int .i64 c, .int .i64 m, .int .i64 r, .int .i64 l, .string d] 46)) w1 := (Hx4.out.trans (by repeat' (first | exact Ext.refl _ | assumption | refine Ext.alloc ?_ _ | refine Ext.ext ?_ _ | refine Ext.drew ?_ | refine Ext.drewN ?_ _))).grown hgrow (fun j hj => by have := (Hown4.out.lt j hj).1; simpa using this)
          have Hx2 := hid ((show Ext w _ from (by repeat' (first | exact Ext.refl _ | assumption | refine Ext.alloc ?_ _ | refine Ext.ext ?_ _ | refine Ext.drew ?_ | refine Ext.drewN ?_ _))).trans hx2)
          have hown2 := own_app [K / 256, K % 256] hown' (by rw [hl0]; rfl)
          have Hown2 := hid (own_mono hown2 (Nat.le_succ _))
          clear hx2 hgrow hat hown' hown2
          go_wp2
          go_ret
          exact ⟨_, rfl, by rw [hOL.out]; exact Hown2.out, Hx2.out⟩
end Go.Proofs.YtljknhocfjpolaaGreatDoor
