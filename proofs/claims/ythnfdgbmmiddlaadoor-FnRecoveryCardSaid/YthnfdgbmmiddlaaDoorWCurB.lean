/- Blocks of items, and parities, that are drawn. -/
import Derived.Test.YthnfdgbmmiddlaaDoorWCurS
import Derived.Test.YthnfdgbmmiddlaaDoorWPar
import Derived.Test.YthnfdgbmmiddlaaDoorWBlock
import Derived.Test.YthnfdgbmmiddlaaDoorWCode
import Derived.Maps.AppendAt
import Derived.Deep.RegionHeld3
namespace Go.Proofs.YthnfdgbmmiddlaaDoor
open Go.RowKit
set_option maxHeartbeats 2000000
set_option maxRecDepth 100000
/-- Small texts. -/
def Sml (L : List ByteArray) : Prop := L.length ≤ 12 ∧ ∀ s ∈ L, s.size ≤ 9
theorem sml_chars {L : List ByteArray} (h : Sml L) : chars L ≤ 108 := by
  have : ∀ (M : List ByteArray), (∀ s ∈ M, s.size ≤ 9) → chars M ≤ M.length * 9 := by
    intro M
    induction M with
    | nil => intro _; simp [chars]
    | cons x M ih =>
      intro hm
      have h1 := ih (fun s hs => hm s (by simp [hs]))
      have h2 := hm x (by simp)
      have e : chars (x :: M) = x.size + chars M := by simp [chars]
      rw [e, List.length_cons, Nat.add_mul]
      omega
  have h1 := this L h.2
  have h2 := h.1
  omega
/-- While a block is drawn. -/
def BkD (w W : World) (lo B : Nat) (v : Value) (bs : List Int) (A : Nat) (u : Value) (L : List ByteArray) : Prop :=
  Dr w W lo B v bs A ∧ W.ownsRow w.heap.size 9 1 u L.length (vStrs L) ∧ ∀ s ∈ L, s.size ≤ 9
theorem BkD.step {w W W' : World} {lo B A A' : Nat} {v u : Value} {bs : List Int} {L : List ByteArray} (h : BkD w W lo B v bs A u L) (hc : Cs W' lo B v bs A') (hg : W.grownBy W' (some B)) : BkD w W' lo B v bs A' u L :=
  ⟨h.1.step hc hg, own_step h.1 h.2.1 (Nat.le_refl _) hg, h.2.2⟩
theorem BkD.ext {w W W' : World} {lo B A : Nat} {v u : Value} {bs : List Int} {L : List ByteArray} (h : BkD w W lo B v bs A u L) (hx : Ext W W') : BkD w W' lo B v bs A u L := h.step (h.1.1.ext hx) (hx.grownBy _)
theorem BkD.more {w W : World} {lo B A A' : Nat} {v u : Value} {bs : List Int} {L : List ByteArray} (h : BkD w W lo B v bs A u L) (hA : A ≤ A') : BkD w W lo B v bs A' u L := ⟨h.1.more hA, h.2⟩
theorem BkD.grow {w W W' : World} {lo B A : Nat} {v u u' : Value} {bs : List Int} {L : List ByteArray} {s : ByteArray} (h : BkD w W lo B v bs A u L) (hg : W.grownBy W' u.ownBlock) (ho : W'.ownsRow w.heap.size 9 1 u' (L.length + 1) (vStrs L ++ [.string s])) (hs : s.size ≤ 9) : BkD w W' lo B v bs A u' (L ++ [s]) := by
  refine ⟨h.1.grow hg (fun j e => (own_row h.2.1 j e).1), ?_, fun t ht => ?_⟩
  · rw [List.length_append, show vStrs (L ++ [s]) = vStrs L ++ [.string s] by simp [vStrs]]
    exact ho
  · rcases List.mem_append.1 ht with h1 | h1
    · exact h.2.2 t h1
    · rw [List.mem_singleton.1 h1]; exact hs
theorem spec_block {bs : List Int} (hb : Bts bs) {lo B A : Nat} {v : Value} (w : World) (h : Cs w lo B v bs A) (hA : A ≤ 500000) :
    Calls Tryd.prog 47 #[.pointer (some ⟨B, 0, none⟩)] w fun e w' => ∃ (r : Value) (L : List ByteArray), e = .returned r ∧ Sml L ∧ w'.ownsRow w.heap.size 9 1 r L.length (vStrs L) ∧ Cs w' lo B v bs (A + 100) ∧ w.grownBy w' (some B) := by
  have Hb := hid hb
  have hl0 : (w.alloc (.cells #[] 9)).ownsRow w.heap.size 9 1 (.slice (some ⟨w.heap.size, 0, none⟩) 0 0) 0 [] := World.ownsRow_lit w #[] 0 (Nat.le_refl _) (Nat.zero_le _) rfl
  have H0 : Hid (BkD w (w.alloc (.cells #[] 9)) lo B v bs A (.slice (some ⟨w.heap.size, 0, none⟩) 0 0) []) := ⟨(Dr.start h).ext (by repeat' (first | exact Ext.refl _ | assumption | refine Ext.alloc ?_ _ | refine Ext.ext ?_ _ | refine Ext.drew ?_ | refine Ext.drewN ?_ _)), hl0, by simp⟩
  clear h hb hl0
  obtain ⟨i0, hi, hz0, hz1, hz2⟩ := info_parts infoStr
  go_enter Tryd.func47, Tryd.ntmps47
  go_wp2_with fail
  go_at_call 43
  refine (spec_pick Hb.out 5 _ H0.out.1.1 (by omega) (by omega)).mono ?_
  rintro e w1 ⟨x, rfl, hx0, hx1, hc, hg⟩
  have H1 := hid (H0.out.step hc hg)
  clear hc hg H0
  obtain ⟨n, rfl⟩ : ∃ k : Nat, x = k := ⟨x.toNat, by omega⟩
  have e1 : IntKind.i64.wrap (1 + (n : Int)) = ((n + 1 : Nat) : Int) := by rw [IntWalk.i64_in _ (by omega)]; omega
  have hn5 : n + 1 ≤ 5 := by omega
  generalize n + 1 = m at *
  go_wp2
  go_loopw [4, 3] (fun v4 v3 wr => ∃ (k : Nat) (u : Value) (L : List ByteArray), k ≤ 5 ∧ v4 = .int .i64 k ∧ v3 = u ∧ L.length + k ≤ 5 ∧ Hid (BkD w wr lo B v bs (A + 50 - 8 * k) u L)) (fun v4 _ _ => (intOf v4).toNat)
  case atStart => exact ⟨m, _, [], hn5, rfl, rfl, by simp; omega, H1.out.more (by omega)⟩
  case round =>
    obtain ⟨k, u, L, hk, rfl, rfl, hL, HR⟩ := hrel
    clear H1 e1
    by_cases hlt : 0 < k
    · obtain ⟨k, rfl⟩ : ∃ j, k = j + 1 := ⟨k - 1, by omega⟩
      have t0 : (0 : Int) < ((k + 1 : Nat) : Int) := by omega
      go_wp2_with fail
      go_at_call 40
      refine (spec_letters Hb.out 6 6 rfl _ HR.out.1.1 (by omega) (by omega)).mono ?_
      rintro e wq ⟨s, rfl, hi6, hc, hg⟩
      have H2 := hid (HR.out.step hc hg)
      have hs : s.size ≤ 9 := by have := itm_iff6 hi6; omega
      clear hc hg HR hi6
      obtain ⟨up, uc, rfl⟩ := own_shape H2.out.2.1
      go_wp2_with (at_builtin; refine wpList_append_own _ rfl _ _ 35 rfl w.heap.size 9 i0 (.string ByteArray.empty) 1 16 Tryd.underlying35 hi hz0 hz1 hz2 rfl (by decide) _ _ _ rfl ((own_ext H2.out.2.1 (by repeat' (first | exact Ext.refl _ | assumption | refine Ext.alloc ?_ _ | refine Ext.ext ?_ _ | refine Ext.drew ?_ | refine Ext.drewN ?_ _)))) ⟨_, 0, none⟩ 1 1 [.string s] rfl ?a0A ?a1A ?a2A ?a3A ?a4A ?a5A ?_)
      (try case a0A => rfl)
      case a1A => (intro j u hj; rw [Addr.add_lit, Nat.zero_add, cell_of_row _ _ j _ _ (0, 0) (heap_at _ rfl)]; first | (simpa using hj) | (simpa [hwb.out] using hj))
      case a2A => simp [Value.oneCell']
      case a3A => (unfold maxLen; simp; omega)
      case a4A => (first | omega | (simp; omega))
      case a5A => (have := (H2.out.1.size); first | omega | (simp at *; omega))
      intro v' w1 hown' hgrow hat
      have H3 := hid ((H2.out.ext (show Ext wq (wq.alloc (.cells #[.string s] 9)) from (by repeat' (first | exact Ext.refl _ | assumption | refine Ext.alloc ?_ _ | refine Ext.ext ?_ _ | refine Ext.drew ?_ | refine Ext.drewN ?_ _)))).grow hgrow hown' hs)
      obtain ⟨vp, vc, rfl⟩ := own_shape hown'
      clear hown' hgrow hat
      clear H2
      go_wp2
      go_roundw
      case rel => exact ⟨k, _, L ++ [s], by omega, by go_num, rfl, by simp; omega, H3.out.more (by omega)⟩
      case measure => simp [intOf]
    · obtain rfl : k = 0 := by omega
      go_wp2_with fail
      go_at_call 43
      refine (spec_pick Hb.out 20 _ HR.out.1.1 (by omega) (by omega)).mono ?_
      rintro e wz ⟨z, rfl, hz0', hz1', hc, hg⟩
      have H2 := hid ((HR.out.step hc hg).more (show A + 50 - 8 * 0 + 1 ≤ A + 51 by omega))
      clear hc hg HR
      by_cases z0 : z = 0
      · subst z0
        go_wp2_with fail
        go_at_call 32
        refine (spec_item Hb.out _ H2.out.1.1 (by omega)).mono ?_
        rintro e wq ⟨s, rfl, hs, hc, hg⟩
        have H3 := hid (H2.out.step hc hg)
        clear hc hg H2
        obtain ⟨up, uc, rfl⟩ := own_shape H3.out.2.1
        go_wp2_with (at_builtin; refine wpList_append_own _ rfl _ _ 35 rfl w.heap.size 9 i0 (.string ByteArray.empty) 1 16 Tryd.underlying35 hi hz0 hz1 hz2 rfl (by decide) _ _ _ rfl ((own_ext H3.out.2.1 (by repeat' (first | exact Ext.refl _ | assumption | refine Ext.alloc ?_ _ | refine Ext.ext ?_ _ | refine Ext.drew ?_ | refine Ext.drewN ?_ _)))) ⟨_, 0, none⟩ 1 1 [.string s] rfl ?a0B ?a1B ?a2B ?a3B ?a4B ?a5B ?_)
        (try case a0B => rfl)
        case a1B => (intro j u hj; rw [Addr.add_lit, Nat.zero_add, cell_of_row _ _ j _ _ (0, 0) (heap_at _ rfl)]; first | (simpa using hj) | (simpa [hwb.out] using hj))
        case a2B => simp [Value.oneCell']
        case a3B => (unfold maxLen; simp; omega)
        case a4B => (first | omega | (simp; omega))
        case a5B => (have := (H3.out.1.size); first | omega | (simp at *; omega))
        intro v' w1 hown' hgrow hat
        have H4 := hid ((H3.out.ext (show Ext wq (wq.alloc (.cells #[.string s] 9)) from (by repeat' (first | exact Ext.refl _ | assumption | refine Ext.alloc ?_ _ | refine Ext.ext ?_ _ | refine Ext.drew ?_ | refine Ext.drewN ?_ _)))).grow hgrow hown' hs)
        obtain ⟨vp, vc, rfl⟩ := own_shape hown'
        clear hown' hgrow hat
        clear H3
        go_wp2
        go_ret
        exact ⟨_, L ++ [s], rfl, ⟨by simp; omega, H4.out.2.2⟩, H4.out.2.1, (H4.out.1.more (by omega)).fin⟩
      by_cases z1 : z = 1
      · subst z1
        have hl1 : (wz.alloc (.cells #[] 9)).ownsRow w.heap.size 9 1 (.slice (some ⟨wz.heap.size, 0, none⟩) 0 0) 0 [] := World.ownsRow_lit wz #[] 0 H2.out.1.size (Nat.zero_le _) rfl
        have H3 := hid (And.intro hl1 (H2.out.1.ext (show Ext wz (wz.alloc (.cells #[] 9)) from (by repeat' (first | exact Ext.refl _ | assumption | refine Ext.alloc ?_ _ | refine Ext.ext ?_ _ | refine Ext.drew ?_ | refine Ext.drewN ?_ _)))))
        clear hl1 H2
        go_wp2
        go_ret
        exact ⟨_, [], rfl, ⟨by simp, by simp⟩, H3.out.1, (H3.out.2.more (by omega)).fin⟩
      by_cases z2 : z = 2
      · subst z2
        clear z0 z1 hz0' hz1'
        go_wp2
        go_loopw [5, 3] (fun v5 v3 wr => ∃ (k : Nat) (u : Value) (M : List ByteArray), k ≤ 8 ∧ v5 = .int .i64 k ∧ v3 = u ∧ M.length ≤ 7 ∧ Hid (BkD w wr lo B v bs (A + 60 + k) u M)) (fun v5 _ _ => 8 - (intOf v5).toNat)
        case atStart => exact ⟨0, _, L, by omega, rfl, rfl, by omega, H2.out.more (by omega)⟩
        case round =>
          obtain ⟨k, u, M, hk, rfl, rfl, hM, HM⟩ := hrel
          clear H2
          obtain ⟨up, uc, rfl⟩ := own_shape HM.out.2.1
          go_wp2_with fail
          go_at_call 43
          refine (spec_pick Hb.out 2 _ HM.out.1.1 (by omega) (by omega)).mono ?_
          rintro e wq ⟨y, rfl, hy0, hy1, hc, hg⟩
          have H3 := hid (HM.out.step hc hg)
          clear hc hg HM
          have e1 : IntKind.i64.wrap (6 + y) = 6 + y := IntWalk.i64_in _ (by omega)
          by_cases h6 : (M.length : Int) < 6 + y
          · by_cases h8 : (k : Int) < 8
            · skip
              go_wp2_with (at_builtin; refine wpList_append_own _ rfl _ _ 35 rfl w.heap.size 9 i0 (.string ByteArray.empty) 1 16 Tryd.underlying35 hi hz0 hz1 hz2 rfl (by decide) _ _ _ rfl ((own_ext H3.out.2.1 (by repeat' (first | exact Ext.refl _ | assumption | refine Ext.alloc ?_ _ | refine Ext.ext ?_ _ | refine Ext.drew ?_ | refine Ext.drewN ?_ _)))) ⟨_, 0, none⟩ 1 1 [.string (⟨#[113]⟩ : ByteArray)] rfl ?a0C ?a1C ?a2C ?a3C ?a4C ?a5C ?_)
              (try case a0C => rfl)
              case a1C => (intro j u hj; rw [Addr.add_lit, Nat.zero_add, cell_of_row _ _ j _ _ (0, 0) (heap_at _ rfl)]; first | (simpa using hj) | (simpa [hwb.out] using hj))
              case a2C => simp [Value.oneCell']
              case a3C => (unfold maxLen; simp; omega)
              case a4C => (first | omega | (simp; omega))
              case a5C => (have := (H3.out.1.size); first | omega | (simp at *; omega))
              intro v' w1 hown' hgrow hat
              have H4 := hid ((H3.out.ext (show Ext wq (wq.alloc (.cells #[.string (⟨#[113]⟩ : ByteArray)] 9)) from (by repeat' (first | exact Ext.refl _ | assumption | refine Ext.alloc ?_ _ | refine Ext.ext ?_ _ | refine Ext.drew ?_ | refine Ext.drewN ?_ _)))).grow hgrow hown' (by decide))
              obtain ⟨vp, vc, rfl⟩ := own_shape hown'
              clear hown' hgrow hat
              clear H3
              go_wp2
              go_roundw
              case rel => exact ⟨k + 1, _, M ++ [(⟨#[113]⟩ : ByteArray)], by omega, by go_num, rfl, by simp; omega, H4.out.more (by omega)⟩
              case measure => simp [intOf]; omega
            · go_wp2
              go_ret
              first | exact ⟨_, M, rfl, ⟨by omega, H3.out.2.2⟩, H3.out.2.1, (H3.out.1.more (by omega)).fin⟩ | exact ⟨_, rfl, M, ⟨by omega, H3.out.2.2⟩, H3.out.2.1, (H3.out.1.more (by omega)).fin⟩
          · go_wp2
            go_ret
            first | exact ⟨_, M, rfl, ⟨by omega, H3.out.2.2⟩, H3.out.2.1, (H3.out.1.more (by omega)).fin⟩ | exact ⟨_, rfl, M, ⟨by omega, H3.out.2.2⟩, H3.out.2.1, (H3.out.1.more (by omega)).fin⟩
      have t0 : (z == 0) = false := by rw [beq_eq_false_iff_ne]; omega
      have t1 : (z == 1) = false := by rw [beq_eq_false_iff_ne]; omega
      have t2 : (z == 2) = false := by rw [beq_eq_false_iff_ne]; omega
      obtain ⟨up, uc, rfl⟩ := own_shape H2.out.2.1
      go_wp2
      go_ret
      exact ⟨_, L, rfl, ⟨by omega, H2.out.2.2⟩, H2.out.2.1, (H2.out.1.more (by omega)).fin⟩
end Go.Proofs.YthnfdgbmmiddlaaDoor
