/- Strings that are drawn. -/
import Derived.Test.YtljknhocfjpolaaGreatDoorJ3
import Derived.Test.YtljknhocfjpolaaGreatDoorJ4
import Derived.Maps.AppendAt
namespace Go.Proofs.YtljknhocfjpolaaGreatDoor
open Go.RowKit
set_option maxHeartbeats 2000000
set_option maxRecDepth 100000
theorem strs_of : ∀ cs : List Value, (∀ y ∈ cs, ∃ k, y = .string k) → ∃ L : List ByteArray, cs = vStrs L
  | [], _ => ⟨[], rfl⟩
  | c :: cs, h => by
    obtain ⟨L, hL⟩ := strs_of cs (fun y hy => h y (by simp [hy]))
    obtain ⟨k, hk⟩ := h c (by simp)
    exact ⟨k :: L, by rw [hL, hk]; rfl⟩
theorem spec_of {bs : List Int} (hb : Bts bs) {lo B A : Nat} {v : Value} (L : List ByteArray) (u : Value) (w : World) (h : Cs w lo B v bs A) (hu : Rd w 1 u L.length (vStrs L)) (hub : ∀ b o m c, u = .slice (some ⟨b, o, none⟩) m c → 0 < m → b ≠ B) (hA : A ≤ 900000) (hn : 1 ≤ L.length ∧ L.length ≤ 200) :
    Calls Tryz.prog 126 #[.pointer (some ⟨B, 0, none⟩), u] w fun e w' => ∃ x : ByteArray, e = .returned (.string x) ∧ x ∈ L ∧ Cs w' lo B v bs (A + 1) ∧ w.grownBy w' (some B) := by
  have Hn := hid (fun w h => spec_pick hb (lo := lo) (B := B) (A := A) (v := v) (L.length : Int) w h hA (by omega))
  have Hc := hid h
  have Hr := hid hu
  obtain ⟨-, p, cap, rfl, h4⟩ := hu
  obtain ⟨b, o, rfl, -⟩ := h4.resolve_left (by omega)
  have hne := hub b o _ _ rfl (by omega)
  clear h hub
  go_enter Tryz.func126, Tryz.ntmps126
  go_wp2_with fail
  go_at_call 59
  refine (Hn.out _ (Hc.out.ext (by repeat' (first | exact Ext.refl _ | assumption | refine Ext.alloc ?_ _ | refine Ext.ext ?_ _ | refine Ext.drew ?_ | refine Ext.drewN ?_ _)))).mono ?_
  rintro e w1 ⟨x, rfl, hx0, hx1, hc1, hg1⟩
  obtain ⟨j, rfl⟩ : ∃ j : Nat, x = j := ⟨x.toNat, by omega⟩
  have hr1 := rd_turn (Hr.out.ext (show Ext w _ from (by repeat' (first | exact Ext.refl _ | assumption | refine Ext.alloc ?_ _ | refine Ext.ext ?_ _ | refine Ext.drew ?_ | refine Ext.drewN ?_ _)))) hg1 (fun b' o' m' c' e _ => by cases e; intro e2; exact hne (Option.some.inj e2).symm)
  obtain ⟨-, p, cap', e9, h4'⟩ := hr1
  cases e9
  obtain ⟨b', o', e8, h6⟩ := h4'.resolve_left (by omega)
  cases e8
  have hj : j < L.length := by omega
  have c0 := elem1 Value.string ByteArray.empty L h6 j hj
  have hm : L.getD j ByteArray.empty ∈ L := by rw [List.getD_eq_getElem?_getD, List.getElem?_eq_getElem hj]; exact List.getElem_mem hj
  generalize L.getD j ByteArray.empty = y at *
  have K := hid (And.intro hc1 hg1)
  have n0 : (0 : Int) ≤ (j : Int) := by omega
  clear hc1 hg1 h4' h6
  go_wp2
  go_ret
  exact ⟨y, rfl, hm, K.out.1, K.out.2⟩
def okLit (q : ByteArray → Bool) : Value → Bool
  | .string s => q s
  | _ => false
theorem okLit_of {q : ByteArray → Bool} {cs : List Value} (h : cs.all (okLit q) = true) (y : Value) (hy : y ∈ cs) : ∃ k, y = .string k ∧ q k = true := by
  have := List.all_eq_true.1 h y hy
  cases y with
  | string s => exact ⟨s, rfl, this⟩
  | _ => cases this
/-- One of a literal's texts. -/
theorem spec_ofLit {bs : List Int} (hb : Bts bs) {lo B A : Nat} {v : Value} (cs : Array Value) (n g : Nat) (w0 w : World) (h : Cs w0 lo B v bs A) (hx : Ext w0 w) (hg0 : g = w.heap.size) (hl : cs.size = n) (hA : A ≤ 900000) (hn : 1 ≤ n ∧ n ≤ 200) (q : ByteArray → Bool) (hall0 : cs.toList.all (okLit q) = true) :
    Calls Tryz.prog 126 #[.pointer (some ⟨B, 0, none⟩), .slice (some ⟨g, 0, none⟩) n n] (w.alloc (.cells cs 9)) fun e w' => ∃ x : ByteArray, e = .returned (.string x) ∧ q x = true ∧ Cs w' lo B v bs (A + 1) ∧ w0.grownBy w' (some B) := by
  have hall := okLit_of hall0
  obtain ⟨L, hL⟩ := strs_of cs.toList (fun y hy => by obtain ⟨k, e, _⟩ := hall y hy; exact ⟨k, e⟩)
  have hq : ∀ x ∈ L, q x = true := fun x hx => by
    obtain ⟨k, e, h2⟩ := hall (.string x) (by rw [hL]; exact List.mem_map.2 ⟨x, hx, rfl⟩)
    cases e
    exact h2
  have hl2 : n = L.length := by have := congrArg List.length hL; rw [← hl]; simpa [vStrs] using this
  have hr := rd_litC w 9 cs
  rw [hL, hl, hl2, ← hg0] at hr
  rw [hl2] at hn
  rw [hl2]
  have hc := h.ext (hx.alloc (.cells cs 9))
  have hlo := (h.ext hx).lo
  have hg := (hx.alloc (.cells cs 9)).grownBy (some B)
  clear hL hall hall0 hl hl2
  generalize w.alloc (.cells cs 9) = W at *
  have key := spec_of hb L (.slice (some ⟨g, 0, none⟩) L.length L.length) W hc hr (fun b o m c e _ => by cases e; omega) hA hn
  exact key.mono fun e w' ⟨x, e1, e0, e2, e3⟩ => ⟨x, e1, hq x e0, e2, grownBy_trans hg e3⟩
/-- Letters of a text are few and small. -/
theorem itm_app {m n : Nat} {s t : ByteArray} (h : itm m s = true) (k : itm n t = true) : itm (m + n) (s ++ t) = true := by
  simp only [itm, lets_eq, Bool.and_eq_true, decide_eq_true_eq] at h k ⊢
  refine ⟨?_, by rw [ByteArray.size_append]; omega⟩
  rw [ByteArray.data_append, Array.toList_append, List.all_append, h.1, k.1]; rfl
theorem itm_more {m n : Nat} {s : ByteArray} (h : itm m s = true) (hmn : m ≤ n) : itm n s = true := by
  simp only [itm, Bool.and_eq_true, decide_eq_true_eq] at h ⊢
  exact ⟨h.1, by omega⟩
theorem itm_iff6 {n : Nat} {s : ByteArray} (h : itm n s = true) : s.size ≤ n := by
  simp only [itm, Bool.and_eq_true, decide_eq_true_eq] at h
  exact h.2
theorem spec_letters {bs : List Int} (hb : Bts bs) {lo B A : Nat} {v : Value} (n : Nat) (z : Int) (hz : z = n) (w : World) (h : Cs w lo B v bs A) (hn : n ≤ 100) (hA : A ≤ 700000) :
    Calls Tryz.prog 98 #[.pointer (some ⟨B, 0, none⟩), .int .i64 z] w fun e w' => ∃ s : ByteArray, e = .returned (.string s) ∧ itm n s = true ∧ Cs w' lo B v bs (A + n + 1) ∧ w.grownBy w' (some B) := by
  subst hz
  have Hb := hid hb
  have H0 := hid (Dr.start h)
  have e0 : IntKind.i64.wrap ((n : Int) + 1) = (n : Int) + 1 := IntWalk.i64_in _ (by omega)
  clear h hb
  go_enter Tryz.func98, Tryz.ntmps98
  go_wp2_with fail
  go_at_call 59
  refine (spec_pick Hb.out ((n : Int) + 1) _ (H0.out.1.ext (by repeat' (first | exact Ext.refl _ | assumption | refine Ext.alloc ?_ _ | refine Ext.ext ?_ _ | refine Ext.drew ?_ | refine Ext.drewN ?_ _))) (by omega) (by omega)).mono ?_
  rintro e w1 ⟨x, rfl, hx0, hx1, hc, hg⟩
  have H1 := hid (H0.out.step hc hg)
  clear hc hg H0 e0
  obtain ⟨k0, rfl⟩ : ∃ k : Nat, x = k := ⟨x.toNat, by omega⟩
  go_wp2
  go_loopw [6, 5] (fun v6 v5 wr => ∃ (k : Nat) (s : ByteArray), k ≤ n ∧ v6 = .int .i64 k ∧ v5 = .string s ∧ Hid (itm (n - k) s = true ∧ Dr w wr lo B v bs (A + 1 + (n - k)))) (fun v6 _ _ => (intOf v6).toNat)
  case atStart => exact ⟨k0, ⟨#[]⟩, by omega, rfl, rfl, ⟨itm_more (m := 0) (by decide) (Nat.zero_le _), H1.out.more (by omega)⟩⟩
  case round =>
    obtain ⟨k, s, hk, rfl, rfl, HR⟩ := hrel
    clear H1
    by_cases hlt : 0 < k
    · obtain ⟨k, rfl⟩ : ∃ j, k = j + 1 := ⟨k - 1, by omega⟩
      have t0 : (0 : Int) < ((k + 1 : Nat) : Int) := by omega
      go_wp2_with fail
      go_at_call 126
      refine (spec_ofLit Hb.out _ _ _ wr _ HR.out.2.1 (by repeat' (first | exact Ext.refl _ | assumption | refine Ext.alloc ?_ _ | refine Ext.ext ?_ _ | refine Ext.drew ?_ | refine Ext.drewN ?_ _)) (by simp) (by rfl) (by omega) (by omega) (itm 1) (by kernel_rfl)).mono ?_
      rintro e w2 ⟨y, rfl, hy, hc, hg⟩
      have H2 := hid (And.intro (itm_app HR.out.1 hy) (HR.out.2.step hc hg))
      have q1 := itm_iff6 HR.out.1
      have q2 := itm_iff6 hy
      clear hc hg hy HR
      go_wp2
      go_roundw
      case rel => exact ⟨k, s ++ y, by omega, by go_num, rfl, ⟨itm_more H2.out.1 (by omega), H2.out.2.more (by omega)⟩⟩
      case measure => simp [intOf]
    · obtain rfl : k = 0 := by omega
      go_wp2
      go_ret
      exact ⟨s, rfl, HR.out.1, (HR.out.2.more (by omega)).fin⟩
end Go.Proofs.YtljknhocfjpolaaGreatDoor
