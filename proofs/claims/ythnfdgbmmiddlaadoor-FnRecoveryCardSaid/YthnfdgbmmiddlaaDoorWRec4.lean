/- The item that a gapped block lacks: the reference's whole. -/
import Derived.Test.YthnfdgbmmiddlaaDoorWRec3
namespace Go.Proofs.YthnfdgbmmiddlaaDoor
open Go.RowKit
set_option maxHeartbeats 400000
set_option maxRecDepth 100000
theorem oth_bad {ss : List ByteArray} {m k : Nat} (h : k ≠ m) (hk : k < ss.length) (hf : itm 8 (ss.getD k ByteArray.empty) = false) : allS (oth ss m) = false := by
  cases ha : allS (oth ss m)
  · rfl
  · rw [oth_mem h hk ha] at hf
    cases hf
theorem spec_RecoverItem (ss : List ByteArray) (xs : List Int) (m : Int) (v v' : Value) (w : World) (h : Rd w 1 v ss.length (vStrs ss)) (k : Rd w 1 v' xs.length (vInts xs)) (h2 : ss.length ≤ 1048576) (h3 : chars ss ≤ 1048576) (k2 : xs.length ≤ 1048576) :
    Calls Tryd.prog 29 #[v, .int .i64 m, v'] w fun e w' => e = .returned (.tuple #[.string (recT ss m xs), .bool (recR ss m xs)]) ∧ Ext w w' := by
  have hr := h
  obtain ⟨h1, p, cap, rfl, h4⟩ := h
  have H4 := hid h4
  clear h1 h4
  have Hr := hid hr
  have Kr := hid k
  have hw := hid (fun w => spec_l1In m 0 ((ss.length : Int) - 1) w)
  have hp : Hid (∀ w, Rd w 1 v' xs.length (vInts xs) → Calls Tryd.prog 44 #[v'] w fun e w' => e = .returned (.bool (isPar xs)) ∧ Ext w w') := fun w h => spec_l24Good xs v' w h k2
  have w1 : IntKind.i64.wrap ((ss.length : Int) - 1) = ss.length - 1 := IntWalk.i64_in _ (by omega)
  clear k hr
  cases e1 : inB m 0 ((ss.length : Int) - 1)
  · have f0 : recB ss m xs = false := by rw [recB, e1]; rfl
    rw [(rec_no f0).1, (rec_no f0).2]
    rw [e1] at hw
    clear f0 e1
    go_enter Tryd.func29, Tryd.ntmps29
    go_wp2_with (go_at_call 52; refine (hw.out _).mono ?_; rintro e w' ⟨rfl, rfl⟩)
    go_ret2
    exact ⟨rfl, (by repeat' (first | exact Ext.refl _ | assumption | refine Ext.alloc ?_ _ | refine Ext.ext ?_ _ | refine Ext.drew ?_ | refine Ext.drewN ?_ _))⟩
  rw [e1] at hw
  by_cases h6 : ss.length ≤ 6
  · have t6 : decide ((6 : Int) < ss.length) = false := by simp; omega
    cases e2 : isPar xs
    · have f0 : recB ss m xs = false := by rw [recB, e1, e2]; rfl
      rw [(rec_no f0).1, (rec_no f0).2]
      rw [e2] at hp
      clear f0 e1 e2
      go_enter Tryd.func29, Tryd.ntmps29
      go_wp2_with (first
        | (go_at_call 52; refine (hw.out _).mono ?_; rintro e w' ⟨rfl, rfl⟩)
        | (go_at_call 44; (with_reducible refine (hp.out _ (Kr.out.ext (by repeat' (first | exact Ext.refl _ | assumption | refine Ext.alloc ?_ _ | refine Ext.ext ?_ _ | refine Ext.drew ?_ | refine Ext.drewN ?_ _)))).mono ?_); rintro e w' ⟨rfl, z1, rfl⟩))
      go_ret2
      exact ⟨rfl, (by repeat' (first | exact Ext.refl _ | assumption | refine Ext.alloc ?_ _ | refine Ext.ext ?_ _ | refine Ext.drew ?_ | refine Ext.drewN ?_ _))⟩
    rw [e2] at hp
    have e1' := inB_iff.1 e1
    obtain ⟨i, rfl⟩ := Int.eq_ofNat_of_zero_le e1'.1
    have hrb : recB ss i xs = allS (oth ss i) := by rw [recB, e1, e2, decide_eq_true h6, Int.toNat_natCast]; rfl
    have hrn : allS (oth ss i) = false → recT ss i xs = ⟨#[]⟩ ∧ recR ss i xs = false := fun h => rec_no (by rw [hrb]; exact h)
    have hry : allS (oth ss i) = true → recT ss i xs = ofT (recC ss i xs) ∧ recR ss i xs = ofB (recC ss i xs) := fun h => rec_yes (by rw [hrb]; exact h)
    have hre := hid (fun ha w h k => spec_l24Recover ss xs i (.slice p ss.length cap) v' w h k h2 e2 ha)
    have hbad := fun k h hk hf => hrn (oth_bad (ss := ss) (m := i) (k := k) h hk hf)
    have hall := fun h => oth_all (ss := ss) (m := i) h
    have hsz := fun k (hk : k < ss.length) => size_of h3 hk
    have Hbad := hid hbad
    have Hall := hid hall
    have Hry := hid hry
    have Hsz := hid hsz
    clear hrb hrn hry hbad hall hsz e1 e1' e2
    generalize hT : recT ss i xs = T at *
    generalize hR : recR ss i xs = R at *
    clear hT hR
    go_enter Tryd.func29, Tryd.ntmps29
    go_wp2_with (first
      | (go_at_call 52; refine (hw.out _).mono ?_; rintro e w' ⟨rfl, rfl⟩)
      | (go_at_call 44; (with_reducible refine (hp.out _ (Kr.out.ext (by repeat' (first | exact Ext.refl _ | assumption | refine Ext.alloc ?_ _ | refine Ext.ext ?_ _ | refine Ext.drew ?_ | refine Ext.drewN ?_ _)))).mono ?_); rintro e w' ⟨rfl, z1, rfl⟩))
    go_loopw [8] (fun v8 wr => ∃ k : Nat, k ≤ ss.length ∧ v8 = .int .i64 k ∧ (∀ j, j < k → j ≠ i → itm 8 (ss.getD j ByteArray.empty) = true) ∧ Ext w wr) (fun v8 _ => ss.length - (intOf v8).toNat)
    case atStart => exact ⟨0, Nat.zero_le _, rfl, fun j hj => absurd hj (Nat.not_lt_zero _), (by repeat' (first | exact Ext.refl _ | assumption | refine Ext.alloc ?_ _ | refine Ext.ext ?_ _ | refine Ext.drew ?_ | refine Ext.drewN ?_ _))⟩
    case round =>
      obtain ⟨k, hk, rfl, hall, z, rfl⟩ := hrel
      by_cases hlt : k < ss.length
      · by_cases hkm : k = i
        · subst hkm
          have next : ∀ j, j < k + 1 → j ≠ k → itm 8 (ss.getD j ByteArray.empty) = true := fun j hj hn => hall j (by omega) hn
          have Next := hid next
          clear next hall
          go_wp2
          go_roundw
          case rel => exact ⟨k + 1, by omega, by go_num, Next.out, (by repeat' (first | exact Ext.refl _ | assumption | refine Ext.alloc ?_ _ | refine Ext.ext ?_ _ | refine Ext.drew ?_ | refine Ext.drewN ?_ _))⟩
          case measure => simp [intOf]; omega
        · obtain ⟨b, off, rfl, h6⟩ := H4.out.resolve_left (by omega)
          have c0 := elem1 Value.string ByteArray.empty ss h6 k hlt
          have t1 : decide ((k : Int) = (i : Int)) = false := by simp; omega
          have hkm' : ¬ (k : Int) = (i : Int) := by omega
          have next : itm 8 (ss.getD k ByteArray.empty) = true → ∀ j, j < k + 1 → j ≠ i → itm 8 (ss.getD j ByteArray.empty) = true := fun h j hj hn => by
            by_cases e : j = k
            · subst e; exact h
            · exact hall j (by omega) hn
          have bad := Hbad.out k hkm hlt
          have hs := Hsz.out k hlt
          clear h6 hall
          generalize ss.getD k ByteArray.empty = x at c0 next bad hs
          have Next := hid next
          have Bad := hid bad
          have hli := hid (fun w => spec_l24Item x w hs)
          clear next bad hs
          cases hx : itm 8 x
          · have Hx := hid hx
            rw [hx] at hli
            clear hx
            go_wp2_with (go_at_call 38; refine (hli.out _).mono ?_; rintro e w' ⟨rfl, z1, rfl⟩)
            go_ret2
            exact ⟨by rw [(Bad.out Hx.out).1, (Bad.out Hx.out).2]; rfl, (by repeat' (first | exact Ext.refl _ | assumption | refine Ext.alloc ?_ _ | refine Ext.ext ?_ _ | refine Ext.drew ?_ | refine Ext.drewN ?_ _))⟩
          · have Hx := hid hx
            rw [hx] at hli
            clear hx
            go_wp2_with (go_at_call 38; refine (hli.out _).mono ?_; rintro e w' ⟨rfl, z1, rfl⟩)
            go_roundw
            case rel => exact ⟨k + 1, by omega, by go_num, Next.out Hx.out, (by repeat' (first | exact Ext.refl _ | assumption | refine Ext.alloc ?_ _ | refine Ext.ext ?_ _ | refine Ext.drew ?_ | refine Ext.drewN ?_ _))⟩
            case measure => simp [intOf]; omega
      · have ha : allS (oth ss i) = true := Hall.out (fun j hj hn => hall j (by omega) hn)
        have Ha := hid ha
        clear ha hall
        go_wp2_with (go_at_call 63; (refine (hre.out Ha.out _ (Hr.out.ext (by repeat' (first | exact Ext.refl _ | assumption | refine Ext.alloc ?_ _ | refine Ext.ext ?_ _ | refine Ext.drew ?_ | refine Ext.drewN ?_ _))) (Kr.out.ext (by repeat' (first | exact Ext.refl _ | assumption | refine Ext.alloc ?_ _ | refine Ext.ext ?_ _ | refine Ext.drew ?_ | refine Ext.drewN ?_ _)))).mono ?_); rintro e w' ⟨rfl, z5, rfl⟩)
        go_ret2
        exact ⟨by rw [(Hry.out Ha.out).1, (Hry.out Ha.out).2]; rfl, (by repeat' (first | exact Ext.refl _ | assumption | refine Ext.alloc ?_ _ | refine Ext.ext ?_ _ | refine Ext.drew ?_ | refine Ext.drewN ?_ _))⟩
  · have t6 : decide ((6 : Int) < ss.length) = true := by simp; omega
    have f0 : recB ss m xs = false := by rw [recB, decide_eq_false h6, Bool.false_and, Bool.and_false]
    rw [(rec_no f0).1, (rec_no f0).2]
    clear f0 e1
    go_enter Tryd.func29, Tryd.ntmps29
    go_wp2_with (go_at_call 52; refine (hw.out _).mono ?_; rintro e w' ⟨rfl, rfl⟩)
    go_ret2
    exact ⟨rfl, (by repeat' (first | exact Ext.refl _ | assumption | refine Ext.alloc ?_ _ | refine Ext.ext ?_ _ | refine Ext.drew ?_ | refine Ext.drewN ?_ _))⟩
theorem opened_int {W : World} {v : Value} {r : Reach} {b : Nat} (hval : Value.okWide Tryd.prog W r b 3 v) : ∃ n : Int, v = .int .i64 n := by
  obtain ⟨n, rfl, -⟩ := Go.WideShapes.okWide_int Tryd.underlying3 hval
  exact ⟨n, rfl⟩
end Go.Proofs.YthnfdgbmmiddlaaDoor
