/- Costs: which are valid. -/
import Derived.Test.YtppdbnopgcjgjaaWCL
namespace Go.Proofs.Ytppdbnopgcjgjaa
open Go.RowKit
set_option maxHeartbeats 400000
def costOk (ls ds : List Int) (i : Nat) : Bool := inB (ls.getD i 0) 0 100 && inB (ds.getD i 0) 0 1000
def costsOk (n : Nat) (ls ds : List Int) : Bool := (List.range n).all (costOk ls ds)
def goodC (ps ls ds : List Int) : Bool :=
  goodT ps && ((ls.length : Int) == ps.length) && ((ds.length : Int) == ps.length) && costsOk ps.length ls ds && (ls.getD 0 0 == 0) && (ds.getD 0 0 == 0)
theorem goodC_all {ps ls ds : List Int} (h : goodC ps ls ds = true) : goodT ps = true ∧ ls.length = ps.length ∧ ds.length = ps.length ∧ costsOk ps.length ls ds = true ∧ ls.getD 0 0 = 0 ∧ ds.getD 0 0 = 0 := by
  unfold goodC at h
  simp only [Bool.and_eq_true, beq_iff_eq] at h
  obtain ⟨⟨⟨⟨⟨a, b⟩, c⟩, d⟩, e⟩, f⟩ := h
  exact ⟨a, by omega, by omega, d, e, f⟩
theorem goodC_no {ps ls ds : List Int} (h : goodT ps = false ∨ ¬ ls.length = ps.length ∨ ¬ ds.length = ps.length ∨ costsOk ps.length ls ds = false ∨ ¬ ls.getD 0 0 = 0 ∨ ¬ ds.getD 0 0 = 0) : goodC ps ls ds = false := by
  rw [← Bool.not_eq_true]
  intro hg
  obtain ⟨a, b, c, d, e, f⟩ := goodC_all hg
  rcases h with h | h | h | h | h | h <;> simp_all
theorem goodC_yes {ps ls ds : List Int} (h1 : goodT ps = true) (h2 : ls.length = ps.length) (h3 : ds.length = ps.length) (h4 : costsOk ps.length ls ds = true) (h5 : ls.getD 0 0 = 0) (h6 : ds.getD 0 0 = 0) : goodC ps ls ds = true := by
  simp [goodC, h1, h2, h3, h4]
  exact ⟨by simpa using h5, by simpa using h6⟩
theorem impl_IsValidCosts (ps ls ds : List Int) (v u u' : Value) (w : World) (h : Rd w 1 v ps.length (vInts ps)) (k : Rd w 1 u ls.length (vInts ls)) (l : Rd w 1 u' ds.length (vInts ds))
    (h2 : ps.length ≤ 1048576) (_k2 : ls.length ≤ 1048576) (_l2 : ds.length ≤ 1048576) :
    Calls Try.prog 29 #[.agg #[v], .agg #[u, u']] w fun e w' => e = .returned (.bool (goodC ps ls ds)) ∧ Ext w w' := by
  obtain ⟨h1, p, cap, rfl, h4⟩ := h
  obtain ⟨k1, q, cap', rfl, k4⟩ := k
  obtain ⟨l1, r, cap'', rfl, l4⟩ := l
  have Hr := hid (show Rd w 1 (.slice p ps.length cap) ps.length (vInts ps) from ⟨h1, p, cap, rfl, h4⟩)
  have K4 := hid k4
  have L4 := hid l4
  clear h1 h4 k1 k4 l1 l4
  cases hg : goodT ps
  · have Hg := hid hg
    go_enter Try.func29, Try.ntmps29
    go_wp2_with (go_at_call 58; refine (impl_IsValidTree ps _ _ (Hr.out.ext (by repeat' (first | exact Ext.refl _ | assumption | refine Ext.alloc ?_ _ | refine Ext.ext ?_ _ | refine Ext.drew ?_ | refine Ext.drewN ?_ _))) h2).mono ?_; rintro e w' ⟨rfl, z1, rfl⟩)
    go_ret
    exact ⟨by rw [goodC_no (.inl Hg.out)]; rfl, (by repeat' (first | exact Ext.refl _ | assumption | refine Ext.alloc ?_ _ | refine Ext.ext ?_ _ | refine Ext.drew ?_ | refine Ext.drewN ?_ _))⟩
  · have Hg := hid hg
    have hlen := goodT_len hg
    by_cases e1 : ls.length = ps.length
    · have t1 : ((ls.length : Int) != ps.length) = false := by simp [e1]
      by_cases e2 : ds.length = ps.length
      · have t2 : ((ds.length : Int) != ps.length) = false := by simp [e2]
        have E1 := hid e1
        have E2 := hid e2
        obtain ⟨b, off, rfl, k6⟩ := K4.out.resolve_left (by omega)
        obtain ⟨b', off', rfl, l6⟩ := L4.out.resolve_left (by omega)
        have K6 := hid k6
        have L6 := hid l6
        have c0 := elem1 (Value.int .i64) 0 ls k6 0 (by omega)
        have d0 := elem1 (Value.int .i64) 0 ds l6 0 (by omega)
        have hz := fun h4 => goodC_yes (ps := ps) (ls := ls) (ds := ds) hg e1 e2 h4
        have hz1 := fun (x : ¬ ls.getD 0 0 = 0) => goodC_no (ps := ps) (ls := ls) (ds := ds) (.inr (.inr (.inr (.inr (.inl x)))))
        have hz2 := fun (x : ¬ ds.getD 0 0 = 0) => goodC_no (ps := ps) (ls := ls) (ds := ds) (.inr (.inr (.inr (.inr (.inr x)))))
        generalize ls.getD 0 0 = x0 at c0 hz hz1
        generalize ds.getD 0 0 = y0 at d0 hz hz2
        simp only [Nat.add_zero] at c0 d0
        have Hz := hid hz
        have Hz1 := hid hz1
        have Hz2 := hid hz2
        clear e1 e2 k6 l6 K4 L4 hz hz1 hz2
        go_enter Try.func29, Try.ntmps29
        go_wp2_with (go_at_call 58; refine (impl_IsValidTree ps _ _ (Hr.out.ext (by repeat' (first | exact Ext.refl _ | assumption | refine Ext.alloc ?_ _ | refine Ext.ext ?_ _ | refine Ext.drew ?_ | refine Ext.drewN ?_ _))) h2).mono ?_; rintro e w' ⟨rfl, z1, rfl⟩)
        go_loopw [30] (fun v30 wr => ∃ k : Nat, k ≤ ps.length ∧ v30 = .int .i64 k ∧ (∀ i, i < k → costOk ls ds i = true) ∧ Ext (((w.alloc (.cells #[.slice p ps.length cap] 26)).alloc (.cells #[.slice (some ⟨b, off, none⟩) ls.length cap', .slice (some ⟨b', off', none⟩) ds.length cap''] 28)).ext z1) wr) (fun v30 _ => ps.length - (intOf v30).toNat)
        case atStart => exact ⟨0, Nat.zero_le _, rfl, fun _ h => absurd h (Nat.not_lt_zero _), Ext.refl _⟩
        case round =>
          obtain ⟨k, hk, rfl, hall, z, rfl⟩ := hrel
          by_cases hlt : k < ps.length
          · have hk1 : k < ls.length := by rw [E1.out]; exact hlt
            have hk2 : k < ds.length := by rw [E2.out]; exact hlt
            have c1 := elem1 (Value.int .i64) 0 ls K6.out k hk1
            have d1 := elem1 (Value.int .i64) 0 ds L6.out k hk2
            have next : costOk ls ds k = true → ∀ i, i < k + 1 → costOk ls ds i = true := fun h => upTo_succ hall h
            have bad : costOk ls ds k = false → goodC ps ls ds = false := fun h => goodC_no (.inr (.inr (.inr (.inl (allUpto hlt h)))))
            have hdef : costOk ls ds k = (inB (ls.getD k 0) 0 100 && inB (ds.getD k 0) 0 1000) := rfl
            generalize ls.getD k 0 = x at c1 hdef
            generalize ds.getD k 0 = y at d1 hdef
            generalize costOk ls ds k = f at next bad hdef
            have Next := hid next; clear next hall
            have Bad := hid bad; clear bad
            have Hdef := hid hdef; clear hdef
            cases hx : inB x 0 100
            · have Hx := hid hx
              go_wp2_with (go_at_call 70; refine (impl_within _ _ _ _).mono ?_; rintro e w' ⟨rfl, rfl⟩)
              go_ret
              exact ⟨by rw [Bad.out (by rw [Hdef.out, Hx.out]; rfl)]; rfl, (by repeat' (first | exact Ext.refl _ | assumption | refine Ext.alloc ?_ _ | refine Ext.ext ?_ _ | refine Ext.drew ?_ | refine Ext.drewN ?_ _))⟩
            · have Hx := hid hx
              cases hy : inB y 0 1000
              · have Hy := hid hy
                go_wp2_with (go_at_call 70; refine (impl_within _ _ _ _).mono ?_; rintro e w' ⟨rfl, rfl⟩)
                go_ret
                exact ⟨by rw [Bad.out (by rw [Hdef.out, Hx.out, Hy.out]; rfl)]; rfl, (by repeat' (first | exact Ext.refl _ | assumption | refine Ext.alloc ?_ _ | refine Ext.ext ?_ _ | refine Ext.drew ?_ | refine Ext.drewN ?_ _))⟩
              · have Hy := hid hy
                go_wp2_with (go_at_call 70; refine (impl_within _ _ _ _).mono ?_; rintro e w' ⟨rfl, rfl⟩)
                go_roundw
                case rel => exact ⟨k + 1, by omega, by go_num, Next.out (by rw [Hdef.out, Hx.out, Hy.out]; rfl), (by repeat' (first | exact Ext.refl _ | assumption | refine Ext.alloc ?_ _ | refine Ext.ext ?_ _ | refine Ext.drew ?_ | refine Ext.drewN ?_ _))⟩
                case measure => simp [intOf]; omega
          · have hf : costsOk ps.length ls ds = true := allTo (fun i hi => hall i (by omega))
            have Hf := hid hf; clear hf hall
            have l0 : 0 < ls.length := by rw [E1.out]; omega
            have l1 : 0 < ds.length := by rw [E2.out]; omega
            by_cases hx0 : x0 = 0
            · have s0 : (x0 == 0) = true := by simp [hx0]
              by_cases hy0 : y0 = 0
              · have s1 : (y0 == 0) = true := by simp [hy0]
                have R := hid (Hz.out Hf.out hx0 hy0)
                clear hx0 hy0
                go_wp2
                go_ret
                exact ⟨by rw [R.out]; rfl, (by repeat' (first | exact Ext.refl _ | assumption | refine Ext.alloc ?_ _ | refine Ext.ext ?_ _ | refine Ext.drew ?_ | refine Ext.drewN ?_ _))⟩
              · have s1 : (y0 == 0) = false := by rw [beq_eq_false_iff_ne]; exact hy0
                have R := hid (Hz2.out hy0)
                clear hx0 hy0
                go_wp2
                go_ret
                exact ⟨by rw [R.out]; rfl, (by repeat' (first | exact Ext.refl _ | assumption | refine Ext.alloc ?_ _ | refine Ext.ext ?_ _ | refine Ext.drew ?_ | refine Ext.drewN ?_ _))⟩
            · have s0 : (x0 == 0) = false := by rw [beq_eq_false_iff_ne]; exact hx0
              have R := hid (Hz1.out hx0)
              clear hx0
              go_wp2
              go_ret
              exact ⟨by rw [R.out]; rfl, (by repeat' (first | exact Ext.refl _ | assumption | refine Ext.alloc ?_ _ | refine Ext.ext ?_ _ | refine Ext.drew ?_ | refine Ext.drewN ?_ _))⟩
      · have t2 : ((ds.length : Int) != ps.length) = true := by simp; omega
        have E2 := hid e2
        clear e1 e2
        go_enter Try.func29, Try.ntmps29
        go_wp2_with (go_at_call 58; refine (impl_IsValidTree ps _ _ (Hr.out.ext (by repeat' (first | exact Ext.refl _ | assumption | refine Ext.alloc ?_ _ | refine Ext.ext ?_ _ | refine Ext.drew ?_ | refine Ext.drewN ?_ _))) h2).mono ?_; rintro e w' ⟨rfl, z1, rfl⟩)
        go_ret
        exact ⟨by rw [goodC_no (.inr (.inr (.inl E2.out)))]; rfl, (by repeat' (first | exact Ext.refl _ | assumption | refine Ext.alloc ?_ _ | refine Ext.ext ?_ _ | refine Ext.drew ?_ | refine Ext.drewN ?_ _))⟩
    · have t1 : ((ls.length : Int) != ps.length) = true := by simp; omega
      have E1 := hid e1
      clear e1
      go_enter Try.func29, Try.ntmps29
      go_wp2_with (go_at_call 58; refine (impl_IsValidTree ps _ _ (Hr.out.ext (by repeat' (first | exact Ext.refl _ | assumption | refine Ext.alloc ?_ _ | refine Ext.ext ?_ _ | refine Ext.drew ?_ | refine Ext.drewN ?_ _))) h2).mono ?_; rintro e w' ⟨rfl, z1, rfl⟩)
      go_ret
      exact ⟨by rw [goodC_no (.inr (.inl E1.out))]; rfl, (by repeat' (first | exact Ext.refl _ | assumption | refine Ext.alloc ?_ _ | refine Ext.ext ?_ _ | refine Ext.drew ?_ | refine Ext.drewN ?_ _))⟩
theorem spec_l22Good (ps ls ds : List Int) (v u u' : Value) (w : World) (h : Rd w 1 v ps.length (vInts ps)) (k : Rd w 1 u ls.length (vInts ls)) (l : Rd w 1 u' ds.length (vInts ds))
    (h2 : ps.length ≤ 1048576) (_k2 : ls.length ≤ 1048576) (_l2 : ds.length ≤ 1048576) :
    Calls Try.prog 55 #[.agg #[v], .agg #[u, u']] w fun e w' => e = .returned (.bool (goodC ps ls ds)) ∧ Ext w w' := by
  obtain ⟨h1, p, cap, rfl, h4⟩ := h
  obtain ⟨k1, q, cap', rfl, k4⟩ := k
  obtain ⟨l1, r, cap'', rfl, l4⟩ := l
  have Hr := hid (show Rd w 1 (.slice p ps.length cap) ps.length (vInts ps) from ⟨h1, p, cap, rfl, h4⟩)
  have K4 := hid k4
  have L4 := hid l4
  clear h1 h4 k1 k4 l1 l4
  cases hg : goodT ps
  · have Hg := hid hg
    go_enter Try.func55, Try.ntmps55
    go_wp2_with (go_at_call 81; refine (spec_l6Good ps _ _ (Hr.out.ext (by repeat' (first | exact Ext.refl _ | assumption | refine Ext.alloc ?_ _ | refine Ext.ext ?_ _ | refine Ext.drew ?_ | refine Ext.drewN ?_ _))) h2).mono ?_; rintro e w' ⟨rfl, z1, rfl⟩)
    go_ret
    exact ⟨by rw [goodC_no (.inl Hg.out)]; rfl, (by repeat' (first | exact Ext.refl _ | assumption | refine Ext.alloc ?_ _ | refine Ext.ext ?_ _ | refine Ext.drew ?_ | refine Ext.drewN ?_ _))⟩
  · have Hg := hid hg
    have hlen := goodT_len hg
    by_cases e1 : ls.length = ps.length
    · have t1 : ((ls.length : Int) != ps.length) = false := by simp [e1]
      by_cases e2 : ds.length = ps.length
      · have t2 : ((ds.length : Int) != ps.length) = false := by simp [e2]
        have E1 := hid e1
        have E2 := hid e2
        obtain ⟨b, off, rfl, k6⟩ := K4.out.resolve_left (by omega)
        obtain ⟨b', off', rfl, l6⟩ := L4.out.resolve_left (by omega)
        have K6 := hid k6
        have L6 := hid l6
        have c0 := elem1 (Value.int .i64) 0 ls k6 0 (by omega)
        have d0 := elem1 (Value.int .i64) 0 ds l6 0 (by omega)
        have hz := fun h4 => goodC_yes (ps := ps) (ls := ls) (ds := ds) hg e1 e2 h4
        have hz1 := fun (x : ¬ ls.getD 0 0 = 0) => goodC_no (ps := ps) (ls := ls) (ds := ds) (.inr (.inr (.inr (.inr (.inl x)))))
        have hz2 := fun (x : ¬ ds.getD 0 0 = 0) => goodC_no (ps := ps) (ls := ls) (ds := ds) (.inr (.inr (.inr (.inr (.inr x)))))
        have hc0 : ls.getD 0 0 = 0 → ds.getD 0 0 = 0 → costOk ls ds 0 = true := fun a b => by rw [costOk, a, b]; rfl
        generalize ls.getD 0 0 = x0 at c0 hz hz1 hc0
        generalize ds.getD 0 0 = y0 at d0 hz hz2 hc0
        simp only [Nat.add_zero] at c0 d0
        have l0 : 0 < ls.length := by omega
        have l1 : 0 < ds.length := by omega
        clear e1 e2 k6 l6 K4 L4
        by_cases hx0 : x0 = 0
        · have s0 : (x0 != 0) = false := by simp [hx0]
          by_cases hy0 : y0 = 0
          · have s1 : (y0 != 0) = false := by simp [hy0]
            have Hz := hid (fun h4 => hz h4 hx0 hy0)
            have Hc0 := hid (hc0 hx0 hy0)
            clear hz hz1 hz2 hx0 hy0 hc0
            go_enter Try.func55, Try.ntmps55
            go_wp2_with (go_at_call 81; refine (spec_l6Good ps _ _ (Hr.out.ext (by repeat' (first | exact Ext.refl _ | assumption | refine Ext.alloc ?_ _ | refine Ext.ext ?_ _ | refine Ext.drew ?_ | refine Ext.drewN ?_ _))) h2).mono ?_; rintro e w' ⟨rfl, z1, rfl⟩)
            go_loopw [5] (fun v5 wr => ∃ k : Nat, 1 ≤ k ∧ k ≤ ps.length ∧ v5 = .int .i64 k ∧ (∀ i, i < k → costOk ls ds i = true) ∧ Ext (((w.alloc (.cells #[.slice p ps.length cap] 26)).alloc (.cells #[.slice (some ⟨b, off, none⟩) ls.length cap', .slice (some ⟨b', off', none⟩) ds.length cap''] 28)).ext z1) wr) (fun v5 _ => ps.length - (intOf v5).toNat)
            case atStart => exact ⟨1, by omega, by omega, rfl, fun i h => (show i = 0 by omega) ▸ Hc0.out, Ext.refl _⟩
            case round =>
              obtain ⟨k, hk1, hk, rfl, hall, z, rfl⟩ := hrel
              by_cases hlt : k < ps.length
              · have hk1 : k < ls.length := by rw [E1.out]; exact hlt
                have hk2 : k < ds.length := by rw [E2.out]; exact hlt
                have c1 := elem1 (Value.int .i64) 0 ls K6.out k hk1
                have d1 := elem1 (Value.int .i64) 0 ds L6.out k hk2
                have next : costOk ls ds k = true → ∀ i, i < k + 1 → costOk ls ds i = true := fun h => upTo_succ hall h
                have bad : costOk ls ds k = false → goodC ps ls ds = false := fun h => goodC_no (.inr (.inr (.inr (.inl (allUpto hlt h)))))
                have hdef : costOk ls ds k = (inB (ls.getD k 0) 0 100 && inB (ds.getD k 0) 0 1000) := rfl
                generalize ls.getD k 0 = x at c1 hdef
                generalize ds.getD k 0 = y at d1 hdef
                generalize costOk ls ds k = f at next bad hdef
                have Next := hid next; clear next hall
                have Bad := hid bad; clear bad
                have Hdef := hid hdef; clear hdef
                cases hx : inB x 0 100
                · have Hx := hid hx
                  go_wp2_with (go_at_call 75; refine (spec_l1In _ _ _ _).mono ?_; rintro e w' ⟨rfl, rfl⟩)
                  go_ret
                  exact ⟨by rw [Bad.out (by rw [Hdef.out, Hx.out]; rfl)]; rfl, (by repeat' (first | exact Ext.refl _ | assumption | refine Ext.alloc ?_ _ | refine Ext.ext ?_ _ | refine Ext.drew ?_ | refine Ext.drewN ?_ _))⟩
                · have Hx := hid hx
                  cases hy : inB y 0 1000
                  · have Hy := hid hy
                    go_wp2_with (go_at_call 75; refine (spec_l1In _ _ _ _).mono ?_; rintro e w' ⟨rfl, rfl⟩)
                    go_ret
                    exact ⟨by rw [Bad.out (by rw [Hdef.out, Hx.out, Hy.out]; rfl)]; rfl, (by repeat' (first | exact Ext.refl _ | assumption | refine Ext.alloc ?_ _ | refine Ext.ext ?_ _ | refine Ext.drew ?_ | refine Ext.drewN ?_ _))⟩
                  · have Hy := hid hy
                    go_wp2_with (go_at_call 75; refine (spec_l1In _ _ _ _).mono ?_; rintro e w' ⟨rfl, rfl⟩)
                    go_roundw
                    case rel => exact ⟨k + 1, by omega, by omega, by go_num, Next.out (by rw [Hdef.out, Hx.out, Hy.out]; rfl), (by repeat' (first | exact Ext.refl _ | assumption | refine Ext.alloc ?_ _ | refine Ext.ext ?_ _ | refine Ext.drew ?_ | refine Ext.drewN ?_ _))⟩
                    case measure => simp [intOf]; omega
              · have hf : costsOk ps.length ls ds = true := allTo (fun i hi => hall i (by omega))
                have R := hid (Hz.out hf); clear hf hall
                have t9 : ¬ k < ls.length := by rw [E1.out]; exact hlt
                have t8 : ls.length ≤ k := by omega
                go_wp2
                go_ret
                exact ⟨by rw [R.out]; rfl, (by repeat' (first | exact Ext.refl _ | assumption | refine Ext.alloc ?_ _ | refine Ext.ext ?_ _ | refine Ext.drew ?_ | refine Ext.drewN ?_ _))⟩
          · have s1 : (y0 != 0) = true := by simp [hy0]
            have R := hid (hz2 hy0)
            clear hz hz1 hz2 hx0 hy0 hc0
            go_enter Try.func55, Try.ntmps55
            go_wp2_with (go_at_call 81; refine (spec_l6Good ps _ _ (Hr.out.ext (by repeat' (first | exact Ext.refl _ | assumption | refine Ext.alloc ?_ _ | refine Ext.ext ?_ _ | refine Ext.drew ?_ | refine Ext.drewN ?_ _))) h2).mono ?_; rintro e w' ⟨rfl, z1, rfl⟩)
            go_ret
            exact ⟨by rw [R.out]; rfl, (by repeat' (first | exact Ext.refl _ | assumption | refine Ext.alloc ?_ _ | refine Ext.ext ?_ _ | refine Ext.drew ?_ | refine Ext.drewN ?_ _))⟩
        · have s0 : (x0 != 0) = true := by simp [hx0]
          have R := hid (hz1 hx0)
          clear hz hz1 hz2 hx0 hc0
          go_enter Try.func55, Try.ntmps55
          go_wp2_with (go_at_call 81; refine (spec_l6Good ps _ _ (Hr.out.ext (by repeat' (first | exact Ext.refl _ | assumption | refine Ext.alloc ?_ _ | refine Ext.ext ?_ _ | refine Ext.drew ?_ | refine Ext.drewN ?_ _))) h2).mono ?_; rintro e w' ⟨rfl, z1, rfl⟩)
          go_ret
          exact ⟨by rw [R.out]; rfl, (by repeat' (first | exact Ext.refl _ | assumption | refine Ext.alloc ?_ _ | refine Ext.ext ?_ _ | refine Ext.drew ?_ | refine Ext.drewN ?_ _))⟩
      · have t2 : ((ds.length : Int) != ps.length) = true := by simp; omega
        have E2 := hid e2
        clear e1 e2
        go_enter Try.func55, Try.ntmps55
        go_wp2_with (go_at_call 81; refine (spec_l6Good ps _ _ (Hr.out.ext (by repeat' (first | exact Ext.refl _ | assumption | refine Ext.alloc ?_ _ | refine Ext.ext ?_ _ | refine Ext.drew ?_ | refine Ext.drewN ?_ _))) h2).mono ?_; rintro e w' ⟨rfl, z1, rfl⟩)
        go_ret
        exact ⟨by rw [goodC_no (.inr (.inr (.inl E2.out)))]; rfl, (by repeat' (first | exact Ext.refl _ | assumption | refine Ext.alloc ?_ _ | refine Ext.ext ?_ _ | refine Ext.drew ?_ | refine Ext.drewN ?_ _))⟩
    · have t1 : ((ls.length : Int) != ps.length) = true := by simp; omega
      have E1 := hid e1
      clear e1
      go_enter Try.func55, Try.ntmps55
      go_wp2_with (go_at_call 81; refine (spec_l6Good ps _ _ (Hr.out.ext (by repeat' (first | exact Ext.refl _ | assumption | refine Ext.alloc ?_ _ | refine Ext.ext ?_ _ | refine Ext.drew ?_ | refine Ext.drewN ?_ _))) h2).mono ?_; rintro e w' ⟨rfl, z1, rfl⟩)
      go_ret
      exact ⟨by rw [goodC_no (.inr (.inl E1.out))]; rfl, (by repeat' (first | exact Ext.refl _ | assumption | refine Ext.alloc ?_ _ | refine Ext.ext ?_ _ | refine Ext.drew ?_ | refine Ext.drewN ?_ _))⟩
end Go.Proofs.Ytppdbnopgcjgjaa
