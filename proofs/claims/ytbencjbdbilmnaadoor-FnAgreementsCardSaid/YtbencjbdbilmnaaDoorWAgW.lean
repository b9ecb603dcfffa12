/- FnAgreements: the walk. -/
import Derived.Test.YtbencjbdbilmnaaDoorWAgF
namespace Go.Proofs.YtbencjbdbilmnaaDoor
open Go.RowKit
set_option maxHeartbeats 2000000
set_option maxRecDepth 100000
theorem laws_rBig (n : Nat) (p : Option Addr) (cap : Nat) (w : World) : Calls Tryd.prog 17 #[.slice p n cap] w fun e w' => e = .returned (.bool (decide ((65536 : Int) < (n : Int)))) ∧ w = w' := by
  go_enter Tryd.func17, Tryd.ntmps17
  go_wp2
  go_ret
  simp
theorem agreements_law (bs : List Int) (v : Value) (w : World) (h : Rd w 1 v bs.length (vBytes bs)) (hm : bs.length ≤ maxLen) (hbb : ∀ x ∈ bs, 0 ≤ x ∧ x ≤ 255) (ht : Tab w) :
    Calls Tryd.prog 6 #[v] w fun e w' => e = .returned (.bool true) ∧ Ext w w' := by
  have Hr := hid h
  have Ht := hid ht
  unfold maxLen at hm
  obtain ⟨-, p, cap, rfl, -⟩ := h
  clear ht
  by_cases h2 : 65536 < bs.length
  · have t0 : (65536 : Int) < (bs.length : Int) := by omega
    go_enter Tryd.func6, Tryd.ntmps6
    go_wp2
    go_ret
    exact ⟨rfl, (by repeat' (first | exact Ext.refl _ | assumption | refine Ext.alloc ?_ _ | refine Ext.ext ?_ _ | refine Ext.drew ?_ | refine Ext.drewN ?_ _))⟩
  have t0 : ¬ (65536 : Int) < (bs.length : Int) := by omega
  have hb : Bts bs := ⟨by omega, hbb⟩
  have hd := hid (fun w h => spec_DrawTotalDelivery hb (v := .slice p bs.length cap) w h)
  clear hb hbb
  go_enter Tryd.func6, Tryd.ntmps6
  go_wp2_with fail
  go_at_call 17
  refine (laws_rBig bs.length p cap _).mono ?_
  rintro e w' ⟨rfl, rfl⟩
  have t1 : decide ((65536 : Int) < (bs.length : Int)) = false := by simp; omega
  go_wp2_with fail
  go_at_call 18
  refine (hd.out _ Hr.out).mono ?_
  rintro e w1 ⟨r, xs, rfl, hxl, ho, hx1⟩
  obtain ⟨rp, rc, rfl⟩ := own_shape ho
  have L1 := hid (And.intro (Rd.own ho) hx1)
  clear ho hx1 Hr hd
  have cTi : Hid (∀ W, Rd W 4 (.slice rp xs.length rc) xs.length (xs.flatMap Dlv.cs) → Calls Tryd.prog 19 #[.slice rp xs.length rc] W fun e w' => ∃ r, e = .returned (.tuple #[r, .bool (areD xs)]) ∧ Rd w' 1 r (if areD xs then totals xs else []).length (vInts (if areD xs then totals xs else [])) ∧ Ext W w') := fun W h => (impl_TotalDelivery xs _ W h (by omega)).mono fun e w' ⟨r, a, b, c⟩ => ⟨r, a, Rd.own b, c⟩
  have cTs : Hid (∀ W, Rd W 4 (.slice rp xs.length rc) xs.length (xs.flatMap Dlv.cs) → Calls Tryd.prog 20 #[.slice rp xs.length rc] W fun e w' => ∃ r, e = .returned (.tuple #[r, .bool (areD xs)]) ∧ Rd w' 1 r (if areD xs then totals xs else []).length (vInts (if areD xs then totals xs else [])) ∧ Ext W w') := fun W h => (spec_TotalDelivery xs _ W h (by omega)).mono fun e w' ⟨r, a, b, c⟩ => ⟨r, a, Rd.own b, c⟩
  have cPi : Hid (∀ W, Rd W 4 (.slice rp xs.length rc) xs.length (xs.flatMap Dlv.cs) → Calls Tryd.prog 22 #[.slice rp xs.length rc] W fun e w' => ∃ r, e = .returned (.tuple #[r, .bool (areD xs)]) ∧ Rd w' 1 r (if areD xs then perfect xs else []).length (vInts (if areD xs then perfect xs else [])) ∧ Ext W w') := fun W h => (impl_PerfectReceivers xs _ W h (by omega)).mono fun e w' ⟨r, a, b, c⟩ => ⟨r, a, Rd.own b, c⟩
  have cPs : Hid (∀ W, Rd W 4 (.slice rp xs.length rc) xs.length (xs.flatMap Dlv.cs) → Calls Tryd.prog 23 #[.slice rp xs.length rc] W fun e w' => ∃ r, e = .returned (.tuple #[r, .bool (areD xs)]) ∧ Rd w' 1 r (if areD xs then perfect xs else []).length (vInts (if areD xs then perfect xs else [])) ∧ Ext W w') := fun W h => (spec_PerfectReceivers xs _ W h (by omega)).mono fun e w' ⟨r, a, b, c⟩ => ⟨r, a, Rd.own b, c⟩
  have cAi := hid (fun W h t => impl_Agreement xs (.slice rp xs.length rc) W h (by omega) t)
  have cAs := hid (fun W h => spec_Agreement xs (.slice rp xs.length rc) W h (by omega))
  have cWi := hid (fun W h => impl_WorstLoss xs (.slice rp xs.length rc) W h (by omega))
  have cWs := hid (fun W h => spec_WorstLoss xs (.slice rp xs.length rc) W h (by omega))
  have hpl := perfect_len xs
  have hplen : (if areD xs then perfect xs else []).length ≤ 4294967296 := by
    cases areD xs
    · exact Nat.zero_le _
    · show (perfect xs).length ≤ _
      omega
  have htlen : (if areD xs then totals xs else []).length ≤ 4294967296 := by
    cases areD xs
    · exact Nat.zero_le _
    · show (totals xs).length ≤ _
      simp [totals]
  have cRT := hid (fun v u W h k => laws_rInts (if areD xs then totals xs else []) v u W h k htlen)
  have cRP := hid (fun v u W h k => laws_rInts (if areD xs then perfect xs else []) v u W h k hplen)
  have hlaw := agr_law (xs := xs)
  cases hgd : areD xs
  · rw [hgd] at cTi cTs cPi cPs cAi cAs cRT cRP
    rw [worstRes_no (.inl hgd)] at cWi cWs
    rw [if_neg (by simp)] at cTi cTs cPi cPs cRT cRP
    clear hlaw hgd hplen htlen hpl
    generalize agrT xs = T at *
    go_wp2_with fail
    go_at_call 19
    refine (cTi.out _ L1.out.1).mono ?_
    rintro e w2 ⟨r2, rfl, ho2, hx2⟩
    have L2 := hid (And.intro (L1.out.1.ext hx2) (L1.out.2.trans hx2))
    obtain ⟨-, p2, c2, rfl, -⟩ := id ho2
    have O2 := hid ho2
    clear ho2 hx2
    go_wp2_with fail
    go_at_call 20
    refine (cTs.out _ L2.out.1).mono ?_
    rintro e w3 ⟨r3, rfl, ho3, hx3⟩
    have L3 := hid (And.intro (L2.out.1.ext hx3) (And.intro (L2.out.2.trans hx3) (And.intro (O2.out.ext hx3) ho3)))
    obtain ⟨-, p3, c3, rfl, -⟩ := id ho3
    clear ho3 hx3
    go_wp2_with fail
    go_at_call 21
    refine (cRT.out _ _ _ L3.out.2.2.1 L3.out.2.2.2).mono ?_
    rintro e w4 ⟨rfl, hx4⟩
    have L4 := hid (And.intro (L3.out.1.ext hx4) (And.intro (L3.out.2.1.trans hx4) (L3.out.2.2.1.ext hx4)))
    clear hx4 L1 L2 L3 O2 cTi cTs cRT
    go_wp2_with fail
    go_at_call 22
    refine (cPi.out _ L4.out.1).mono ?_
    rintro e w5 ⟨r5, rfl, ho5, hx5⟩
    have L5 := hid (And.intro (L4.out.1.ext hx5) (And.intro (L4.out.2.1.trans hx5) (And.intro (L4.out.2.2.ext hx5) ho5)))
    obtain ⟨-, p5, c5, rfl, -⟩ := id ho5
    clear ho5 hx5 L4 cPi
    go_wp2_with fail
    go_at_call 23
    refine (cPs.out _ L5.out.1).mono ?_
    rintro e w6 ⟨r6, rfl, ho6, hx6⟩
    have L6 := hid (And.intro (L5.out.1.ext hx6) (And.intro (L5.out.2.1.trans hx6) (And.intro (L5.out.2.2.1.ext hx6) (And.intro (L5.out.2.2.2.ext hx6) ho6))))
    obtain ⟨-, p6, c6, rfl, -⟩ := id ho6
    clear ho6 hx6 L5 cPs
    go_wp2_with fail
    go_at_call 21
    refine (cRP.out _ _ _ L6.out.2.2.2.1 L6.out.2.2.2.2).mono ?_
    rintro e w7 ⟨rfl, hx7⟩
    have L7 := hid (And.intro (L6.out.1.ext hx7) (And.intro (L6.out.2.1.trans hx7) (L6.out.2.2.1.ext hx7)))
    clear hx7 L6 cRP
    go_wp2_with fail
    go_at_call 13
    refine (cAi.out _ L7.out.1 (Ht.out.ext L7.out.2.1)).mono ?_
    rintro e w8 ⟨rfl, hx8⟩
    have L8 := hid (And.intro (L7.out.1.ext hx8) (And.intro (L7.out.2.1.trans hx8) (L7.out.2.2.ext hx8)))
    clear hx8 L7 cAi
    go_wp2_with fail
    go_at_call 11
    refine (cAs.out _ L8.out.1).mono ?_
    rintro e w9 ⟨rfl, hx9⟩
    have L9 := hid (And.intro (L8.out.1.ext hx9) (And.intro (L8.out.2.1.trans hx9) (L8.out.2.2.ext hx9)))
    clear hx9 L8 cAs
    go_wp2_with fail
    go_at_call 24
    refine (cWi.out _ L9.out.1).mono ?_
    rintro e wa ⟨rfl, hxa⟩
    have La := hid (And.intro (L9.out.1.ext hxa) (L9.out.2.1.trans hxa))
    clear hxa L9 cWi
    go_wp2_with fail
    go_at_call 25
    refine (cWs.out _ La.out.1).mono ?_
    rintro e wb ⟨rfl, hxb⟩
    have Lb := hid (And.intro (La.out.1.ext hxb) (La.out.2.trans hxb))
    clear hxb La cWs
    go_wp2
    go_loopw [20] (fun v20 wr => v20 = .int .i64 0 ∧ Ext w wr) (fun _ _ => 0)
    case atStart => exact ⟨rfl, Lb.out.2⟩
    case round =>
      obtain ⟨rfl, hx⟩ := hrel
      have Hx := hid hx
      clear hx Lb
      by_cases hl0 : (0 : Int) < (xs.length : Int)
      all_goals
        go_wp2
        go_ret
        exact ⟨rfl, Hx.out⟩
  · rw [hgd] at cTi cTs cPi cPs cAi cAs cRT cRP
    rw [if_pos rfl] at cTi cTs cPi cPs cRT cRP
    have hz : ∃ z, (tot (·.l) xs == 0) = z ∧ ((agrT xs).toList == ALL.toList) = z := ⟨_, hlaw hgd, rfl⟩
    obtain ⟨z, hz1, hz2⟩ := hz
    rw [show ALL.toList = [65, 108, 108, 32, 114, 101, 99, 101, 105, 118, 101, 114, 115, 32, 104, 97, 118, 101, 32, 101, 118, 101, 114, 121, 116, 104, 105, 110, 103, 46] from (ByteArray.toList_eq ALL).trans rfl] at hz2
    have hz4 : (!z == z) = false := by cases z <;> rfl
    have Ht3 : Hid ((totals xs).length = 3) := rfl
    have ht2 : (totals xs).getD 2 0 = tot (·.l) xs := rfl
    have HW := hid (fun n (hn : xs.length = n + 1) i k hi hk e => worst_law hgd (n := n) (i := i) (k := k) hn hi hk e)
    have HO := hid (fun i hi => okD_iff.1 (areD_ok hgd i hi))
    clear hlaw hplen htlen hpl
    by_cases hn0 : xs.length = 0
    · rw [worstRes_no (.inr hn0)] at cWi cWs
      obtain rfl : xs = [] := List.eq_nil_of_length_eq_zero hn0
      generalize agrT ([] : List Dlv) = T at *
      generalize totals ([] : List Dlv) = TT at *
      generalize perfect ([] : List Dlv) = PP at *
      have Hgd := hid hgd
      clear hgd HW HO hn0 Hgd
      go_wp2_with fail
      go_at_call 19
      refine (cTi.out _ L1.out.1).mono ?_
      rintro e w2 ⟨r2, rfl, ho2, hx2⟩
      have L2 := hid (And.intro (L1.out.1.ext hx2) (L1.out.2.trans hx2))
      obtain ⟨-, p2, c2, rfl, -⟩ := id ho2
      have O2 := hid ho2
      clear ho2 hx2
      go_wp2_with fail
      go_at_call 20
      refine (cTs.out _ L2.out.1).mono ?_
      rintro e w3 ⟨r3, rfl, ho3, hx3⟩
      have L3 := hid (And.intro (L2.out.1.ext hx3) (And.intro (L2.out.2.trans hx3) (And.intro (O2.out.ext hx3) ho3)))
      obtain ⟨-, p3, c3, rfl, -⟩ := id ho3
      clear ho3 hx3
      go_wp2_with fail
      go_at_call 21
      refine (cRT.out _ _ _ L3.out.2.2.1 L3.out.2.2.2).mono ?_
      rintro e w4 ⟨rfl, hx4⟩
      have L4 := hid (And.intro (L3.out.1.ext hx4) (And.intro (L3.out.2.1.trans hx4) (L3.out.2.2.1.ext hx4)))
      clear hx4 L1 L2 L3 O2 cTi cTs cRT
      go_wp2_with fail
      go_at_call 22
      refine (cPi.out _ L4.out.1).mono ?_
      rintro e w5 ⟨r5, rfl, ho5, hx5⟩
      have L5 := hid (And.intro (L4.out.1.ext hx5) (And.intro (L4.out.2.1.trans hx5) (And.intro (L4.out.2.2.ext hx5) ho5)))
      obtain ⟨-, p5, c5, rfl, -⟩ := id ho5
      clear ho5 hx5 L4 cPi
      go_wp2_with fail
      go_at_call 23
      refine (cPs.out _ L5.out.1).mono ?_
      rintro e w6 ⟨r6, rfl, ho6, hx6⟩
      have L6 := hid (And.intro (L5.out.1.ext hx6) (And.intro (L5.out.2.1.trans hx6) (And.intro (L5.out.2.2.1.ext hx6) (And.intro (L5.out.2.2.2.ext hx6) ho6))))
      obtain ⟨-, p6, c6, rfl, -⟩ := id ho6
      clear ho6 hx6 L5 cPs
      go_wp2_with fail
      go_at_call 21
      refine (cRP.out _ _ _ L6.out.2.2.2.1 L6.out.2.2.2.2).mono ?_
      rintro e w7 ⟨rfl, hx7⟩
      have L7 := hid (And.intro (L6.out.1.ext hx7) (And.intro (L6.out.2.1.trans hx7) (L6.out.2.2.1.ext hx7)))
      clear hx7 L6 cRP
      go_wp2_with fail
      go_at_call 13
      refine (cAi.out _ L7.out.1 (Ht.out.ext L7.out.2.1)).mono ?_
      rintro e w8 ⟨rfl, hx8⟩
      have L8 := hid (And.intro (L7.out.1.ext hx8) (And.intro (L7.out.2.1.trans hx8) (L7.out.2.2.ext hx8)))
      clear hx8 L7 cAi
      go_wp2_with fail
      go_at_call 11
      refine (cAs.out _ L8.out.1).mono ?_
      rintro e w9 ⟨rfl, hx9⟩
      have L9 := hid (And.intro (L8.out.1.ext hx9) (And.intro (L8.out.2.1.trans hx9) (L8.out.2.2.ext hx9)))
      clear hx9 L8 cAs
      have ht3 := Ht3.out
      have hT := L9.out.2.2
      obtain ⟨-, pp, cc, e9, h4⟩ := hT
      cases e9
      obtain ⟨tb, to_, rfl, h6⟩ := h4.resolve_left (by omega)
      have ct := elem1 (Value.int .i64) 0 TT h6 2 (by omega)
      rw [ht2] at ct
      clear h4 h6
      go_wp2_with fail
      go_at_call 24
      refine (cWi.out _ L9.out.1).mono ?_
      rintro e wa ⟨rfl, hxa⟩
      have La := hid (And.intro (L9.out.1.ext hxa) (L9.out.2.1.trans hxa))
      clear hxa L9 cWi
      go_wp2_with fail
      go_at_call 25
      refine (cWs.out _ La.out.1).mono ?_
      rintro e wb ⟨rfl, hxb⟩
      have Lb := hid (And.intro (La.out.1.ext hxb) (La.out.2.trans hxb))
      clear hxb La cWs
      go_wp2
      go_loopw [20] (fun v20 wr => v20 = .int .i64 0 ∧ Ext w wr) (fun _ _ => 0)
      case atStart => exact ⟨rfl, Lb.out.2⟩
      case round =>
        obtain ⟨rfl, hx⟩ := hrel
        have Hx := hid hx
        clear hx Lb
        go_wp2
        go_ret
        exact ⟨rfl, Hx.out⟩
    · obtain ⟨n, hn⟩ : ∃ n, xs.length = n + 1 := ⟨xs.length - 1, by omega⟩
      rw [worstRes_yes hgd hn] at cWi cWs
      have HW2 := hid (HW.out n hn)
      generalize agrT xs = T at *
      generalize totals xs = TT at *
      generalize perfect xs = PP at *
      generalize (bestTo xs n).r = W at *
      have tp : (0 : Int) < (xs.length : Int) := by omega
      have tne : xs ≠ [] := by intro e; rw [e] at tp; simp at tp
      have tpn : 0 < xs.length := by omega
      clear hgd HW hn hn0
      go_wp2_with fail
      go_at_call 19
      refine (cTi.out _ L1.out.1).mono ?_
      rintro e w2 ⟨r2, rfl, ho2, hx2⟩
      have L2 := hid (And.intro (L1.out.1.ext hx2) (L1.out.2.trans hx2))
      obtain ⟨-, p2, c2, rfl, -⟩ := id ho2
      have O2 := hid ho2
      clear ho2 hx2
      go_wp2_with fail
      go_at_call 20
      refine (cTs.out _ L2.out.1).mono ?_
      rintro e w3 ⟨r3, rfl, ho3, hx3⟩
      have L3 := hid (And.intro (L2.out.1.ext hx3) (And.intro (L2.out.2.trans hx3) (And.intro (O2.out.ext hx3) ho3)))
      obtain ⟨-, p3, c3, rfl, -⟩ := id ho3
      clear ho3 hx3
      go_wp2_with fail
      go_at_call 21
      refine (cRT.out _ _ _ L3.out.2.2.1 L3.out.2.2.2).mono ?_
      rintro e w4 ⟨rfl, hx4⟩
      have L4 := hid (And.intro (L3.out.1.ext hx4) (And.intro (L3.out.2.1.trans hx4) (L3.out.2.2.1.ext hx4)))
      clear hx4 L1 L2 L3 O2 cTi cTs cRT
      go_wp2_with fail
      go_at_call 22
      refine (cPi.out _ L4.out.1).mono ?_
      rintro e w5 ⟨r5, rfl, ho5, hx5⟩
      have L5 := hid (And.intro (L4.out.1.ext hx5) (And.intro (L4.out.2.1.trans hx5) (And.intro (L4.out.2.2.ext hx5) ho5)))
      obtain ⟨-, p5, c5, rfl, -⟩ := id ho5
      clear ho5 hx5 L4 cPi
      go_wp2_with fail
      go_at_call 23
      refine (cPs.out _ L5.out.1).mono ?_
      rintro e w6 ⟨r6, rfl, ho6, hx6⟩
      have L6 := hid (And.intro (L5.out.1.ext hx6) (And.intro (L5.out.2.1.trans hx6) (And.intro (L5.out.2.2.1.ext hx6) (And.intro (L5.out.2.2.2.ext hx6) ho6))))
      obtain ⟨-, p6, c6, rfl, -⟩ := id ho6
      clear ho6 hx6 L5 cPs
      go_wp2_with fail
      go_at_call 21
      refine (cRP.out _ _ _ L6.out.2.2.2.1 L6.out.2.2.2.2).mono ?_
      rintro e w7 ⟨rfl, hx7⟩
      have L7 := hid (And.intro (L6.out.1.ext hx7) (And.intro (L6.out.2.1.trans hx7) (L6.out.2.2.1.ext hx7)))
      clear hx7 L6 cRP
      go_wp2_with fail
      go_at_call 13
      refine (cAi.out _ L7.out.1 (Ht.out.ext L7.out.2.1)).mono ?_
      rintro e w8 ⟨rfl, hx8⟩
      have L8 := hid (And.intro (L7.out.1.ext hx8) (And.intro (L7.out.2.1.trans hx8) (L7.out.2.2.ext hx8)))
      clear hx8 L7 cAi
      go_wp2_with fail
      go_at_call 11
      refine (cAs.out _ L8.out.1).mono ?_
      rintro e w9 ⟨rfl, hx9⟩
      have L9 := hid (And.intro (L8.out.1.ext hx9) (And.intro (L8.out.2.1.trans hx9) (L8.out.2.2.ext hx9)))
      clear hx9 L8 cAs
      have ht3 := Ht3.out
      have hT := L9.out.2.2
      obtain ⟨-, pp, cc, e9, h4⟩ := hT
      cases e9
      obtain ⟨tb, to_, rfl, h6⟩ := h4.resolve_left (by omega)
      have ct := elem1 (Value.int .i64) 0 TT h6 2 (by omega)
      rw [ht2] at ct
      clear h4 h6
      go_wp2_with fail
      go_at_call 24
      refine (cWi.out _ L9.out.1).mono ?_
      rintro e wa ⟨rfl, hxa⟩
      have La := hid (And.intro (L9.out.1.ext hxa) (L9.out.2.1.trans hxa))
      clear hxa L9 cWi
      go_wp2_with fail
      go_at_call 25
      refine (cWs.out _ La.out.1).mono ?_
      rintro e wb ⟨rfl, hxb⟩
      have Lb := hid (And.intro (La.out.1.ext hxb) (La.out.2.trans hxb))
      clear hxb La cWs
      go_wp2
      go_loopw [20] (fun v20 wr => ∃ i : Nat, i ≤ xs.length ∧ v20 = .int .i64 i ∧ Ext wb wr) (fun v20 _ => xs.length - (intOf v20).toNat)
      case atStart => exact ⟨0, Nat.zero_le _, rfl, Ext.refl _⟩
      case round =>
        obtain ⟨i, hi, rfl, hx⟩ := hrel
        by_cases hlt : i < xs.length
        · have hL := Lb.out.1.ext hx
          obtain ⟨-, pl, cl, el, h4⟩ := hL
          cases el
          obtain ⟨lb, lo_, rfl, h6⟩ := h4.resolve_left (by omega)
          obtain ⟨c0, c1, c2', c3⟩ := elem4 Dlv.cs .z (fun _ => rfl) xs h6 i hlt
          have hoi := HO.out i hlt
          have hwi := fun k hk e => HW2.out i k hlt hk e
          have H6 := hid h6
          have Hx := hid hx
          have n0 : (0 : Int) ≤ (i : Int) := by omega
          have n1 : (i : Int) < (xs.length : Int) := by omega
          clear h4 h6 hx HW2
          generalize xs.getD i .z = d at c0 c1 c2' c3 hoi hwi
          obtain ⟨r, g, pp', l⟩ := d
          simp only [Dlv.cs, List.getElem?_cons_zero, List.getElem?_cons_succ] at c0 c1 c2' c3
          dsimp only at hoi hwi
          have Hwi := hid hwi
          have Hoi := hid hoi
          clear hwi hoi
          by_cases hW : r = W
          · subst hW
            go_wp2
            go_loopw [21] (fun v21 wr2 => ∃ k : Nat, k ≤ xs.length ∧ v21 = .int .i64 k ∧ Ext wr wr2) (fun v21 _ => xs.length - (intOf v21).toNat)
            case atStart => exact ⟨0, Nat.zero_le _, rfl, Ext.refl _⟩
            case round =>
              obtain ⟨k, hk, rfl, hx2⟩ := hrel
              by_cases hlt2 : k < xs.length
              · obtain ⟨d0, d1, d2, d3⟩ := elem4 Dlv.cs .z (fun _ => rfl) xs H6.out k hlt2
                have hok := HO.out k hlt2
                have hle := Hwi.out k hlt2 (by trivial)
                generalize xs.getD k .z = d at d0 d1 d2 d3 hok hle
                obtain ⟨r', g', p', l'⟩ := d
                simp only [Dlv.cs, List.getElem?_cons_zero, List.getElem?_cons_succ] at d0 d1 d2 d3
                dsimp only at hok hle
                have hoi := Hoi.out
                have c0 := hx2.cell c0
                have c1 := hx2.cell c1
                have c3 := hx2.cell c3
                have d1 := hx2.cell d1
                have d3 := hx2.cell d3
                have m0 : (0 : Int) ≤ (k : Int) := by omega
                have m1 : (k : Int) < (xs.length : Int) := by omega
                have b1 := mulBd (a := l') (b := g + l) (by omega) (by omega)
                have b2 := mulBd (a := l) (b := g' + l') (by omega) (by omega)
                have w1 : IntKind.i64.wrap (g + l) = g + l := IntWalk.i64_in _ (by omega)
                have w2 : IntKind.i64.wrap (g' + l') = g' + l' := IntWalk.i64_in _ (by omega)
                have w3 : IntKind.i64.wrap (l' * (g + l)) = l' * (g + l) := IntWalk.i64_in _ (by omega)
                have w4 : IntKind.i64.wrap (l * (g' + l')) = l * (g' + l') := IntWalk.i64_in _ (by omega)
                have w5 : ¬ l * (g' + l') < l' * (g + l) := by omega
                have Hx2 := hid hx2
                clear hx2 d0 d2 hok hoi hle b1 b2
                go_wp2
                refine wp_region_ext (by kernel_rfl) (by kernel_rfl) ?_
                repeat (go_big_quiet_step ((first | fail)))
                refine wpQuiet_nil ?_
                rintro _ ⟨zq, rfl⟩
                go_wp2
                go_roundw
                case rel => exact ⟨k + 1, by omega, by go_num, Hx2.out.trans (by repeat' (first | exact Ext.refl _ | assumption | refine Ext.alloc ?_ _ | refine Ext.ext ?_ _ | refine Ext.drew ?_ | refine Ext.drewN ?_ _))⟩
                case measure => simp [intOf]; omega
              · obtain rfl : k = xs.length := by omega
                have Hx2 := hid hx2
                clear hx2
                go_wp2
                go_roundw
                case rel => exact ⟨i + 1, by omega, by go_num, Hx.out.trans (Hx2.out.trans (by repeat' (first | exact Ext.refl _ | assumption | refine Ext.alloc ?_ _ | refine Ext.ext ?_ _ | refine Ext.drew ?_ | refine Ext.drewN ?_ _)))⟩
                case measure => simp [intOf]; omega
          · have t5 : (r == W) = false := by rw [beq_eq_false_iff_ne]; exact hW
            go_wp2
            go_roundw
            case rel => exact ⟨i + 1, by omega, by go_num, Hx.out.trans (by repeat' (first | exact Ext.refl _ | assumption | refine Ext.alloc ?_ _ | refine Ext.ext ?_ _ | refine Ext.drew ?_ | refine Ext.drewN ?_ _))⟩
            case measure => simp [intOf]; omega
        · obtain rfl : i = xs.length := by omega
          have Hx := hid (Lb.out.2.trans hx)
          clear hx Lb
          go_wp2
          go_ret
          exact ⟨rfl, Hx.out⟩
end Go.Proofs.YtbencjbdbilmnaaDoor
