/- Shares of several nodes: the walks. -/
import Derived.Test.YtppdbnopgcjgjaaWShare0
namespace Go.Proofs.Ytppdbnopgcjgjaa
open Go.RowKit
set_option maxHeartbeats 400000
set_option maxRecDepth 100000
theorem gcd_step (a b : Int) : Int.gcd b (a % b) = Int.gcd a b := by
  have : a % b = a + b * (-(a / b)) := by have := Int.emod_add_mul_ediv a b; rw [Int.mul_neg]; omega
  rw [this, Int.gcd_add_mul_left_right, Int.gcd_comm]
theorem impl_gcd (a b : Int) (w : World) (ha : 0 ≤ a ∧ a ≤ 100000000000000) (hb : 0 ≤ b ∧ b ≤ 100000000000000) :
    Calls Try.prog 90 #[.int .i64 a, .int .i64 b] w fun e w' => e = .returned (.int .i64 (Int.gcd a b : Nat)) ∧ Ext w w' := by
  generalize hG : (Int.gcd a b : Nat) = G
  have HG := hid hG
  clear hG
  go_enter Try.func90, Try.ntmps90
  go_wp2
  go_loopw [0, 1] (fun v0 v1 wr => ∃ a b : Int, v0 = .int .i64 a ∧ v1 = .int .i64 b ∧ (0 ≤ a ∧ a ≤ 100000000000000) ∧ (0 ≤ b ∧ b ≤ 100000000000000) ∧ Hid (Int.gcd a b = G) ∧ Ext w wr) (fun _ v1 _ => (intOf v1).toNat)
  case atStart => exact ⟨a, b, rfl, rfl, ha, hb, HG, Ext.refl _⟩
  case round =>
    obtain ⟨c, d, rfl, rfl, hc, hd, H, z, rfl⟩ := hrel
    clear HG ha hb
    by_cases h0 : d = 0
    · have t0 : (d == 0) = true := by simp [h0]
      have t1 : (d != 0) = false := by simp [h0]
      have hG : (G : Int) = c := by
        have := H.out; subst h0; rw [Int.gcd_zero_right] at this; omega
      have HGc := hid hG
      clear h0 hG
      go_wp2
      go_ret
      exact ⟨by rw [HGc.out]; rfl, (by repeat' (first | exact Ext.refl _ | assumption | refine Ext.alloc ?_ _ | refine Ext.ext ?_ _ | refine Ext.drew ?_ | refine Ext.drewN ?_ _))⟩
    · have t0 : (d == 0) = false := by simp [h0]
      have t1 : (d != 0) = true := by simp [h0]
      have hgs := gcd_step c d
      have hm := Int.emod_nonneg c h0
      have hm2 := Int.emod_lt_of_pos c (show 0 < d by omega)
      have hte := Int.tmod_eq_emod_of_nonneg (b := d) hc.1
      have Hgs := hid hgs
      have hd0 : ¬ d = 0 := h0
      clear hgs
      go_wp2
      refine wp_region_ext (by kernel_rfl) (by kernel_rfl) ?_
      repeat (go_big_quiet_step ((first | fail)))
      refine wpQuiet_nil ?_
      rintro _ ⟨zq, rfl⟩
      go_wp2
      go_roundw
      case rel => exact ⟨d, c % d, rfl, rfl, hd, by omega, hid (Hgs.out.trans H.out), (by repeat' (first | exact Ext.refl _ | assumption | refine Ext.alloc ?_ _ | refine Ext.ext ?_ _ | refine Ext.drew ?_ | refine Ext.drewN ?_ _))⟩
      case measure => simp [intOf]; omega
theorem div_bd {a g : Int} (ha : 0 ≤ a ∧ a ≤ 100000000000000) (hg : 1 ≤ g) : 0 ≤ a / g ∧ a / g ≤ 100000000000000 :=
  ⟨Int.ediv_nonneg ha.1 (by omega), Int.le_trans (Int.ediv_le_self _ ha.1) ha.2⟩
theorem tdiv_e {a g : Int} (ha : 0 ≤ a) : a.tdiv g = a / g := Int.tdiv_eq_ediv_of_nonneg ha
theorem impl_reduced (a b : Int) (w : World) (ha : 0 ≤ a ∧ a ≤ 100000000000000) (hb : 1 ≤ b ∧ b ≤ 100000000000000) :
    Calls Try.prog 65 #[.int .i64 a, .int .i64 b] w fun e w' => e = .returned (.tuple #[.int .i64 (a / (Int.gcd a b : Nat)), .int .i64 (b / (Int.gcd a b : Nat))]) ∧ Ext w w' := by
  have hg := impl_gcd a b w ha (by omega)
  have hp : 0 < Int.gcd a b := Int.gcd_pos_of_ne_zero_right _ (by omega)
  generalize Int.gcd a b = G at *
  have n0 : ¬ (G : Int) = 0 := by omega
  have d1 := div_bd ha (show (1 : Int) ≤ (G : Int) by omega)
  have d2 := div_bd (a := b) (by omega) (show (1 : Int) ≤ (G : Int) by omega)
  have b0 : 0 ≤ b := by omega
  have Hg := hid hg
  clear hg
  go_enter Try.func65, Try.ntmps65
  go_wp2_with (go_at_call 90; refine (Hg.out).mono ?_; rintro e w' ⟨rfl, z1, rfl⟩)
  refine wp_region_ext (by kernel_rfl) (by kernel_rfl) ?_
  repeat (go_big_quiet_step ((first | fail)))
  refine wpQuiet_nil ?_
  rintro _ ⟨zq, rfl⟩
  go_wp2
  go_ret2
  exact ⟨rfl, (by repeat' (first | exact Ext.refl _ | assumption | refine Ext.alloc ?_ _ | refine Ext.ext ?_ _ | refine Ext.drew ?_ | refine Ext.drewN ?_ _))⟩
theorem spec_l19Reduce (a b : Int) (w : World) (ha : 0 ≤ a ∧ a ≤ 100000000000000) (hb : 1 ≤ b ∧ b ≤ 100000000000000) :
    Calls Try.prog 59 #[.int .i64 a, .int .i64 b] w fun e w' => e = .returned (.tuple #[.int .i64 (a / (Int.gcd a b : Nat)), .int .i64 (b / (Int.gcd a b : Nat))]) ∧ Ext w w' := by
  have hp : 0 < Int.gcd a b := Int.gcd_pos_of_ne_zero_right _ (by omega)
  generalize hG : Int.gcd a b = G at *
  have HG := hid hG
  have d1 := div_bd ha (show (1 : Int) ≤ (G : Int) by omega)
  have d2 := div_bd (a := b) (by omega) (show (1 : Int) ≤ (G : Int) by omega)
  have b0 : 0 ≤ b := by omega
  clear hG
  go_enter Try.func59, Try.ntmps59
  go_wp2
  go_loopw [6, 7] (fun v0 v1 wr => ∃ c d : Int, v0 = .int .i64 c ∧ v1 = .int .i64 d ∧ (0 ≤ c ∧ c ≤ 100000000000000) ∧ (0 ≤ d ∧ d ≤ 100000000000000) ∧ Hid (Int.gcd c d = G) ∧ Ext w wr) (fun _ v1 _ => (intOf v1).toNat)
  case atStart => exact ⟨a, b, rfl, rfl, ha, by omega, HG, Ext.refl _⟩
  case round =>
    obtain ⟨c, d, rfl, rfl, hc, hd, H, z, rfl⟩ := hrel
    clear HG
    by_cases h0 : d = 0
    · have t0 : (d == 0) = true := by simp [h0]
      have t1 : (d != 0) = false := by simp [h0]
      have hG : c = (G : Int) := by
        have := H.out; subst h0; rw [Int.gcd_zero_right] at this; omega
      subst hG
      have n0 : ¬ (G : Int) = 0 := by omega
      clear h0 H
      go_wp2
      refine wp_region_ext (by kernel_rfl) (by kernel_rfl) ?_
      repeat (go_big_quiet_step ((first | fail)))
      refine wpQuiet_nil ?_
      rintro _ ⟨zq, rfl⟩
      go_wp2
      go_ret2
      exact ⟨rfl, (by repeat' (first | exact Ext.refl _ | assumption | refine Ext.alloc ?_ _ | refine Ext.ext ?_ _ | refine Ext.drew ?_ | refine Ext.drewN ?_ _))⟩
    · have t0 : (d == 0) = false := by simp [h0]
      have t1 : (d != 0) = true := by simp [h0]
      have hgs := gcd_step c d
      have hm := Int.emod_nonneg c h0
      have hm2 := Int.emod_lt_of_pos c (show 0 < d by omega)
      have hte := Int.tmod_eq_emod_of_nonneg (b := d) hc.1
      have Hgs := hid hgs
      have hd0 : ¬ d = 0 := h0
      clear hgs
      go_wp2
      go_roundw
      case rel => exact ⟨d, c % d, rfl, rfl, hd, by omega, hid (Hgs.out.trans H.out), (by repeat' (first | exact Ext.refl _ | assumption | refine Ext.alloc ?_ _ | refine Ext.ext ?_ _ | refine Ext.drew ?_ | refine Ext.drewN ?_ _))⟩
      case measure => simp [intOf]; omega
theorem spec_l22Whole (w : World) : Calls Try.prog 62 #[] w fun e w' => e = .returned (.int .i64 100000000000000) ∧ w = w' := by
  go_enter Try.func62, Try.ntmps62
  go_wp2
  go_ret
  exact ⟨rfl, rfl⟩
theorem dis_new {w : World} {base e k n g : Nat} {v : Value} {cs : List Value} {p' : Option Addr} (h : w.ownsRow base e k v n cs) (hpg : ∀ a, p' = some a → a.block = g) (hg : w.heap.size ≤ g) : ∀ j, v.ownBlock = some j → ∀ a, p' = some a → a.block ≠ j := fun j hj a ha => by
  have := (h.lt j hj).2
  rw [hpg a ha]; omega
theorem impl_ShareToAll (ps ls ds ns : List Int) (v u u' y : Value) (w : World) (h : Rd w 1 v ps.length (vInts ps)) (k : Rd w 1 u ls.length (vInts ls)) (l : Rd w 1 u' ds.length (vInts ds)) (m : Rd w 1 y ns.length (vInts ns))
    (h2 : ps.length ≤ 1048576) (k2 : ls.length ≤ 1048576) (l2 : ds.length ≤ 1048576) (m2 : ns.length ≤ 1048576) :
    Calls Try.prog 23 #[.agg #[v], .agg #[u, u'], y] w fun e w' => e = .returned (.tuple #[.int .i64 (shareNum ps ls ds ns), .int .i64 (shareDen ps ls ds ns), .bool (shareB ps ls ds ns)]) ∧ Ext w w' := by
  have Hr := hid h
  have Kr := hid k
  have Lr := hid l
  have Mr := hid m
  obtain ⟨-, yp, yc, rfl, m4⟩ := m
  have M4 := hid m4
  clear h k l m4
  have hc2 : Hid (∀ (w : World), Rd w 1 v ps.length (vInts ps) → Rd w 1 u ls.length (vInts ls) → Rd w 1 u' ds.length (vInts ds) → Rd w 1 (.slice yp ns.length yc) ns.length (vInts ns) →
      Calls Try.prog 41 #[.agg #[v], .agg #[u, u'], .slice yp ns.length yc] w fun e w' => e = .returned (.bool (goodC ps ls ds && nodesIn ps ns)) ∧ Ext w w') :=
    fun w h k l m => impl_hasCosts ps ls ds ns v u u' _ w h k l m h2 k2 l2 m2
  have ha : Hid (∀ (w : World), Rd w 1 (.slice yp ns.length yc) ns.length (vInts ns) → Calls Try.prog 48 #[.slice yp ns.length yc] w fun e w' => e = .returned (.bool (ascB ns)) ∧ Ext w w') :=
    fun w m => impl_isAscending ns _ w m m2
  have XB : Ext w ((w.alloc (.cells #[v] 26)).alloc (.cells #[u, u'] 28)) := (by repeat' (first | exact Ext.refl _ | assumption | refine Ext.alloc ?_ _ | refine Ext.ext ?_ _ | refine Ext.drew ?_ | refine Ext.drewN ?_ _))
  have b0 : ((w.alloc (.cells #[v] 26)).alloc (.cells #[u, u'] 28)).cell? ⟨w.heap.size, 0, none⟩ = some v := by rw [cell_of_row _ _ 0 _ _ (0, 0) (heap_old (heap_at _ rfl) _)]; rfl
  have b1 : ((w.alloc (.cells #[v] 26)).alloc (.cells #[u, u'] 28)).cell? ⟨w.heap.size + 1, 0, none⟩ = some u := by rw [cell_of_row _ _ 0 _ _ (0, 0) (heap_at _ (by simp))]; rfl
  have b2 : ((w.alloc (.cells #[v] 26)).alloc (.cells #[u, u'] 28)).cell? ⟨w.heap.size + 1, 1, none⟩ = some u' := by rw [cell_of_row _ _ 1 _ _ (0, 0) (heap_at _ (by simp))]; rfl
  generalize hw0 : ((w.alloc (.cells #[v] 26)).alloc (.cells #[u, u'] 28)) = w0 at *
  have Hw0 := hid hw0
  have Bx := hid (And.intro b0 (And.intro b1 b2))
  clear hw0 b0 b1 b2
  cases e2 : (goodC ps ls ds && nodesIn ps ns)
  · have hno : shareB ps ls ds ns = false := by
      rw [shareB, ← Bool.and_assoc, show (goodC ps ls ds && allG (isNode ps.length) ns) = false from e2]; rfl
    rw [(share_no hno).1, (share_no hno).2, hno]
    rw [e2] at hc2
    clear hno e2
    go_enter Try.func23, Try.ntmps23
    go_wp2_with fail
    rw [Hw0.out]
    obtain ⟨b0, b1, b2⟩ := Bx.out
    clear Hw0
    go_wp2_with (first | (go_at_call 41; (with_reducible refine (hc2.out _ (Hr.out.ext (XB.trans (by repeat' (first | exact Ext.refl _ | assumption | refine Ext.alloc ?_ _ | refine Ext.ext ?_ _ | refine Ext.drew ?_ | refine Ext.drewN ?_ _)))) (Kr.out.ext (XB.trans (by repeat' (first | exact Ext.refl _ | assumption | refine Ext.alloc ?_ _ | refine Ext.ext ?_ _ | refine Ext.drew ?_ | refine Ext.drewN ?_ _)))) (Lr.out.ext (XB.trans (by repeat' (first | exact Ext.refl _ | assumption | refine Ext.alloc ?_ _ | refine Ext.ext ?_ _ | refine Ext.drew ?_ | refine Ext.drewN ?_ _)))) (Mr.out.ext (XB.trans (by repeat' (first | exact Ext.refl _ | assumption | refine Ext.alloc ?_ _ | refine Ext.ext ?_ _ | refine Ext.drew ?_ | refine Ext.drewN ?_ _))))).mono ?_); rintro e w' ⟨rfl, z1, rfl⟩))
    go_ret3
    exact ⟨rfl, XB.trans (by repeat' (first | exact Ext.refl _ | assumption | refine Ext.alloc ?_ _ | refine Ext.ext ?_ _ | refine Ext.drew ?_ | refine Ext.drewN ?_ _))⟩
  · rw [e2] at hc2
    cases e4 : ascB ns
    · have hno : shareB ps ls ds ns = false := by rw [shareB, e4, Bool.and_false, Bool.and_false]
      rw [(share_no hno).1, (share_no hno).2, hno]
      rw [e4] at ha
      clear hno e2 e4
      go_enter Try.func23, Try.ntmps23
      go_wp2_with fail
      rw [Hw0.out]
      obtain ⟨b0, b1, b2⟩ := Bx.out
      clear Hw0
      go_wp2_with (first | (go_at_call 41; (with_reducible refine (hc2.out _ (Hr.out.ext (XB.trans (by repeat' (first | exact Ext.refl _ | assumption | refine Ext.alloc ?_ _ | refine Ext.ext ?_ _ | refine Ext.drew ?_ | refine Ext.drewN ?_ _)))) (Kr.out.ext (XB.trans (by repeat' (first | exact Ext.refl _ | assumption | refine Ext.alloc ?_ _ | refine Ext.ext ?_ _ | refine Ext.drew ?_ | refine Ext.drewN ?_ _)))) (Lr.out.ext (XB.trans (by repeat' (first | exact Ext.refl _ | assumption | refine Ext.alloc ?_ _ | refine Ext.ext ?_ _ | refine Ext.drew ?_ | refine Ext.drewN ?_ _)))) (Mr.out.ext (XB.trans (by repeat' (first | exact Ext.refl _ | assumption | refine Ext.alloc ?_ _ | refine Ext.ext ?_ _ | refine Ext.drew ?_ | refine Ext.drewN ?_ _))))).mono ?_); rintro e w' ⟨rfl, z1, rfl⟩) | (go_at_call 48; (with_reducible refine (ha.out _ (Mr.out.ext (XB.trans (by repeat' (first | exact Ext.refl _ | assumption | refine Ext.alloc ?_ _ | refine Ext.ext ?_ _ | refine Ext.drew ?_ | refine Ext.drewN ?_ _))))).mono ?_); rintro e w' ⟨rfl, z2, rfl⟩))
      go_ret3
      exact ⟨rfl, XB.trans (by repeat' (first | exact Ext.refl _ | assumption | refine Ext.alloc ?_ _ | refine Ext.ext ?_ _ | refine Ext.drew ?_ | refine Ext.drewN ?_ _))⟩
    · have hyes : shareB ps ls ds ns = true := by
        rw [shareB, ← Bool.and_assoc, show (goodC ps ls ds && allG (isNode ps.length) ns) = true from e2, e4]; rfl
      obtain ⟨g1, g4⟩ := shareB_iff hyes
      have hT := (goodC_all g1).1
      have hlen := goodT_len hT
      rw [(share_yes hyes).1, (share_yes hyes).2, hyes]
      rw [e4] at ha
      have hbd := shr_bd g1 (nodes_in hT g4)
      have hred := fun w => impl_reduced (shr0 ps ls ns) 100000000000000 w hbd (by decide)
      have hgd : ((Int.gcd (shr0 ps ls ns) 100000000000000 : Nat) : Int) = shG ps ls ns := rfl
      rw [hgd] at hred
      have hsl := shr_links (ls := ls) hT g4
      have hso := fun y w h k => impl_shareOver ps ls ds (fan (fun x => (path ps x).drop 1) ns) u u' y w h k g1 (links_in hT g4) (fan_asc _ _) (Nat.le_trans (asc_len (n := ps.length) _ 0 (fan_asc _ _) (fun y hy => by have := links_in hT g4 y hy; omega)) (by omega))
      rw [hsl] at hso
      have hpp := fun x w h (hx : 0 ≤ x ∧ x < (ps.length : Int)) => impl_path ps v x w h hT (by omega) hx.2
      have Hpp := hid hpp
      have Hso := hid hso
      have Hred := hid hred
      have G4 := hid g4
      have HT := hid hT
      generalize shr0 ps ls ns = S at *
      generalize shG ps ls ns = D at *
      clear hyes e2 e4 g1 g4 hT hbd hred hgd hsl hso hpp
      go_enter Try.func23, Try.ntmps23
      go_wp2_with fail
      rw [Hw0.out]
      obtain ⟨b0, b1, b2⟩ := Bx.out
      clear Hw0
      go_wp2_with (first | (go_at_call 41; (with_reducible refine (hc2.out _ (Hr.out.ext (XB.trans (by repeat' (first | exact Ext.refl _ | assumption | refine Ext.alloc ?_ _ | refine Ext.ext ?_ _ | refine Ext.drew ?_ | refine Ext.drewN ?_ _)))) (Kr.out.ext (XB.trans (by repeat' (first | exact Ext.refl _ | assumption | refine Ext.alloc ?_ _ | refine Ext.ext ?_ _ | refine Ext.drew ?_ | refine Ext.drewN ?_ _)))) (Lr.out.ext (XB.trans (by repeat' (first | exact Ext.refl _ | assumption | refine Ext.alloc ?_ _ | refine Ext.ext ?_ _ | refine Ext.drew ?_ | refine Ext.drewN ?_ _)))) (Mr.out.ext (XB.trans (by repeat' (first | exact Ext.refl _ | assumption | refine Ext.alloc ?_ _ | refine Ext.ext ?_ _ | refine Ext.drew ?_ | refine Ext.drewN ?_ _))))).mono ?_); rintro e w' ⟨rfl, z1, rfl⟩) | (go_at_call 48; (with_reducible refine (ha.out _ (Mr.out.ext (XB.trans (by repeat' (first | exact Ext.refl _ | assumption | refine Ext.alloc ?_ _ | refine Ext.ext ?_ _ | refine Ext.drew ?_ | refine Ext.drewN ?_ _))))).mono ?_); rintro e w' ⟨rfl, z2, rfl⟩))
      have HX := hid (show Ext w0 ((w0.ext z1).ext z2) from (by repeat' (first | exact Ext.refl _ | assumption | refine Ext.alloc ?_ _ | refine Ext.ext ?_ _ | refine Ext.drew ?_ | refine Ext.drewN ?_ _)))
      generalize (w0.ext z1).ext z2 = W at *
      clear b0 b1 b2
      go_loopw [28, 9] (fun v28 v9 wr => ∃ k : Nat, k ≤ ns.length ∧ v28 = .int .i64 k ∧ wr.ownsRow W.heap.size 3 1 v9 (fan (fun x => (path ps x).drop 1) (ns.take k)).length (vInts (fan (fun x => (path ps x).drop 1) (ns.take k))) ∧ Ext W wr) (fun v28 _ _ => ns.length - (intOf v28).toNat)
      case atStart => exact ⟨0, Nat.zero_le _, rfl, World.ownsRow_nil _ _ _ _, Ext.refl _⟩
      case round =>
        obtain ⟨k, hk, rfl, hown, hx⟩ := hrel
        obtain ⟨wo, rfl⟩ : ∃ wo : World, wo = wr := ⟨_, rfl⟩
        have b0 := hx.cell (HX.out.cell Bx.out.1)
        have b1 := hx.cell (HX.out.cell Bx.out.2.1)
        have b2 := hx.cell (HX.out.cell Bx.out.2.2)
        have XO := XB.trans (HX.out.trans hx)
        by_cases hlt : k < ns.length
        · obtain ⟨b, off, rfl, h6⟩ := M4.out.resolve_left (by omega)
          have c0 := XO.cell (elem1 (Value.int .i64) 0 ns h6 k hlt)
          have hxo := G4.out _ (mem_getD hlt)
          have hsn := fan_snoc (fun x => (path ps x).drop 1) ns k hlt
          have hlin := links_in HT.out (mem_take_in G4.out (k + 1))
          rw [hsn] at hlin
          have hasc := fan_asc (fun x => (path ps x).drop 1) (ns.take k)
          generalize ns.getD k 0 = x at c0 hxo hsn hlin
          obtain ⟨R, hR⟩ := path_head HT.out hxo.1 hxo.2
          have hRd : (path ps x).drop 1 = R := by rw [hR]; rfl
          simp only [hRd] at hsn hlin
          have hp := fun w h => Hpp.out x w h hxo
          rw [hR] at hp
          obtain ⟨n, hn⟩ : ∃ n, ((0 : Int) :: R).length = n := ⟨_, rfl⟩
          have hn1 : R.length = n - 1 := by rw [← hn]; rfl
          have hn2 : 1 ≤ n := by rw [← hn]; simp
          rw [hn] at hp
          generalize fan (fun x => (path ps x).drop 1) (ns.take k) = L at *
          have hll : ∀ j, (putAll L (R.take j)).length ≤ 8 := fun j => by
            refine Nat.le_trans (asc_len (n := ps.length) _ 0 (putAll_asc _ _ hasc) (fun y hy => ?_)) (by omega)
            rcases (putAll_mem _ _ _).1 hy with h | h
            · have := hlin y ((putAll_mem _ _ _).2 (.inl h)); omega
            · have := hlin y ((putAll_mem _ _ _).2 (.inr (List.mem_of_mem_take h))); omega
          have Hsn := hid hsn
          have Hasc := hid hasc
          have Hp := hid hp
          have Hll := hid hll
          have Ho := hid hown
          have hR8 : n ≤ 9 := by have := path_len HT.out hxo.2; rw [hR, hn] at this; omega
          have Hn1 := hid hn1
          clear hsn hasc hp hR hRd hlin hown hn hn1 h6 hll
          go_wp2_with fail
          go_at_call 63
          refine (Hp.out _ (Hr.out.ext XO)).mono ?_
          rintro e w1 ⟨r, rfl, ho1, hx1⟩
          obtain ⟨g, cap, rfl⟩ := own_form ho1 hn2
          have hrt := rd_tail ho1
          obtain ⟨p', c', hsl⟩ : ∃ p c, slc (some ⟨g, 0, none⟩) 1 n cap = .slice p (n - 1) c := ⟨_, _, rfl⟩
          have hs1 := run_from1 g n cap hn2
          have hs2 := run_fromAt1 g n cap hn2
          have hpg : ∀ a, p' = some a → a.block = g := by
            intro a ha
            have e1 : p' = (if cap = 1 then some ⟨g, 0, none⟩ else (some (⟨g, 0, none⟩ : Addr)).map (·.add (1 * 1))) := by
              unfold slc at hsl; cases hsl; rfl
            rw [ha] at e1
            split at e1
            · cases e1; rfl
            · simp [Addr.add] at e1; rw [e1]
          rw [hsl] at hs1 hs2 hrt
          have b0 := hx1.cell b0
          have b1 := hx1.cell b1
          have b2 := hx1.cell b2
          have hgl := (own_size ho1)
          have Hrt := hid hrt
          have X1 := hid (hx.trans hx1)
          have Ho1 := hid (own_ext Ho.out hx1)
          have Hdis := hid (dis_new Ho.out hpg hgl.1)
          clear hsl ho1 hrt hpg hx hx1 XO
          go_wp2
          clear hs1 hs2 b0 b1 b2
          go_loopw [37, 9] (fun v37 v9 wr => ∃ j : Nat, j ≤ n - 1 ∧ v37 = .int .i64 j ∧ wr.ownsRow W.heap.size 3 1 v9 (putAll L (R.take j)).length (vInts (putAll L (R.take j))) ∧ Ext W wr ∧ Hid (Rd wr 1 (.slice p' (n - 1) c') (n - 1) (vInts R) ∧ (∀ j, v9.ownBlock = some j → ∀ a, p' = some a → a.block ≠ j))) (fun v37 _ _ => (n - 1) - (intOf v37).toNat)
          case atStart => exact ⟨0, Nat.zero_le _, rfl, Ho1.out, X1.out, ⟨Hrt.out, Hdis.out⟩⟩
          case round =>
            obtain ⟨j, hj, rfl, hown2, hx2, hrd⟩ := hrel
            by_cases hlt2 : j < n - 1
            · obtain ⟨-, p4, c4, e4, q4⟩ := hrd.out.1
              cases e4
              obtain ⟨b4, off4, rfl, q6⟩ := q4.resolve_left (by omega)
              have d0 := elem1 (Value.int .i64) 0 R q6 j (by rw [Hn1.out]; exact hlt2)
              have hblk := World.block_lt_of_cell? _ _ d0
              have hps := putAll_snoc L R j (by rw [Hn1.out]; exact hlt2)
              have hpa := putAll_asc (R.take j) L Hasc.out
              have hpl := Hll.out j
              generalize R.getD j 0 = q at d0 hps
              generalize putAll L (R.take j) = M at *
              have Hps := hid hps
              have Hpa := hid hpa
              have Hx2 := hid hx2
              have Ho2 := hid hown2
              clear hps hpa hx2 hown2 q4 q6
              go_wp2_with fail
              go_at_call 64
              refine (impl_withNode M _ q W.heap.size _ Ho2.out Hpa.out Hx2.out.size (by omega)).mono ?_
              rintro e w3 ⟨r3, rfl, ho3, hg3, hj3⟩
              have hx3 := hid (Ext.grown Hx2.out hg3 (fun j hj => (own_row Ho2.out j hj).1))
              have hr3 := hid (rd_grown hrd.out.1 hg3 (fun e => hrd.out.2 _ e.symm _ rfl rfl))
              have hd3 := hid (show ∀ j, r3.ownBlock = some j → ∀ a, some (⟨b4, off4, none⟩ : Addr) = some a → a.block ≠ j from fun j hj a ha => by
                cases ha
                rcases hj3 j hj with h | h
                · exact hrd.out.2 j h _ rfl
                · dsimp only at hblk ⊢; omega)
              have ho3' := hid ho3
              clear hg3 hj3 ho3 d0
              go_wp2
              go_roundw
              case rel => exact ⟨j + 1, by omega, by go_num, by rw [Hps.out]; exact ho3'.out, hx3.out, ⟨hr3.out, hd3.out⟩⟩
              case measure => simp [intOf]; omega
            · have hjj : j = R.length := by rw [Hn1.out]; omega
              have e5 : putAll L (R.take j) = putAll L R := by rw [hjj, List.take_length]
              rw [e5] at hown2
              have K := hid (And.intro hown2 hx2)
              clear hown2 hx2 e5 hjj
              go_wp2
              go_roundw
              case rel => exact ⟨k + 1, by omega, by go_num, by rw [Hsn.out]; exact K.out.1, K.out.2⟩
              case measure => simp [intOf]; omega
        · obtain rfl : k = ns.length := by omega
          rw [List.take_length] at hown
          have Ho := hid hown
          have Hx := hid hx
          clear hown hx hlt
          go_wp2_with (first
            | (go_at_call 66; (with_reducible refine (Hso.out _ _ (Rd.own Ho.out) (Kr.out.ext XO)).mono ?_); rintro e w' ⟨rfl, z5, rfl⟩)
            | (go_at_call 65; (with_reducible refine (Hred.out _).mono ?_); rintro e w' ⟨rfl, z6, rfl⟩))
          go_ret3
          exact ⟨rfl, XO.trans (by repeat' (first | exact Ext.refl _ | assumption | refine Ext.alloc ?_ _ | refine Ext.ext ?_ _ | refine Ext.drew ?_ | refine Ext.drewN ?_ _))⟩
theorem spec_ShareToAll (ps ls ds ns : List Int) (v u u' y : Value) (w : World) (h : Rd w 1 v ps.length (vInts ps)) (k : Rd w 1 u ls.length (vInts ls)) (l : Rd w 1 u' ds.length (vInts ds)) (m : Rd w 1 y ns.length (vInts ns))
    (h2 : ps.length ≤ 1048576) (k2 : ls.length ≤ 1048576) (l2 : ds.length ≤ 1048576) (m2 : ns.length ≤ 1048576) :
    Calls Try.prog 25 #[.agg #[v], .agg #[u, u'], y] w fun e w' => e = .returned (.tuple #[.int .i64 (shareNum ps ls ds ns), .int .i64 (shareDen ps ls ds ns), .bool (shareB ps ls ds ns)]) ∧ Ext w w' := by
  have Hr := hid h
  have Kr := hid k
  have Lr := hid l
  have Mr := hid m
  obtain ⟨-, tp, tc, rfl, -⟩ := h
  obtain ⟨-, yp, yc, rfl, m4⟩ := m
  have M4 := hid m4
  clear k l m4
  have hc : Hid (∀ (w : World), Rd w 1 (.slice tp ps.length tc) ps.length (vInts ps) → Rd w 1 u ls.length (vInts ls) → Rd w 1 u' ds.length (vInts ds) →
      Calls Try.prog 55 #[.agg #[.slice tp ps.length tc], .agg #[u, u']] w fun e w' => e = .returned (.bool (goodC ps ls ds)) ∧ Ext w w') :=
    fun w h k l => spec_l22Good ps ls ds _ u u' w h k l h2 k2 l2
  have hr : Hid (∀ (w : World), Rd w 1 (.slice yp ns.length yc) ns.length (vInts ns) → Calls Try.prog 51 #[.slice yp ns.length yc, .int .i64 0, .int .i64 ((ps.length : Int) - 1)] w fun e w' => e = .returned (.bool (risB ns 0 ((ps.length : Int) - 1))) ∧ Ext w w') :=
    fun w m => spec_l1Rising ns _ _ _ w m m2
  have XB : Ext w ((w.alloc (.cells #[.slice tp ps.length tc] 26)).alloc (.cells #[u, u'] 28)) := (by repeat' (first | exact Ext.refl _ | assumption | refine Ext.alloc ?_ _ | refine Ext.ext ?_ _ | refine Ext.drew ?_ | refine Ext.drewN ?_ _))
  have b0 : ((w.alloc (.cells #[.slice tp ps.length tc] 26)).alloc (.cells #[u, u'] 28)).cell? ⟨w.heap.size, 0, none⟩ = some (.slice tp ps.length tc) := by rw [cell_of_row _ _ 0 _ _ (0, 0) (heap_old (heap_at _ rfl) _)]; rfl
  have b1 : ((w.alloc (.cells #[.slice tp ps.length tc] 26)).alloc (.cells #[u, u'] 28)).cell? ⟨w.heap.size + 1, 0, none⟩ = some u := by rw [cell_of_row _ _ 0 _ _ (0, 0) (heap_at _ (by simp))]; rfl
  have b2 : ((w.alloc (.cells #[.slice tp ps.length tc] 26)).alloc (.cells #[u, u'] 28)).cell? ⟨w.heap.size + 1, 1, none⟩ = some u' := by rw [cell_of_row _ _ 1 _ _ (0, 0) (heap_at _ (by simp))]; rfl
  generalize hw0 : ((w.alloc (.cells #[.slice tp ps.length tc] 26)).alloc (.cells #[u, u'] 28)) = w0 at *
  have Hw0 := hid hw0
  have Bx := hid (And.intro b0 (And.intro b1 b2))
  clear hw0 b0 b1 b2
  have hsb : shareB ps ls ds ns = (goodC ps ls ds && risB ns 0 ((ps.length : Int) - 1)) := by rw [risB_eq]; rfl
  cases e1 : goodC ps ls ds
  · have hno : shareB ps ls ds ns = false := by rw [hsb, e1]; rfl
    rw [(share_no hno).1, (share_no hno).2, hno]
    rw [e1] at hc
    clear hno e1 hsb
    go_enter Try.func25, Try.ntmps25
    go_wp2_with fail
    rw [Hw0.out]
    obtain ⟨b0, b1, b2⟩ := Bx.out
    clear Hw0
    go_wp2_with (first | (go_at_call 55; (with_reducible refine (hc.out _ (Hr.out.ext (XB.trans (by repeat' (first | exact Ext.refl _ | assumption | refine Ext.alloc ?_ _ | refine Ext.ext ?_ _ | refine Ext.drew ?_ | refine Ext.drewN ?_ _)))) (Kr.out.ext (XB.trans (by repeat' (first | exact Ext.refl _ | assumption | refine Ext.alloc ?_ _ | refine Ext.ext ?_ _ | refine Ext.drew ?_ | refine Ext.drewN ?_ _)))) (Lr.out.ext (XB.trans (by repeat' (first | exact Ext.refl _ | assumption | refine Ext.alloc ?_ _ | refine Ext.ext ?_ _ | refine Ext.drew ?_ | refine Ext.drewN ?_ _))))).mono ?_); rintro e w' ⟨rfl, z1, rfl⟩))
    go_ret3
    exact ⟨rfl, XB.trans (by repeat' (first | exact Ext.refl _ | assumption | refine Ext.alloc ?_ _ | refine Ext.ext ?_ _ | refine Ext.drew ?_ | refine Ext.drewN ?_ _))⟩
  · rw [e1] at hc
    cases e4 : risB ns 0 ((ps.length : Int) - 1)
    · have hno : shareB ps ls ds ns = false := by rw [hsb, e4, Bool.and_false]
      rw [(share_no hno).1, (share_no hno).2, hno]
      rw [e4] at hr
      clear hno e1 e4 hsb
      go_enter Try.func25, Try.ntmps25
      go_wp2_with fail
      rw [Hw0.out]
      obtain ⟨b0, b1, b2⟩ := Bx.out
      clear Hw0
      go_wp2_with (first | (go_at_call 55; (with_reducible refine (hc.out _ (Hr.out.ext (XB.trans (by repeat' (first | exact Ext.refl _ | assumption | refine Ext.alloc ?_ _ | refine Ext.ext ?_ _ | refine Ext.drew ?_ | refine Ext.drewN ?_ _)))) (Kr.out.ext (XB.trans (by repeat' (first | exact Ext.refl _ | assumption | refine Ext.alloc ?_ _ | refine Ext.ext ?_ _ | refine Ext.drew ?_ | refine Ext.drewN ?_ _)))) (Lr.out.ext (XB.trans (by repeat' (first | exact Ext.refl _ | assumption | refine Ext.alloc ?_ _ | refine Ext.ext ?_ _ | refine Ext.drew ?_ | refine Ext.drewN ?_ _))))).mono ?_); rintro e w' ⟨rfl, z1, rfl⟩) | (go_at_call 51; (with_reducible refine (hr.out _ (Mr.out.ext (XB.trans (by repeat' (first | exact Ext.refl _ | assumption | refine Ext.alloc ?_ _ | refine Ext.ext ?_ _ | refine Ext.drew ?_ | refine Ext.drewN ?_ _))))).mono ?_); rintro e w' ⟨rfl, z2, rfl⟩))
      go_ret3
      exact ⟨rfl, XB.trans (by repeat' (first | exact Ext.refl _ | assumption | refine Ext.alloc ?_ _ | refine Ext.ext ?_ _ | refine Ext.drew ?_ | refine Ext.drewN ?_ _))⟩
    · have hyes : shareB ps ls ds ns = true := by rw [hsb, e1, e4]; rfl
      obtain ⟨g1, g4⟩ := shareB_iff hyes
      have hT := (goodC_all g1).1
      have hlen := goodT_len hT
      rw [(share_yes hyes).1, (share_yes hyes).2, hyes]
      rw [e4] at hr
      have hni := nodes_in hT g4
      have hbd := shr_bd g1 hni
      have hred := fun w => spec_l19Reduce (shr0 ps ls ns) 100000000000000 w hbd (by decide)
      have hgd : ((Int.gcd (shr0 ps ls ns) 100000000000000 : Nat) : Int) = shG ps ls ns := rfl
      rw [hgd] at hred
      have hso := fun y w h k => spec_l22Share ps ls ds (fan (path ps) ns) u u' y w h k g1 hni (Nat.le_trans (asc_len (n := ps.length) _ 0 (fan_asc _ _) (fun y hy => by have := hni y hy; omega)) (by omega))
      have hs0 : shr ls (fan (path ps) ns) = shr0 ps ls ns := rfl
      rw [hs0] at hso
      have hpp := fun x w h (hx : 0 ≤ x ∧ x < (ps.length : Int)) => spec_l6Path ps (.slice tp ps.length tc) x w h hT (by omega) hx.2
      have Hpp := hid hpp
      have Hso := hid hso
      have Hred := hid hred
      have G4 := hid g4
      have HT := hid hT
      generalize shr0 ps ls ns = S at *
      generalize shG ps ls ns = D at *
      clear hyes e1 e4 g1 g4 hT hbd hred hgd hso hpp hsb hni hs0
      go_enter Try.func25, Try.ntmps25
      go_wp2_with fail
      rw [Hw0.out]
      obtain ⟨b0, b1, b2⟩ := Bx.out
      clear Hw0
      go_wp2_with (first | (go_at_call 55; (with_reducible refine (hc.out _ (Hr.out.ext (XB.trans (by repeat' (first | exact Ext.refl _ | assumption | refine Ext.alloc ?_ _ | refine Ext.ext ?_ _ | refine Ext.drew ?_ | refine Ext.drewN ?_ _)))) (Kr.out.ext (XB.trans (by repeat' (first | exact Ext.refl _ | assumption | refine Ext.alloc ?_ _ | refine Ext.ext ?_ _ | refine Ext.drew ?_ | refine Ext.drewN ?_ _)))) (Lr.out.ext (XB.trans (by repeat' (first | exact Ext.refl _ | assumption | refine Ext.alloc ?_ _ | refine Ext.ext ?_ _ | refine Ext.drew ?_ | refine Ext.drewN ?_ _))))).mono ?_); rintro e w' ⟨rfl, z1, rfl⟩) | (go_at_call 51; (with_reducible refine (hr.out _ (Mr.out.ext (XB.trans (by repeat' (first | exact Ext.refl _ | assumption | refine Ext.alloc ?_ _ | refine Ext.ext ?_ _ | refine Ext.drew ?_ | refine Ext.drewN ?_ _))))).mono ?_); rintro e w' ⟨rfl, z2, rfl⟩))
      have HX := hid (show Ext w0 ((w0.ext z1).ext z2) from (by repeat' (first | exact Ext.refl _ | assumption | refine Ext.alloc ?_ _ | refine Ext.ext ?_ _ | refine Ext.drew ?_ | refine Ext.drewN ?_ _)))
      generalize (w0.ext z1).ext z2 = W at *
      clear b0 b1 b2
      have hl0 : (W.alloc (.cells #[] 3)).ownsRow W.heap.size 3 1 (.slice (some ⟨W.heap.size, 0, none⟩) 0 0) 0 [] := World.ownsRow_lit W #[] 0 (Nat.le_refl _) (Nat.zero_le _) rfl
      have Hl0 := hid hl0
      clear hl0
      go_loopw [10, 9] (fun v28 v9 wr => ∃ k : Nat, k ≤ ns.length ∧ v28 = .int .i64 k ∧ wr.ownsRow W.heap.size 3 1 v9 (fan (path ps) (ns.take k)).length (vInts (fan (path ps) (ns.take k))) ∧ Ext W wr) (fun v28 _ _ => ns.length - (intOf v28).toNat)
      case atStart => exact ⟨0, Nat.zero_le _, rfl, Hl0.out, (by repeat' (first | exact Ext.refl _ | assumption | refine Ext.alloc ?_ _ | refine Ext.ext ?_ _ | refine Ext.drew ?_ | refine Ext.drewN ?_ _))⟩
      case round =>
        obtain ⟨k, hk, rfl, hown, hx⟩ := hrel
        obtain ⟨wo, rfl⟩ : ∃ wo : World, wo = wr := ⟨_, rfl⟩
        have b0 := hx.cell (HX.out.cell Bx.out.1)
        have b1 := hx.cell (HX.out.cell Bx.out.2.1)
        have b2 := hx.cell (HX.out.cell Bx.out.2.2)
        have XO := XB.trans (HX.out.trans hx)
        by_cases hlt : k < ns.length
        · obtain ⟨b, off, rfl, h6⟩ := M4.out.resolve_left (by omega)
          have c0 := XO.cell (elem1 (Value.int .i64) 0 ns h6 k hlt)
          have hxo := G4.out _ (mem_getD hlt)
          have hsn := fan_snoc (path ps) ns k hlt
          have hlin := nodes_in HT.out (mem_take_in G4.out (k + 1))
          rw [hsn] at hlin
          have hasc := fan_asc (path ps) (ns.take k)
          have hpl8 := path_len HT.out hxo.2
          generalize ns.getD k 0 = x at c0 hxo hsn hlin hpl8
          have hp := fun w h => Hpp.out x w h hxo
          generalize path ps x = R at *
          generalize fan (path ps) (ns.take k) = L at *
          have hll : ∀ j, (putAll L (R.take j)).length ≤ 8 := fun j => by
            refine Nat.le_trans (asc_len (n := ps.length) _ 0 (putAll_asc _ _ hasc) (fun y hy => ?_)) (by omega)
            rcases (putAll_mem _ _ _).1 hy with h | h
            · have := hlin y ((putAll_mem _ _ _).2 (.inl h)); omega
            · have := hlin y ((putAll_mem _ _ _).2 (.inr (List.mem_of_mem_take h))); omega
          have Hsn := hid hsn
          have Hasc := hid hasc
          have Hp := hid hp
          have Hll := hid hll
          have Ho := hid hown
          clear hsn hasc hp hlin hown h6 hll
          have n0 : (0 : Int) ≤ (k : Int) := by omega
          have n1 : (k : Int) < (ns.length : Int) := by omega
          go_wp2
          have X4 : Ext w wo.drew := XO.drew
          have e0 := (Ext.refl wo).drew.cell b0
          have e3 := (Ext.refl wo).drew.cell c0
          go_region_held3 (fun w' => w'.cell? ⟨w.heap.size, 0, none⟩ = some (.slice tp ps.length tc) ∧ w'.cell? ⟨b, off + k, none⟩ = some (.int .i64 x)) (first | exact ⟨b0, c0⟩ | exact ⟨e0, e3⟩ | exact ⟨f0, f3⟩)
            (first | (go_at_call 61; (with_reducible refine (Hp.out _ (Hr.out.ext X4)).mono ?_); rintro e w1 ⟨r, rfl, ho1, hx1⟩; have f0 := hx1.cell e0; have f3 := hx1.cell e3))
          have hrd := Rd.own ho1
          obtain ⟨p1, cc1, rfl⟩ := own_shape ho1
          have Hrd := hid hrd
          have X1 := hid (hx.trans ((Ext.refl wo).drew.trans hx1))
          have Ho1 := hid (own_ext Ho.out ((Ext.refl wo).drew.trans hx1))
          clear ho1 hrd hx hx1 XO X4 e0 e3 f0 f3 b0 b1 b2 c0 n0 n1
          go_wp2
          go_loopw [12, 9] (fun v37 v9 wr => ∃ j : Nat, j ≤ R.length ∧ v37 = .int .i64 j ∧ wr.ownsRow W.heap.size 3 1 v9 (putAll L (R.take j)).length (vInts (putAll L (R.take j))) ∧ Ext W wr ∧ Ext w1 wr) (fun v37 _ _ => R.length - (intOf v37).toNat)
          case atStart => exact ⟨0, Nat.zero_le _, rfl, Ho1.out, X1.out, Ext.refl _⟩
          case round =>
            obtain ⟨j, hj, rfl, hown2, hx2, hx3⟩ := hrel
            by_cases hlt2 : j < R.length
            · obtain ⟨-, p4, c4, e4, q4⟩ := Hrd.out
              cases e4
              obtain ⟨b4, off4, rfl, q6⟩ := q4.resolve_left (by omega)
              have d0 := hx3.cell (elem1 (Value.int .i64) 0 R q6 j hlt2)
              have hps := putAll_snoc L R j hlt2
              have hpa := putAll_asc (R.take j) L Hasc.out
              have hpl := Hll.out j
              generalize R.getD j 0 = q at d0 hps
              generalize putAll L (R.take j) = M at *
              have Hps := hid hps
              have Hpa := hid hpa
              have Hx2 := hid hx2
              have Hx3 := hid hx3
              have Ho2 := hid hown2
              clear hps hpa hx2 hx3 hown2 q4 q6
              go_wp2_with fail
              go_at_call 67
              refine (spec_l1Put M _ q W.heap.size _ Ho2.out Hpa.out Hx2.out.size (by omega)).mono ?_
              rintro e w3 ⟨r3, rfl, ho3, hg3⟩
              have K3 := hid (And.intro ho3 hg3)
              clear hg3 ho3 d0
              go_wp2
              go_roundw
              case rel => exact ⟨j + 1, by omega, by go_num, by rw [Hps.out]; exact K3.out.1, Hx2.out.trans K3.out.2, Hx3.out.trans K3.out.2⟩
              case measure => simp [intOf]; omega
            · have hjj : j = R.length := by omega
              have e5 : putAll L (R.take j) = putAll L R := by rw [hjj, List.take_length]
              rw [e5] at hown2
              have K := hid (And.intro hown2 hx2)
              clear hown2 hx2 hx3 e5 hjj
              go_wp2
              go_roundw
              case rel => exact ⟨k + 1, by omega, by go_num, by rw [Hsn.out]; exact K.out.1, K.out.2⟩
              case measure => simp [intOf]; omega
        · obtain rfl : k = ns.length := by omega
          rw [List.take_length] at hown
          have Ho := hid hown
          have Hx := hid hx
          clear hown hx hlt
          go_wp2_with (first
            | (go_at_call 60; (with_reducible refine (Hso.out _ _ (Rd.own Ho.out) (Kr.out.ext XO)).mono ?_); rintro e w' ⟨rfl, z5, rfl⟩)
            | (go_at_call 62; refine (spec_l22Whole _).mono ?_; rintro e w' ⟨rfl, rfl⟩)
            | (go_at_call 59; (with_reducible refine (Hred.out _).mono ?_); rintro e w' ⟨rfl, z6, rfl⟩))
          go_ret3
          exact ⟨rfl, XO.trans (by repeat' (first | exact Ext.refl _ | assumption | refine Ext.alloc ?_ _ | refine Ext.ext ?_ _ | refine Ext.drew ?_ | refine Ext.drewN ?_ _))⟩
theorem shareB_one (ps ls ds : List Int) (x : Int) : shareB ps ls ds [x] = hasC ps ls ds x := by
  have : ascB [x] = true := by simp [ascB]
  rw [shareB, this, Bool.and_true]
  show (goodC ps ls ds && nodesIn ps [x]) = _
  rw [nodesIn_one]; rfl
theorem impl_ShareTo (ps ls ds : List Int) (v u u' : Value) (x : Int) (w : World) (h : Rd w 1 v ps.length (vInts ps)) (k : Rd w 1 u ls.length (vInts ls)) (l : Rd w 1 u' ds.length (vInts ds))
    (h2 : ps.length ≤ 1048576) (k2 : ls.length ≤ 1048576) (l2 : ds.length ≤ 1048576) :
    Calls Try.prog 21 #[.agg #[v], .agg #[u, u'], .int .i64 x] w fun e w' => e = .returned (.tuple #[.int .i64 (shareNum ps ls ds [x]), .int .i64 (shareDen ps ls ds [x]), .bool (hasC ps ls ds x)]) ∧ Ext w w' := by
  have hs := fun v u u' y w h k l m => impl_ShareToAll ps ls ds [x] v u u' y w h k l m h2 k2 l2 (by simp)
  rw [shareB_one] at hs
  have hlit : Rd (((w.alloc (.cells #[v] 26)).alloc (.cells #[u, u'] 28)).alloc (.cells #[.int .i64 x] 3)) 1 (.slice (some ⟨w.heap.size + 1 + 1, 0, none⟩) 1 1) 1 [.int .i64 x] := by
    simpa using rd_lit ((w.alloc (.cells #[v] 26)).alloc (.cells #[u, u'] 28)) #[.int .i64 x]
  have Hlit := hid hlit
  have Hs := hid hs
  have Hr := hid h
  have Kr := hid k
  have Lr := hid l
  clear h k l hlit hs
  go_enter Try.func21, Try.ntmps21
  go_wp2_with (go_at_call 23; refine (Hs.out _ _ _ _ _ (Hr.out.ext (by repeat' (first | exact Ext.refl _ | assumption | refine Ext.alloc ?_ _ | refine Ext.ext ?_ _ | refine Ext.drew ?_ | refine Ext.drewN ?_ _))) (Kr.out.ext (by repeat' (first | exact Ext.refl _ | assumption | refine Ext.alloc ?_ _ | refine Ext.ext ?_ _ | refine Ext.drew ?_ | refine Ext.drewN ?_ _))) (Lr.out.ext (by repeat' (first | exact Ext.refl _ | assumption | refine Ext.alloc ?_ _ | refine Ext.ext ?_ _ | refine Ext.drew ?_ | refine Ext.drewN ?_ _))) Hlit.out).mono ?_; rintro e w' ⟨rfl, z1, rfl⟩)
  go_ret3
  exact ⟨rfl, (by repeat' (first | exact Ext.refl _ | assumption | refine Ext.alloc ?_ _ | refine Ext.ext ?_ _ | refine Ext.drew ?_ | refine Ext.drewN ?_ _))⟩
theorem spec_ShareTo (ps ls ds : List Int) (v u u' : Value) (x : Int) (w : World) (h : Rd w 1 v ps.length (vInts ps)) (k : Rd w 1 u ls.length (vInts ls)) (l : Rd w 1 u' ds.length (vInts ds))
    (h2 : ps.length ≤ 1048576) (k2 : ls.length ≤ 1048576) (l2 : ds.length ≤ 1048576) :
    Calls Try.prog 22 #[.agg #[v], .agg #[u, u'], .int .i64 x] w fun e w' => e = .returned (.tuple #[.int .i64 (shareNum ps ls ds [x]), .int .i64 (shareDen ps ls ds [x]), .bool (hasC ps ls ds x)]) ∧ Ext w w' := by
  have Hr := hid h
  have Kr := hid k
  have Lr := hid l
  clear h k l
  have hc : Hid (∀ (v u u' : Value) (w : World), Rd w 1 v ps.length (vInts ps) → Rd w 1 u ls.length (vInts ls) → Rd w 1 u' ds.length (vInts ds) →
      Calls Try.prog 43 #[.agg #[v], .agg #[u, u'], .int .i64 x] w fun e w' => e = .returned (.bool (hasC ps ls ds x)) ∧ Ext w w') :=
    fun v u u' w h k l => spec_l22Node ps ls ds v u u' x w h k l h2 k2 l2
  have hsb := shareB_one ps ls ds x
  cases hg : hasC ps ls ds x
  · rw [hg] at hc hsb
    rw [(share_no hsb).1, (share_no hsb).2]
    clear hsb hg
    go_enter Try.func22, Try.ntmps22
    go_wp2_with (go_at_call 43; refine (hc.out _ _ _ _ (Hr.out.ext (by repeat' (first | exact Ext.refl _ | assumption | refine Ext.alloc ?_ _ | refine Ext.ext ?_ _ | refine Ext.drew ?_ | refine Ext.drewN ?_ _))) (Kr.out.ext (by repeat' (first | exact Ext.refl _ | assumption | refine Ext.alloc ?_ _ | refine Ext.ext ?_ _ | refine Ext.drew ?_ | refine Ext.drewN ?_ _))) (Lr.out.ext (by repeat' (first | exact Ext.refl _ | assumption | refine Ext.alloc ?_ _ | refine Ext.ext ?_ _ | refine Ext.drew ?_ | refine Ext.drewN ?_ _)))).mono ?_; rintro e w' ⟨rfl, z1, rfl⟩)
    go_ret3
    exact ⟨rfl, (by repeat' (first | exact Ext.refl _ | assumption | refine Ext.alloc ?_ _ | refine Ext.ext ?_ _ | refine Ext.drew ?_ | refine Ext.drewN ?_ _))⟩
  · rw [hg] at hc hsb
    obtain ⟨h3, h4, h5⟩ := hasC_iff hg
    have hT := (goodC_all h3).1
    rw [(share_yes hsb).1, (share_yes hsb).2]
    have hs0 : shr0 ps ls [x] = shr ls (path ps x) := by
      apply shr_congr
      intro i h1 _
      rw [Bool.eq_iff_iff, List.contains_iff_mem, List.contains_iff_mem, fan_mem]
      simp
    have hpm := path_mem hT h5
    have hpl := path_len hT h5
    have hbd := shr_bd h3 hpm
    rw [← hs0] at hbd
    have hred := fun w => spec_l19Reduce (shr0 ps ls [x]) 100000000000000 w hbd (by decide)
    have hgd : ((Int.gcd (shr0 ps ls [x]) 100000000000000 : Nat) : Int) = shG ps ls [x] := rfl
    rw [hgd] at hred
    have hpp := fun w h => spec_l6Path ps v x w h hT (by omega) h5
    have hso := fun y w h k => spec_l22Share ps ls ds (path ps x) u u' y w h k h3 hpm (by omega)
    rw [← hs0] at hso
    generalize shr0 ps ls [x] = S at *
    generalize shG ps ls [x] = D at *
    generalize path ps x = P at *
    have Hpp := hid hpp
    have Hso := hid hso
    have Hred := hid hred
    clear hpp hso hred hgd hs0 hpm hbd h3 h4 h5 hT hsb hg
    go_enter Try.func22, Try.ntmps22
    go_wp2_with fail
    have b0 : ((w.alloc (.cells #[v] 26)).alloc (.cells #[u, u'] 28)).cell? ⟨w.heap.size, 0, none⟩ = some v := by rw [cell_of_row _ _ 0 _ _ (0, 0) (heap_old (heap_at _ rfl) _)]; rfl
    have b1 : ((w.alloc (.cells #[v] 26)).alloc (.cells #[u, u'] 28)).cell? ⟨w.heap.size + 1, 0, none⟩ = some u := by rw [cell_of_row _ _ 0 _ _ (0, 0) (heap_at _ (by simp))]; rfl
    have b2 : ((w.alloc (.cells #[v] 26)).alloc (.cells #[u, u'] 28)).cell? ⟨w.heap.size + 1, 1, none⟩ = some u' := by rw [cell_of_row _ _ 1 _ _ (0, 0) (heap_at _ (by simp))]; rfl
    have XB : Ext w ((w.alloc (.cells #[v] 26)).alloc (.cells #[u, u'] 28)) := (by repeat' (first | exact Ext.refl _ | assumption | refine Ext.alloc ?_ _ | refine Ext.ext ?_ _ | refine Ext.drew ?_ | refine Ext.drewN ?_ _))
    generalize ((w.alloc (.cells #[v] 26)).alloc (.cells #[u, u'] 28)) = w0 at *
    go_at_call 43
    refine (hc.out _ _ _ _ (Hr.out.ext XB) (Kr.out.ext XB) (Lr.out.ext XB)).mono ?_
    rintro e w1 ⟨rfl, hx1⟩
    have b0 := hx1.cell b0
    have b1 := hx1.cell b1
    have b2 := hx1.cell b2
    have X1 := XB.trans hx1
    clear XB hx1
    go_wp2
    have X4 : Ext w w1.drew := X1.drew
    have e0 := (Ext.refl w1).drew.cell b0
    have e1 := (Ext.refl w1).drew.cell b1
    have e2 := (Ext.refl w1).drew.cell b2
    go_region_held3 (fun w' => w'.cell? ⟨w.heap.size, 0, none⟩ = some v ∧ w'.cell? ⟨w.heap.size + 1, 0, none⟩ = some u ∧ w'.cell? ⟨w.heap.size + 1, 1, none⟩ = some u') (first | exact ⟨b0, b1, b2⟩ | exact ⟨e0, e1, e2⟩ | exact ⟨f0, f1, f2⟩ | exact ⟨g0, g1, g2⟩ | exact ⟨i0, i1, i2⟩)
      (first
        | (go_at_call 61; (with_reducible refine (Hpp.out _ (Hr.out.ext X4)).mono ?_); rintro e w3 ⟨r3, rfl, ho3, hx3⟩; have f0 := hx3.cell e0; have f1 := hx3.cell e1; have f2 := hx3.cell e2)
        | (go_at_call 60; (with_reducible refine (Hso.out _ _ (Rd.own ho3) (Kr.out.ext (X4.trans hx3))).mono ?_); rintro e w4 ⟨rfl, hx4⟩; have g0 := hx4.cell f0; have g1 := hx4.cell f1; have g2 := hx4.cell f2)
        | (go_at_call 62; (with_reducible refine (spec_l22Whole _).mono ?_); rintro e w' ⟨rfl, rfl⟩)
        | (go_at_call 59; (with_reducible refine (Hred.out _).mono ?_); rintro e w6 ⟨rfl, hx6⟩; have i0 := hx6.cell g0; have i1 := hx6.cell g1; have i2 := hx6.cell g2))
    go_wp2
    go_ret3
    exact ⟨rfl, X4.trans (hx3.trans (hx4.trans hx6))⟩
end Go.Proofs.Ytppdbnopgcjgjaa
