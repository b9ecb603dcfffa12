/- The fragment of a text: the reference's walk. -/
import Derived.Test.YtnngklclehffhaaDoorWPf
namespace Go.Proofs.YtnngklclehffhaaDoor
open Go.RowKit
set_option maxHeartbeats 1000000
set_option maxRecDepth 100000
theorem rdS3_at {W : World} {r : Value} {B : Nat} {L : List ByteArray} (h : W.ownsRow B 9 1 r L.length (vStrs L)) (hn : 0 < L.length) : ∃ b c, r = .slice (some ⟨b, 0, none⟩) L.length c ∧ b < W.heap.size ∧ ∀ i, i < L.length → W.cell? ⟨b, i, none⟩ = some (.string (L.getD i ByteArray.empty)) := by
  obtain ⟨b, c, rfl, h1, h2⟩ := World.ownsRow.form h hn
  exact ⟨b, c, rfl, h2, fun i hi => (h.cellAt i (by omega)).trans (vStrs_get L i hi)⟩
/-- The two blank variables. -/
def PfS (w W : World) : Prop := Ext w W ∧ W.heap[w.heap.size]? = some (.cells #[.int .i64 0, .int .i64 0, .int .i64 0, .string ⟨#[]⟩] 43 (0, 0)) ∧ W.heap[w.heap.size + 1]? = some (.cells #[.int .i64 0, .int .i64 0, .int .i64 0, .string ⟨#[]⟩] 43 (0, 0))
theorem PfS.ext {w W W' : World} (h : PfS w W) (hx : Ext W W') : PfS w W' := ⟨h.1.trans hx, blkx h.2.1 hx, blkx h.2.2 hx⟩
theorem PfS.set {w W : World} {Q i : Nat} (h : PfS w W) (hQ : w.heap.size + 2 ≤ Q) (u : Value) : PfS w (W.setCell ⟨Q, i, none⟩ u) :=
  ⟨h.1.setCell (by dsimp only; omega) _, set_other h.2.1 (by dsimp only; omega) _, set_other h.2.2 (by dsimp only; omega) _⟩
theorem box4_set3 {w : World} {B t : Nat} {a b c d : Value} (h : w.heap[B]? = some (.cells #[a, b, c, d] t (0, 0))) (d' : Value) :
    (w.setCell ⟨B, 3, none⟩ d').heap[B]? = some (.cells #[a, b, c, d'] t (0, 0)) := by
  have h1 := heap_setCell_same _ B 3 _ t d' h
  simpa using h1
theorem spec_ParseFragment (s : ByteArray) (w : World) (h : s.size ≤ 1048576) :
    Calls Tryd.prog 34 #[.string s] w fun e w' => e = .returned (.tuple #[.agg #[.int .i64 (pfF (PFs s)).n, .int .i64 (pfF (PFs s)).p, .int .i64 (pfF (PFs s)).q, .string (pfF (PFs s)).d], .bool (PFs s).isSome]) ∧ Ext w w' := by
  have hs1 := hid (fun w => spec_l1Split s 58 58 rfl w h)
  have hdef : PFs s = if PFb s && (decide ((PFpt s).length = 2) && ((PFn s).isSome && ((PFp s).isSome && ((PFq s).isSome && (okF (PFf s) && decide (fraT (PFf s) = s)))))) then some (PFf s) else none := rfl
  have hbdef : PFb s = (decide (s.size ≤ 40) && (decide ((splS s 58).length ≤ 2) && decide ((PFdt s).length = 2))) := rfl
  have hfdef : PFf s = ⟨(PFn s).getD 0, (PFp s).getD 0, (PFq s).getD 0, PFd s⟩ := rfl
  have hddef : PFd s = if (splS s 58).length = 2 then (splS s 58).getD 1 ByteArray.empty else ⟨#[]⟩ := rfl
  have hp1 := splS_pos s 58
  have hs2 := hid (fun w h => spec_l1Split ((splS s 58).getD 0 ByteArray.empty) 46 46 rfl w h)
  have hs3 := hid (fun w h => spec_l1Split ((PFdt s).getD 1 ByteArray.empty) 47 47 rfl w h)
  have hrn := hid (fun w h => spec_l1Read ((PFdt s).getD 0 ByteArray.empty) w h)
  have hrp := hid (fun w h => spec_l1Read ((PFpt s).getD 0 ByteArray.empty) w h)
  have hrq := hid (fun w h => spec_l1Read ((PFpt s).getD 1 ByteArray.empty) w h)
  have k0 := splS_at (s := s) (b := 58) 0 hp1
  have k1 : ∀ i, i < (splS s 58).length → ((splS s 58).getD i ByteArray.empty).size ≤ s.size := fun i hi => splS_at i hi
  have kd : ∀ i, i < (PFdt s).length → ((PFdt s).getD i ByteArray.empty).size ≤ s.size := fun i hi => Nat.le_trans (splS_at i hi) k0
  have kp : ∀ i, i < (PFpt s).length → (PFdt s).length = 2 → ((PFpt s).getD i ByteArray.empty).size ≤ s.size := fun i hi h2 => Nat.le_trans (splS_at i hi) (kd 1 (by omega))
  have hp2 : 0 < (PFdt s).length := splS_pos _ _
  have hp3 : 0 < (PFpt s).length := splS_pos _ _
  rw [show pI ((PFdt s).getD 0 ByteArray.empty) = PFn s from rfl] at hrn
  rw [show pI ((PFpt s).getD 0 ByteArray.empty) = PFp s from rfl] at hrp
  rw [show pI ((PFpt s).getD 1 ByteArray.empty) = PFq s from rfl] at hrq
  rw [show splS ((splS s 58).getD 0 ByteArray.empty) 46 = PFdt s from rfl] at hs2
  rw [show splS ((PFdt s).getD 1 ByteArray.empty) 47 = PFpt s from rfl] at hs3
  generalize PFs s = O at *
  generalize PFb s = BB at *
  rw [hfdef] at hdef
  clear hfdef
  generalize (PFn s).getD 0 = n at *
  generalize (PFp s).getD 0 = p at *
  generalize (PFq s).getD 0 = q at *
  generalize (PFn s).isSome = bn at *
  generalize (PFp s).isSome = bp at *
  generalize (PFq s).isSome = bq at *
  generalize PFd s = D at *
  generalize PFdt s = DT at *
  generalize PFpt s = PT at *
  generalize splS s 58 = SP at *
  have ES : Hid (∃ S0 S1 D0 D1 P0 P1 : ByteArray, (SP.getD 0 ByteArray.empty = S0 ∧ SP.getD 1 ByteArray.empty = S1) ∧ (DT.getD 0 ByteArray.empty = D0 ∧ DT.getD 1 ByteArray.empty = D1) ∧ (PT.getD 0 ByteArray.empty = P0 ∧ PT.getD 1 ByteArray.empty = P1)) := ⟨_, _, _, _, _, _, ⟨rfl, rfl⟩, ⟨rfl, rfl⟩, rfl, rfl⟩
  obtain ⟨S0, S1, D0, D1, P0, P1, ⟨eS0, eS1⟩, ⟨eD0, eD1⟩, eP0, eP1⟩ := ES.out
  clear ES
  rw [eS0] at hs2 k0
  rw [eD1] at hs3
  rw [eD0] at hrn
  rw [eP0] at hrp
  rw [eP1] at hrq
  rw [eS1] at hddef
  have EE := hid (And.intro (And.intro eS0 eS1) (And.intro (And.intro eD0 eD1) (And.intro eP0 eP1)))
  clear eS0 eS1 eD0 eD1 eP0 eP1
  have Hdef := hid hdef
  have Hb := hid hbdef
  have Hd := hid hddef
  have K1 := hid k1
  have Kd := hid kd
  have Kp := hid kp
  clear hdef hbdef hddef k1 kd kp
  have H0 : Hid (PfS w ((w.alloc (.cells #[.int .i64 0, .int .i64 0, .int .i64 0, .string ⟨#[]⟩] 43)).alloc (.cells #[.int .i64 0, .int .i64 0, .int .i64 0, .string ⟨#[]⟩] 43))) := ⟨(by repeat' (first | exact Ext.refl _ | assumption | refine Ext.alloc ?_ _ | refine Ext.ext ?_ _ | refine Ext.drew ?_ | refine Ext.drewN ?_ _)), heap_old (heap_at _ rfl) _, heap_at _ (by simp)⟩
  go_enter Tryd.func34, Tryd.ntmps34
  go_wp2_with fail
  generalize (w.alloc (.cells #[.int .i64 0, .int .i64 0, .int .i64 0, .string ⟨#[]⟩] 43)).alloc (.cells #[.int .i64 0, .int .i64 0, .int .i64 0, .string ⟨#[]⟩] 43) = W0 at *
  go_at_call 65
  refine (hs1.out _).mono ?_
  rintro e w1 ⟨r, rfl, ho, hx⟩
  obtain ⟨b, c, rfl, hbs, hat⟩ := rdS3_at ho hp1
  have X1 := hid (And.intro (H0.out.ext hx) hat)
  have c0 := hat 0 hp1
  rw [EE.out.1.1] at c0
  clear ho hx hat hs1 H0 hbs
  go_wp2_with fail
  go_at_call 65
  refine (hs2.out _ (by omega)).mono ?_
  rintro e w2 ⟨r, rfl, ho, hx⟩
  obtain ⟨b', c', rfl, hbs, hat⟩ := rdS3_at ho hp2
  have X2 := hid (And.intro (X1.out.1.ext hx) (And.intro (fun i hi => hx.cell (X1.out.2 i hi)) hat))
  clear ho hx hat hs2 X1 c0 hbs
  by_cases q1 : ¬ s.size ≤ 40
  · have t1 : decide ((40 : Int) < (s.size : Int)) = true := by simp; omega
    have t1' : decide (40 < s.size) = true := by simp; omega
    have hbb := Hb.out
    rw [decide_eq_false q1] at hbb
    have HO : Hid (O = none) := by (have h9 := Hdef.out; rw [hbb] at h9; exact h9)
    have XX := hid X2.out.1
    clear X2 hbb Hb Hdef
    obtain ⟨⟨n0, n1, n2, n3⟩, -, -⟩ := box4 XX.out.2.2
    obtain ⟨⟨m0, m1, m2, m3⟩, ⟨g0, g1, g2, g3⟩, hbl⟩ := box4 XX.out.2.1
    go_wp2
    refine bodyPost_ret (results_ct rfl (box4_set (t := 43) XX.out.2.1 _ _ _ _) Tryd.underlying43 rfl (by kernel_rfl) rfl rfl) rfl ⟨(by rw [HO.out]; rfl), ?_⟩
    exact Ext.set4 XX.out.1 (Nat.le_refl _) _ _ _ _
  replace q1 := Decidable.not_not.1 q1
  by_cases q2 : ¬ SP.length ≤ 2
  · have t1 : decide ((40 : Int) < (s.size : Int)) = false := by simp; omega
    have t1' : decide (40 < s.size) = false := by simp; omega
    have t2 : decide ((2 : Int) < (SP.length : Int)) = true := by simp; omega
    have t2' : decide (2 < SP.length) = true := by simp; omega
    have hbb := Hb.out
    rw [decide_eq_false q2, Bool.false_and, Bool.and_false] at hbb
    have HO : Hid (O = none) := by (have h9 := Hdef.out; rw [hbb] at h9; exact h9)
    have XX := hid X2.out.1
    clear X2 hbb Hb Hdef
    obtain ⟨⟨n0, n1, n2, n3⟩, -, -⟩ := box4 XX.out.2.2
    obtain ⟨⟨m0, m1, m2, m3⟩, ⟨g0, g1, g2, g3⟩, hbl⟩ := box4 XX.out.2.1
    go_wp2
    refine bodyPost_ret (results_ct rfl (box4_set (t := 43) XX.out.2.1 _ _ _ _) Tryd.underlying43 rfl (by kernel_rfl) rfl rfl) rfl ⟨(by rw [HO.out]; rfl), ?_⟩
    exact Ext.set4 XX.out.1 (Nat.le_refl _) _ _ _ _
  replace q2 := Decidable.not_not.1 q2
  have t1 : decide ((40 : Int) < (s.size : Int)) = false := by simp; omega
  have t1' : decide (40 < s.size) = false := by simp; omega
  have t2 : decide ((2 : Int) < (SP.length : Int)) = false := by simp; omega
  have t2' : decide (2 < SP.length) = false := by simp; omega
  by_cases q3 : ¬ DT.length = 2
  · have t3 : ((DT.length : Int) != 2) = true := by simp; omega
    have hbb := Hb.out
    rw [decide_eq_false q3, Bool.and_false, Bool.and_false] at hbb
    have HO : Hid (O = none) := by (have h9 := Hdef.out; rw [hbb] at h9; exact h9)
    have XX := hid X2.out.1
    clear X2 hbb Hb Hdef
    obtain ⟨⟨n0, n1, n2, n3⟩, -, -⟩ := box4 XX.out.2.2
    obtain ⟨⟨m0, m1, m2, m3⟩, ⟨g0, g1, g2, g3⟩, hbl⟩ := box4 XX.out.2.1
    go_wp2
    refine bodyPost_ret (results_ct rfl (box4_set (t := 43) XX.out.2.1 _ _ _ _) Tryd.underlying43 rfl (by kernel_rfl) rfl rfl) rfl ⟨(by rw [HO.out]; rfl), ?_⟩
    exact Ext.set4 XX.out.1 (Nat.le_refl _) _ _ _ _
  replace q3 := Decidable.not_not.1 q3
  have hbb := Hb.out
  rw [decide_eq_true q1, decide_eq_true q2, decide_eq_true q3] at hbb
  have hH := Hdef.out
  rw [hbb] at hH
  clear Hdef hbb Hb
  have Hdef : Hid (O = if (decide (PT.length = 2) && (bn && (bp && (bq && (okF ⟨n, p, q, D⟩ && decide (fraT ⟨n, p, q, D⟩ = s)))))) then some ⟨n, p, q, D⟩ else none) := hH
  clear hH
  have d1 := X2.out.2.2 1 (by omega)
  have z1 := Kd.out 1 (by omega)
  have z0 := Kd.out 0 (by omega)
  rw [EE.out.2.1.2] at d1 z1
  rw [EE.out.2.1.1] at z0
  have kp := Kp.out
  go_wp2_with fail
  go_at_call 65
  refine (hs3.out _ (by omega)).mono ?_
  rintro e w3 ⟨r, rfl, ho, hx⟩
  obtain ⟨b'', c'', rfl, hbs, hat⟩ := rdS3_at ho hp3
  have X3 := hid (And.intro (X2.out.1.ext hx) (And.intro (fun i hi => hx.cell (X2.out.2.1 i hi)) (And.intro (fun i hi => hx.cell (X2.out.2.2 i hi)) hat)))
  clear ho hx hat hs3 X2 d1 hbs z1
  by_cases q4 : ¬ PT.length = 2
  · have HO : Hid (O = none) := by (have h9 := Hdef.out; rw [decide_eq_false q4] at h9; exact h9)
    have t3 : ((PT.length : Int) != 2) = true := by simp; omega
    have XX := hid X3.out.1
    clear X3 Hdef
    obtain ⟨⟨n0, n1, n2, n3⟩, -, -⟩ := box4 XX.out.2.2
    obtain ⟨⟨m0, m1, m2, m3⟩, ⟨g0, g1, g2, g3⟩, hbl⟩ := box4 XX.out.2.1
    go_wp2
    refine bodyPost_ret (results_ct rfl (box4_set (t := 43) XX.out.2.1 _ _ _ _) Tryd.underlying43 rfl (by kernel_rfl) rfl rfl) rfl ⟨(by rw [HO.out]; rfl), ?_⟩
    exact Ext.set4 XX.out.1 (Nat.le_refl _) _ _ _ _
  replace q4 := Decidable.not_not.1 q4
  have y0 := kp 0 (by omega) q3
  have y1 := kp 1 (by omega) q3
  rw [EE.out.2.2.1] at y0
  rw [EE.out.2.2.2] at y1
  have hH := Hdef.out
  rw [decide_eq_true q4] at hH
  clear Hdef Kp kp
  have Hdef : Hid (O = if (bn && (bp && (bq && (okF ⟨n, p, q, D⟩ && decide (fraT ⟨n, p, q, D⟩ = s))))) then some ⟨n, p, q, D⟩ else none) := hH
  clear hH
  have d0 := X3.out.2.2.1 0 (by omega)
  rw [EE.out.2.1.1] at d0
  go_wp2_with fail
  go_at_call 66
  refine (hrn.out _ (by omega)).mono ?_
  rintro e w4 ⟨rfl, hx⟩
  have X4 := hid (And.intro (X3.out.1.ext hx) (And.intro (fun i hi => hx.cell (X3.out.2.1 i hi)) (fun i hi => hx.cell (X3.out.2.2.2 i hi))))
  clear hx X3 d0 hrn
  have d0 := X4.out.2.2 0 (by omega)
  rw [EE.out.2.2.1] at d0
  go_wp2_with fail
  go_at_call 66
  refine (hrp.out _ (by omega)).mono ?_
  rintro e w5 ⟨rfl, hx⟩
  have X5 := hid (And.intro (X4.out.1.ext hx) (And.intro (fun i hi => hx.cell (X4.out.2.1 i hi)) (fun i hi => hx.cell (X4.out.2.2 i hi))))
  clear hx X4 d0 hrp
  have d0 := X5.out.2.2 1 (by omega)
  rw [EE.out.2.2.2] at d0
  go_wp2_with fail
  go_at_call 66
  refine (hrq.out _ (by omega)).mono ?_
  rintro e w6 ⟨rfl, hx⟩
  have X6 := hid (And.intro (X5.out.1.ext hx) (fun i hi => hx.cell (X5.out.2.1 i hi)))
  clear hx X5 d0 hrq
  by_cases q5 : SP.length = 2
  · have hD := Hd.out
    rw [if_pos q5] at hD
    have hDs := hid (Nat.le_trans (K1.out 1 (by omega)) h)
    have s1 := X6.out.2 1 (by omega)
    rw [EE.out.1.2] at hDs s1
    have t5 : ((SP.length : Int) == 2) = true := by simp; omega
    rw [← hD] at hDs s1
    clear Hd K1
    subst hD
    have HB : (w6.alloc (.cells #[.int .i64 n, .int .i64 p, .int .i64 q, .string D] 43)).heap[w6.heap.size]? = some (.cells #[.int .i64 n, .int .i64 p, .int .i64 q, .string D] 43 (0, 0)) := heap_at _ rfl
    have hx7 : Ext w6 (w6.alloc (.cells #[.int .i64 n, .int .i64 p, .int .i64 q, .string D] 43)) := (by repeat' (first | exact Ext.refl _ | assumption | refine Ext.alloc ?_ _ | refine Ext.ext ?_ _ | refine Ext.drew ?_ | refine Ext.drewN ?_ _))
    have X8 := hid (X6.out.1.ext hx7)
    clear hx7 X6
    obtain ⟨⟨b0, b1, b2, b3⟩, -, -⟩ := box4 HB
    cases bn
    · have HO : Hid (O = none) := Hdef.out
      obtain ⟨⟨n0, n1, n2, n3⟩, -, -⟩ := box4 X8.out.2.2
      obtain ⟨⟨m0, m1, m2, m3⟩, ⟨g0, g1, g2, g3⟩, hbl⟩ := box4 X8.out.2.1
      go_wp2
      refine bodyPost_ret (results_ct rfl (box4_set (t := 43) X8.out.2.1 _ _ _ _) Tryd.underlying43 rfl (by kernel_rfl) rfl rfl) rfl ⟨(by rw [HO.out]; rfl), ?_⟩
      exact Ext.set4 X8.out.1 (Nat.le_refl _) _ _ _ _
    cases bp
    · have HO : Hid (O = none) := Hdef.out
      obtain ⟨⟨n0, n1, n2, n3⟩, -, -⟩ := box4 X8.out.2.2
      obtain ⟨⟨m0, m1, m2, m3⟩, ⟨g0, g1, g2, g3⟩, hbl⟩ := box4 X8.out.2.1
      go_wp2
      refine bodyPost_ret (results_ct rfl (box4_set (t := 43) X8.out.2.1 _ _ _ _) Tryd.underlying43 rfl (by kernel_rfl) rfl rfl) rfl ⟨(by rw [HO.out]; rfl), ?_⟩
      exact Ext.set4 X8.out.1 (Nat.le_refl _) _ _ _ _
    cases bq
    · have HO : Hid (O = none) := Hdef.out
      obtain ⟨⟨n0, n1, n2, n3⟩, -, -⟩ := box4 X8.out.2.2
      obtain ⟨⟨m0, m1, m2, m3⟩, ⟨g0, g1, g2, g3⟩, hbl⟩ := box4 X8.out.2.1
      go_wp2
      refine bodyPost_ret (results_ct rfl (box4_set (t := 43) X8.out.2.1 _ _ _ _) Tryd.underlying43 rfl (by kernel_rfl) rfl rfl) rfl ⟨(by rw [HO.out]; rfl), ?_⟩
      exact Ext.set4 X8.out.1 (Nat.le_refl _) _ _ _ _
    have hfr := hid (fun w => spec_l23Fragment n p q D w hDs.out)
    cases e1 : okF ⟨n, p, q, D⟩
    · rw [e1] at hfr
      have HO : Hid (O = none) := by (have h9 := Hdef.out; rw [e1] at h9; exact h9)
      clear e1
      go_wp2_with fail
      go_at_call 51
      refine (hfr.out _).mono ?_
      rintro e w9 ⟨rfl, hx⟩
      have X9 := hid (X8.out.ext hx)
      clear hx
      obtain ⟨⟨n0, n1, n2, n3⟩, -, -⟩ := box4 X9.out.2.2
      obtain ⟨⟨m0, m1, m2, m3⟩, ⟨g0, g1, g2, g3⟩, hbl⟩ := box4 X9.out.2.1
      go_wp2
      refine bodyPost_ret (results_ct rfl (box4_set (t := 43) X9.out.2.1 _ _ _ _) Tryd.underlying43 rfl (by kernel_rfl) rfl rfl) rfl ⟨(by rw [HO.out]; rfl), ?_⟩
      exact Ext.set4 X9.out.1 (Nat.le_refl _) _ _ _ _
    · rw [e1] at hfr
      have hH := Hdef.out
      rw [e1] at hH
      have htx := hid (fun w => spec_l23Text n p q D w e1)
      clear e1
      generalize fraT ⟨n, p, q, D⟩ = T at *
      go_wp2_with fail
      go_at_call 51
      refine (hfr.out _).mono ?_
      rintro e w9 ⟨rfl, hx⟩
      have X9 := hid (X8.out.ext hx)
      replace HB := blkx HB hx
      replace b0 := hx.cell b0
      replace b1 := hx.cell b1
      replace b2 := hx.cell b2
      replace b3 := hx.cell b3
      clear hx hfr
      go_wp2_with fail
      go_at_call 67
      refine (htx.out _).mono ?_
      rintro e w10 ⟨rfl, hx⟩
      have XA := hid (X9.out.ext hx)
      replace HB := blkx HB hx
      replace b0 := hx.cell b0
      replace b1 := hx.cell b1
      replace b2 := hx.cell b2
      replace b3 := hx.cell b3
      clear hx htx X9
      by_cases he : T = s
      · have te := str_yes he
        have HO : Hid (O = some ⟨n, p, q, D⟩) := by (rw [decide_eq_true he] at hH; exact hH)
        clear he hH
        obtain ⟨⟨m0, m1, m2, m3⟩, ⟨g0, g1, g2, g3⟩, hbl⟩ := box4 XA.out.2.1
        go_wp2
        refine bodyPost_ret (results_ct rfl (box4_set (t := 43) XA.out.2.1 _ _ _ _) Tryd.underlying43 rfl (by kernel_rfl) rfl rfl) rfl ⟨(by rw [HO.out]; rfl), ?_⟩
        exact Ext.set4 XA.out.1 (Nat.le_refl _) _ _ _ _
      · have te := str_no he
        have HO : Hid (O = none) := by (rw [decide_eq_false he] at hH; exact hH)
        clear he hH
        obtain ⟨⟨n0, n1, n2, n3⟩, -, -⟩ := box4 XA.out.2.2
        obtain ⟨⟨m0, m1, m2, m3⟩, ⟨g0, g1, g2, g3⟩, hbl⟩ := box4 XA.out.2.1
        go_wp2
        refine bodyPost_ret (results_ct rfl (box4_set (t := 43) XA.out.2.1 _ _ _ _) Tryd.underlying43 rfl (by kernel_rfl) rfl rfl) rfl ⟨(by rw [HO.out]; rfl), ?_⟩
        exact Ext.set4 XA.out.1 (Nat.le_refl _) _ _ _ _
  · have hD := Hd.out
    rw [if_neg q5] at hD
    have hDs : Hid ((⟨#[]⟩ : ByteArray).size ≤ 1048576) := Nat.zero_le _
    have t5 : ((SP.length : Int) == 2) = false := by simp; omega
    clear Hd K1
    subst hD
    have HB : (w6.alloc (.cells #[.int .i64 n, .int .i64 p, .int .i64 q, .string ⟨#[]⟩] 43)).heap[w6.heap.size]? = some (.cells #[.int .i64 n, .int .i64 p, .int .i64 q, .string ⟨#[]⟩] 43 (0, 0)) := heap_at _ rfl
    have hx7 : Ext w6 (w6.alloc (.cells #[.int .i64 n, .int .i64 p, .int .i64 q, .string ⟨#[]⟩] 43)) := (by repeat' (first | exact Ext.refl _ | assumption | refine Ext.alloc ?_ _ | refine Ext.ext ?_ _ | refine Ext.drew ?_ | refine Ext.drewN ?_ _))
    have X8 := hid (X6.out.1.ext hx7)
    clear hx7 X6
    obtain ⟨⟨b0, b1, b2, b3⟩, -, -⟩ := box4 HB
    cases bn
    · have HO : Hid (O = none) := Hdef.out
      obtain ⟨⟨n0, n1, n2, n3⟩, -, -⟩ := box4 X8.out.2.2
      obtain ⟨⟨m0, m1, m2, m3⟩, ⟨g0, g1, g2, g3⟩, hbl⟩ := box4 X8.out.2.1
      go_wp2
      refine bodyPost_ret (results_ct rfl (box4_set (t := 43) X8.out.2.1 _ _ _ _) Tryd.underlying43 rfl (by kernel_rfl) rfl rfl) rfl ⟨(by rw [HO.out]; rfl), ?_⟩
      exact Ext.set4 X8.out.1 (Nat.le_refl _) _ _ _ _
    cases bp
    · have HO : Hid (O = none) := Hdef.out
      obtain ⟨⟨n0, n1, n2, n3⟩, -, -⟩ := box4 X8.out.2.2
      obtain ⟨⟨m0, m1, m2, m3⟩, ⟨g0, g1, g2, g3⟩, hbl⟩ := box4 X8.out.2.1
      go_wp2
      refine bodyPost_ret (results_ct rfl (box4_set (t := 43) X8.out.2.1 _ _ _ _) Tryd.underlying43 rfl (by kernel_rfl) rfl rfl) rfl ⟨(by rw [HO.out]; rfl), ?_⟩
      exact Ext.set4 X8.out.1 (Nat.le_refl _) _ _ _ _
    cases bq
    · have HO : Hid (O = none) := Hdef.out
      obtain ⟨⟨n0, n1, n2, n3⟩, -, -⟩ := box4 X8.out.2.2
      obtain ⟨⟨m0, m1, m2, m3⟩, ⟨g0, g1, g2, g3⟩, hbl⟩ := box4 X8.out.2.1
      go_wp2
      refine bodyPost_ret (results_ct rfl (box4_set (t := 43) X8.out.2.1 _ _ _ _) Tryd.underlying43 rfl (by kernel_rfl) rfl rfl) rfl ⟨(by rw [HO.out]; rfl), ?_⟩
      exact Ext.set4 X8.out.1 (Nat.le_refl _) _ _ _ _
    have hfr := hid (fun w => spec_l23Fragment n p q ⟨#[]⟩ w hDs.out)
    cases e1 : okF ⟨n, p, q, ⟨#[]⟩⟩
    · rw [e1] at hfr
      have HO : Hid (O = none) := by (have h9 := Hdef.out; rw [e1] at h9; exact h9)
      clear e1
      go_wp2_with fail
      go_at_call 51
      refine (hfr.out _).mono ?_
      rintro e w9 ⟨rfl, hx⟩
      have X9 := hid (X8.out.ext hx)
      clear hx
      obtain ⟨⟨n0, n1, n2, n3⟩, -, -⟩ := box4 X9.out.2.2
      obtain ⟨⟨m0, m1, m2, m3⟩, ⟨g0, g1, g2, g3⟩, hbl⟩ := box4 X9.out.2.1
      go_wp2
      refine bodyPost_ret (results_ct rfl (box4_set (t := 43) X9.out.2.1 _ _ _ _) Tryd.underlying43 rfl (by kernel_rfl) rfl rfl) rfl ⟨(by rw [HO.out]; rfl), ?_⟩
      exact Ext.set4 X9.out.1 (Nat.le_refl _) _ _ _ _
    · rw [e1] at hfr
      have hH := Hdef.out
      rw [e1] at hH
      have htx := hid (fun w => spec_l23Text n p q ⟨#[]⟩ w e1)
      clear e1
      generalize fraT ⟨n, p, q, ⟨#[]⟩⟩ = T at *
      go_wp2_with fail
      go_at_call 51
      refine (hfr.out _).mono ?_
      rintro e w9 ⟨rfl, hx⟩
      have X9 := hid (X8.out.ext hx)
      replace HB := blkx HB hx
      replace b0 := hx.cell b0
      replace b1 := hx.cell b1
      replace b2 := hx.cell b2
      replace b3 := hx.cell b3
      clear hx hfr
      go_wp2_with fail
      go_at_call 67
      refine (htx.out _).mono ?_
      rintro e w10 ⟨rfl, hx⟩
      have XA := hid (X9.out.ext hx)
      replace HB := blkx HB hx
      replace b0 := hx.cell b0
      replace b1 := hx.cell b1
      replace b2 := hx.cell b2
      replace b3 := hx.cell b3
      clear hx htx X9
      by_cases he : T = s
      · have te := str_yes he
        have HO : Hid (O = some ⟨n, p, q, ⟨#[]⟩⟩) := by (rw [decide_eq_true he] at hH; exact hH)
        clear he hH
        obtain ⟨⟨m0, m1, m2, m3⟩, ⟨g0, g1, g2, g3⟩, hbl⟩ := box4 XA.out.2.1
        go_wp2
        refine bodyPost_ret (results_ct rfl (box4_set (t := 43) XA.out.2.1 _ _ _ _) Tryd.underlying43 rfl (by kernel_rfl) rfl rfl) rfl ⟨(by rw [HO.out]; rfl), ?_⟩
        exact Ext.set4 XA.out.1 (Nat.le_refl _) _ _ _ _
      · have te := str_no he
        have HO : Hid (O = none) := by (rw [decide_eq_false he] at hH; exact hH)
        clear he hH
        obtain ⟨⟨n0, n1, n2, n3⟩, -, -⟩ := box4 XA.out.2.2
        obtain ⟨⟨m0, m1, m2, m3⟩, ⟨g0, g1, g2, g3⟩, hbl⟩ := box4 XA.out.2.1
        go_wp2
        refine bodyPost_ret (results_ct rfl (box4_set (t := 43) XA.out.2.1 _ _ _ _) Tryd.underlying43 rfl (by kernel_rfl) rfl rfl) rfl ⟨(by rw [HO.out]; rfl), ?_⟩
        exact Ext.set4 XA.out.1 (Nat.le_refl _) _ _ _ _
end Go.Proofs.YtnngklclehffhaaDoor
