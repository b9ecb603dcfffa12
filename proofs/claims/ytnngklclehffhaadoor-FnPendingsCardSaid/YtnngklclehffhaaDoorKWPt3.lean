/- A fragment taken: the reference's l23With. -/
import Derived.Test.YtnngklclehffhaaDoorKWPt2
import Derived.Laws.IdiomCopy
import Derived.Shelf.Spec.SlicesInsert
namespace Go.Proofs.YtnngklclehffhaaDoor
open Go.RowKit
set_option maxHeartbeats 1000000
set_option maxRecDepth 100000
/-- A variable that holds a pending of its own rows. -/
def WfT (w wx : World) (n : Int) (q B g1 g2 : Nat) (i : Int) (d : ByteArray) (D : List ByteArray) (H : List Bool) : Prop :=
  wx.heap[B]? = some (.cells #[.int .i64 n, .slice (some ⟨g1, 0, none⟩) q q, .slice (some ⟨g2, 0, none⟩) q q] 62 (0, 0)) ∧
  (wx.ownsRow w.heap.size 9 1 (.slice (some ⟨g1, 0, none⟩) q q) q (vStrs D) ∧ wx.ownsRow w.heap.size 4 1 (.slice (some ⟨g2, 0, none⟩) q q) q (vBools H)) ∧
  (wx.heap[w.heap.size + 1]? = some (.cells #[.int .i64 n, .int .i64 i, .int .i64 q, .string d] 43 (0, 0)) ∧ wx.heap[w.heap.size + 1 + 1]? = some (.cells #[.int .i64 0, .slice none 0 0, .slice none 0 0] 62 (0, 0))) ∧ Ext w wx
def sl3 (q g1 g2 : Nat) (n : Int) : Array Value := #[.int .i64 n, .slice (some ⟨g1, 0, none⟩) q q, .slice (some ⟨g2, 0, none⟩) q q]
theorem wF_def (p : Pnd) (n : Int) (i q : Nat) (d : ByteArray) {D : List ByteArray} {H : List Bool} (h : (if p.h.length = q then (⟨n, p.d, p.h⟩ : Pnd) else frP n q) = ⟨n, D, H⟩) :
    wF p n i q d = if H.getD i false then ⟨n, D, H⟩ else ⟨n, D.set i d, H.set i true⟩ := by rw [wF, h, stF]
theorem wF_n (p : Pnd) (n : Int) (i q : Nat) (d : ByteArray) : (wF p n i q d).n = n := by
  rw [wF, stF]
  by_cases h : p.h.length = q
  · rw [if_pos h]; split <;> rfl
  · rw [if_neg h]; split <;> rfl
theorem own_set_cells {w : World} {base e n g : Nat} {xs ys : List Value} (ho : w.ownsRow base e 1 (.slice (some ⟨g, 0, none⟩) n n) n xs) (hl : ys.length = n) :
    (w.setCells g 0 ys).ownsRow base e 1 (.slice (some ⟨g, 0, none⟩) n n) n ys ∧ w.grownBy (w.setCells g 0 ys) (some g) := by
  have hx := ho.1
  have h := own_setCells ys w xs 0 ho (by omega)
  refine ⟨?_, h.2⟩
  have e : xs.take 0 ++ ys ++ xs.drop (0 + ys.length) = ys := by rw [List.take_zero, List.nil_append, List.drop_eq_nil_of_le (by omega), List.append_nil]
  rw [e] at h
  exact h.1
theorem WfT.laid {w wx : World} {n : Int} {q B g1 g2 : Nat} {i : Int} {d : ByteArray} {D D' : List ByteArray} {H : List Bool} (h : WfT w wx n q B g1 g2 i d D H) (hD : D'.length = q) (hne : B ≠ g1 ∧ B ≠ g2 ∧ g1 ≠ g2) (hg : w.heap.size + 3 ≤ g1) :
    WfT w (wx.setCells g1 0 (vStrs D')) n q B g1 g2 i d D' H := by
  obtain ⟨h1, ⟨h2, h3⟩, ⟨h4, h5⟩, h6⟩ := h
  have hs := own_set_cells h2 (ys := vStrs D') (by rw [vStrs_len, hD])
  refine ⟨blk_grown h1 hs.2 (fun e => hne.1 (Option.some.inj e).symm), ⟨hs.1, own_kept h3 hs.2 (fun j e e2 => by cases e; exact hne.2.2 (Option.some.inj e2))⟩, ⟨blk_grown h4 hs.2 (fun e => by have := Option.some.inj e; omega), blk_grown h5 hs.2 (fun e => by have := Option.some.inj e; omega)⟩, Ext.grown h6 hs.2 (fun j e => by cases e; omega)⟩
theorem WfT.laidB {w wx : World} {n : Int} {q B g1 g2 : Nat} {i : Int} {d : ByteArray} {D : List ByteArray} {H H' : List Bool} (h : WfT w wx n q B g1 g2 i d D H) (hD : H'.length = q) (hne : B ≠ g1 ∧ B ≠ g2 ∧ g1 ≠ g2) (hg : w.heap.size + 3 ≤ g2) :
    WfT w (wx.setCells g2 0 (vBools H')) n q B g1 g2 i d D H' := by
  obtain ⟨h1, ⟨h2, h3⟩, ⟨h4, h5⟩, h6⟩ := h
  have hs := own_set_cells h3 (ys := vBools H') (by rw [vBools_len, hD])
  refine ⟨blk_grown h1 hs.2 (fun e => hne.2.1 (Option.some.inj e).symm), ⟨own_kept h2 hs.2 (fun j e e2 => by cases e; exact hne.2.2 (Option.some.inj e2).symm), hs.1⟩, ⟨blk_grown h4 hs.2 (fun e => by have := Option.some.inj e; omega), blk_grown h5 hs.2 (fun e => by have := Option.some.inj e; omega)⟩, Ext.grown h6 hs.2 (fun j e => by cases e; omega)⟩
theorem WfT.big {w wx : World} {n : Int} {q B g1 g2 : Nat} {i : Int} {d : ByteArray} {D : List ByteArray} {H : List Bool} (h : WfT w wx n q B g1 g2 i d D H) (hq : 1 ≤ q) : g1 < wx.heap.size ∧ g2 < wx.heap.size := by
  obtain ⟨a, b, e1, -, x1⟩ := World.ownsRow.form h.2.1.1 hq
  obtain ⟨a', b', e2, -, x2⟩ := World.ownsRow.form h.2.1.2 hq
  cases e1
  cases e2
  exact ⟨x1, x2⟩
theorem WfT.setB {w wx : World} {n : Int} {q B g1 g2 : Nat} {i : Int} {d : ByteArray} {D : List ByteArray} {H : List Bool} (h : WfT w wx n q B g1 g2 i d D H) (hne : B ≠ g1 ∧ B ≠ g2 ∧ g1 ≠ g2) (hg : w.heap.size + 3 ≤ g2) (k : Nat) (x : Bool) :
    WfT w (wx.setCell ⟨g2, k, none⟩ (.bool x)) n q B g1 g2 i d D (H.set k x) := by
  obtain ⟨h1, ⟨h2, h3⟩, ⟨h4, h5⟩, h6⟩ := h
  have hs := World.ownsRow.stored h3 k (.bool x)
  rw [WfT, vBools_set]
  refine ⟨blk_grown h1 hs.2 (fun e => hne.2.1 (Option.some.inj e).symm), ⟨own_kept h2 hs.2 (fun j e e2 => by cases e; exact hne.2.2 (Option.some.inj e2).symm), hs.1⟩, ⟨blk_grown h4 hs.2 (fun e => by have := Option.some.inj e; omega), blk_grown h5 hs.2 (fun e => by have := Option.some.inj e; omega)⟩, Ext.grown h6 hs.2 (fun j e => by cases e; omega)⟩
theorem WfT.setS {w wx : World} {n : Int} {q B g1 g2 : Nat} {i : Int} {d : ByteArray} {D : List ByteArray} {H : List Bool} (h : WfT w wx n q B g1 g2 i d D H) (hne : B ≠ g1 ∧ B ≠ g2 ∧ g1 ≠ g2) (hg : w.heap.size + 3 ≤ g1) (k : Nat) (x : ByteArray) :
    WfT w (wx.setCell ⟨g1, k, none⟩ (.string x)) n q B g1 g2 i d (D.set k x) H := by
  obtain ⟨h1, ⟨h2, h3⟩, ⟨h4, h5⟩, h6⟩ := h
  have hs := World.ownsRow.stored h2 k (.string x)
  rw [WfT, vStrs_set]
  refine ⟨blk_grown h1 hs.2 (fun e => hne.1 (Option.some.inj e).symm), ⟨hs.1, own_kept h3 hs.2 (fun j e e2 => by cases e; exact hne.2.2 (Option.some.inj e2))⟩, ⟨blk_grown h4 hs.2 (fun e => by have := Option.some.inj e; omega), blk_grown h5 hs.2 (fun e => by have := Option.some.inj e; omega)⟩, Ext.grown h6 hs.2 (fun j e => by cases e; omega)⟩
theorem own_aw {w : World} {B e k n g i : Nat} {v : Value} {cs : List Value} (h : w.ownsRow B e k v n cs) (hne : ∀ j, v.ownBlock = some j → j ≠ g) (a : Value) : (w.setCell ⟨g, i, none⟩ a).ownsRow B e k v n cs :=
  own_kept h (grownBy_set w ⟨g, i, none⟩ a) (fun j e e2 => hne j e (Option.some.inj e2).symm)
theorem rd_cells1 {w : World} {n c b off : Nat} {cs : List Value} (h : Rd w 1 (.slice (some ⟨b, off, none⟩) n c) n cs) (hn : 0 < n) : ∀ j u, cs[j]? = some u → w.cell? ((⟨b, off, none⟩ : Addr).add j) = some u := by
  obtain ⟨hl, p, c', e, h4⟩ := h
  cases e
  intro j u hu
  obtain ⟨b', off', e, hc⟩ := h4.resolve_left (by omega)
  cases e
  obtain ⟨hj, rfl⟩ := List.getElem?_eq_some_iff.1 hu
  rw [Addr.add_lit]
  exact hc j hj
theorem spec_l23With (pn : Int) (pd : List ByteArray) (ph : List Bool) (u v : Value) (n : Int) (i q : Nat) (d : ByteArray) (w : World) (hu : Rd w 1 u pd.length (vStrs pd)) (hv : Rd w 1 v ph.length (vBools ph)) (hpd : pd.length = ph.length) (hq : q ≤ 9) (hi : i < q) :
    Calls Tryd.prog 52 #[.agg #[.int .i64 pn, u, v], .agg #[.int .i64 n, .int .i64 i, .int .i64 q, .string d]] w fun e w' => ∃ g1 g2, e = .returned (.agg #[.int .i64 n, .slice (some ⟨g1, 0, none⟩) q q, .slice (some ⟨g2, 0, none⟩) q q]) ∧
      (w'.ownsRow w.heap.size 9 1 (.slice (some ⟨g1, 0, none⟩) q q) q (vStrs (wF ⟨pn, pd, ph⟩ n i q d).d) ∧ w'.ownsRow w.heap.size 4 1 (.slice (some ⟨g2, 0, none⟩) q q) q (vBools (wF ⟨pn, pd, ph⟩ n i q d).h)) ∧ (g1 ≠ g2 ∧ g1 < w'.heap.size ∧ g2 < w'.heap.size) ∧ Ext w w' := by
  have mk1 := run_mkS q (by omega)
  have mk2 := run_mkB q (by omega)
  obtain ⟨p, cap, rfl, h4⟩ := rd_block hu
  obtain ⟨p', cap', rfl, h4'⟩ := rd_block hv
  have Hu := hid hu
  have Hv := hid hv
  have H4 := hid h4
  have H4' := hid h4'
  obtain ⟨WD, WH, hWD, hWH⟩ : ∃ WD WH, (wF ⟨pn, pd, ph⟩ n i q d).d = WD ∧ (wF ⟨pn, pd, ph⟩ n i q d).h = WH := ⟨_, _, rfl, rfl⟩
  rw [hWD, hWH]
  have HW := hid (And.intro hWD hWH)
  have Hpd := hid hpd
  have X0 : Ext w (((w.alloc (.cells #[.int .i64 pn, .slice p pd.length cap, .slice p' ph.length cap'] 62)).alloc (.cells #[.int .i64 n, .int .i64 i, .int .i64 q, .string d] 43)).alloc (.cells #[.int .i64 0, .slice none 0 0, .slice none 0 0] 62)) := (by repeat' (first | exact Ext.refl _ | assumption | refine Ext.alloc ?_ _ | refine Ext.ext ?_ _ | refine Ext.drew ?_ | (refine Ext.setCell ?_ (by first | exact Ext.size (by assumption) | (simp; done) | (simp; omega)) _)))
  have B1 : (((w.alloc (.cells #[.int .i64 pn, .slice p pd.length cap, .slice p' ph.length cap'] 62)).alloc (.cells #[.int .i64 n, .int .i64 i, .int .i64 q, .string d] 43)).alloc (.cells #[.int .i64 0, .slice none 0 0, .slice none 0 0] 62)).heap[w.heap.size]? = some (.cells #[.int .i64 pn, .slice p pd.length cap, .slice p' ph.length cap'] 62 (0, 0)) := heap_old (heap_old (heap_at _ rfl) _) _
  have B2 : (((w.alloc (.cells #[.int .i64 pn, .slice p pd.length cap, .slice p' ph.length cap'] 62)).alloc (.cells #[.int .i64 n, .int .i64 i, .int .i64 q, .string d] 43)).alloc (.cells #[.int .i64 0, .slice none 0 0, .slice none 0 0] 62)).heap[w.heap.size + 1]? = some (.cells #[.int .i64 n, .int .i64 i, .int .i64 q, .string d] 43 (0, 0)) := heap_old (heap_at _ (by simp)) _
  have B3 : (((w.alloc (.cells #[.int .i64 pn, .slice p pd.length cap, .slice p' ph.length cap'] 62)).alloc (.cells #[.int .i64 n, .int .i64 i, .int .i64 q, .string d] 43)).alloc (.cells #[.int .i64 0, .slice none 0 0, .slice none 0 0] 62)).heap[w.heap.size + 1 + 1]? = some (.cells #[.int .i64 0, .slice none 0 0, .slice none 0 0] 62 (0, 0)) := heap_at _ (by simp)
  clear hu hv h4 h4' hWD hWH hpd
  go_enter Tryd.func52, Tryd.ntmps52
  (go_upto_region 1 with fail)
  generalize hW : (((w.alloc (.cells #[.int .i64 pn, .slice p pd.length cap, .slice p' ph.length cap'] 62)).alloc (.cells #[.int .i64 n, .int .i64 i, .int .i64 q, .string d] 43)).alloc (.cells #[.int .i64 0, .slice none 0 0, .slice none 0 0] 62)) = W at *
  obtain ⟨⟨b0, b1, b2, b3⟩, -, -⟩ := box4 B2
  go_cut [5] (fun s6 wx => ∃ B g1 g2, s6 = .pointer (some ⟨B, 0, none⟩) ∧ Hid (FrS W wx n q B g1 g2))
  case first =>
    go_region_held3 (fun w' => w'.cell? ⟨w.heap.size + 1, 0, none⟩ = some (.int .i64 n) ∧ w'.cell? ⟨w.heap.size + 1, 2, none⟩ = some (.int .i64 q))
      (first | exact ⟨b0, b2⟩ | exact ⟨(show Ext W _ from (by repeat' (first | exact Ext.refl _ | assumption | refine Ext.alloc ?_ _ | refine Ext.ext ?_ _ | refine Ext.drew ?_ | (refine Ext.setCell ?_ (by first | exact Ext.size (by assumption) | (simp; done) | (simp; omega)) _)))).cell b0, (show Ext W _ from (by repeat' (first | exact Ext.refl _ | assumption | refine Ext.alloc ?_ _ | refine Ext.ext ?_ _ | refine Ext.drew ?_ | (refine Ext.setCell ?_ (by first | exact Ext.size (by assumption) | (simp; done) | (simp; omega)) _)))).cell b2⟩) (fail)
    all_goals
      go_wp2_with fail
      go_meet
      exact ⟨_, _, _, rfl, ⟨(by repeat' (first | exact Ext.refl _ | assumption | refine Ext.alloc ?_ _ | refine Ext.ext ?_ _ | refine Ext.drew ?_ | refine Ext.drewN ?_ _)), (by first | exact heap_at_d _ (by simp) | exact heap_old_d (heap_at _ (by simp)) _ | exact heap_old_d (heap_old (heap_at _ (by simp)) _) _), ⟨(by first | exact heap_at_d _ (by simp) | exact heap_old_d (heap_at _ (by simp)) _ | exact heap_old_d (heap_old (heap_at _ (by simp)) _) _), (by first | exact heap_at_d _ (by simp) | exact heap_old_d (heap_at _ (by simp)) _ | exact heap_old_d (heap_old (heap_at _ (by simp)) _) _)⟩, ⟨by omega, by omega, by omega⟩, ⟨by omega, by omega, by omega⟩⟩⟩
  obtain ⟨B, g1, g2, rfl, HF⟩ := hcut
  generalize wc = w1 at *
  have hWs : W.heap.size = w.heap.size + 3 := by rw [← hW]; simp
  have hF1 := HF.out.1
  have hbd := HF.out.2.2.2.1
  have hne := HF.out.2.2.2.2
  rw [hWs] at hbd
  have XP := hid (X0.trans hF1)
  have HP := hid (blk3 B1 hF1)
  have HT0 : Hid (WfT w w1 n q B g1 g2 i d (List.replicate q ByteArray.empty) (List.replicate q false)) :=
    ⟨HF.out.2.1, ⟨own_full_at HF.out.2.2.1.1 (by omega) (by rw [vStrs_len, List.length_replicate]) (by unfold maxLen; omega), own_full_at HF.out.2.2.1.2 (by omega) (by rw [vBools_len, List.length_replicate]) (by unfold maxLen; omega)⟩, ⟨blk3 B2 hF1, blk3 B3 hF1⟩, XP.out⟩
  clear b0 b1 b2 b3 B1 B2 B3 mk1 mk2 HF hF1 hW X0 hWs
  obtain ⟨⟨b0, b1, b2⟩, -, -⟩ := box3 HT0.out.1
  obtain ⟨⟨f0, f1, f2, f3⟩, -, -⟩ := box4 HT0.out.2.2.1.1
  obtain ⟨⟨p0, p1, p2⟩, -, -⟩ := box3 HP.out
  by_cases hlen : ph.length = q
  · have hpl : pd.length = q := by rw [Hpd.out, hlen]
    have tq : ((ph.length : Int) == (q : Int)) = true := by simp; omega
    obtain ⟨b, off, rfl⟩ := H4.out.resolve_left (by omega)
    obtain ⟨b', off', rfl⟩ := H4'.out.resolve_left (by omega)
    have Ru : Rd w1 1 (.slice (some ⟨b, off, none⟩) pd.length cap) pd.length (vStrs pd) := Hu.out.ext XP.out
    have hlt : ∀ k o, w.cell? ⟨k, o, none⟩ ≠ none → k < w.heap.size := fun k o h => by
      rcases Nat.lt_or_ge k w.heap.size with h1 | h1
      · exact h1
      · exact absurd (by simp [World.cell?, h1]) h
    have s1 : (Tryd.prog.info? 9).map (·.size) = some 1 := by (obtain ⟨i0, hi0, -, hz1, -⟩ := info_parts infoStr; rw [hi0]; simp [hz1])
    have s2 : (Tryd.prog.info? 4).map (·.size) = some 1 := by (obtain ⟨i0, hi0, -, hz1, -⟩ := info_parts infoBool; rw [hi0]; simp [hz1])
    have HT1 := HT0.out.laid (D' := pd) hpl hne hbd.2.1
    have HT2 := HT1.laidB (H' := ph) hlen hne hbd.2.2
    have cp1 : ∀ ty, (Builtin.copy_ #[58, 58] ty #[.slice (some ⟨g1, 0, none⟩) q q, .slice (some ⟨b, off, none⟩) pd.length cap]).run Tryd.prog w1 = .ok (goInt (vStrs pd).length) (w1.setCells g1 0 (vStrs pd)) := fun ty =>
      run_copy_cells w1 _ _ ty 9 g1 0 q q ⟨b, off, none⟩ pd.length cap (vStrs pd) Tryd.underlying58 s1 (by rw [vStrs_len, hpl]; exact (Nat.min_self q).symm) (rd_cells1 Ru (by omega))
        (fun j hj => by rw [Nat.zero_add]; obtain ⟨⟨x, hx⟩, -⟩ := own_cell HT0.out.2.1.1 j (by rw [vStrs_len] at hj; omega); rw [hx]; rfl) (fun j _ => HT0.out.2.1.1.frozenAt _) (one_strs pd)
    have Rv : Rd (w1.setCells g1 0 (vStrs pd)) 1 (.slice (some ⟨b', off', none⟩) ph.length cap') ph.length (vBools ph) := Hv.out.ext HT1.2.2.2
    have cp2 : ∀ ty, (Builtin.copy_ #[59, 59] ty #[.slice (some ⟨g2, 0, none⟩) q q, .slice (some ⟨b', off', none⟩) ph.length cap']).run Tryd.prog (w1.setCells g1 0 (vStrs pd)) = .ok (goInt (vBools ph).length) ((w1.setCells g1 0 (vStrs pd)).setCells g2 0 (vBools ph)) := fun ty =>
      run_copy_cells _ _ _ ty 4 g2 0 q q ⟨b', off', none⟩ ph.length cap' (vBools ph) Tryd.underlying59 s2 (by rw [vBools_len, hlen]; exact (Nat.min_self q).symm) (rd_cells1 Rv (by omega))
        (fun j hj => by rw [Nat.zero_add]; obtain ⟨⟨x, hx⟩, -⟩ := own_cell HT1.2.1.2 j (by rw [vBools_len] at hj; omega); rw [hx]; rfl) (fun j _ => HT1.2.1.2.frozenAt _) (one_bools ph)
    obtain ⟨w2, hw2⟩ : ∃ w2, w1.setCells g1 0 (vStrs pd) = w2 := ⟨_, rfl⟩
    have HPs : Hid (w2.heap[w.heap.size]? = some (.cells #[.int .i64 pn, .slice (some ⟨b, off, none⟩) pd.length cap, .slice (some ⟨b', off', none⟩) ph.length cap'] 62 (0, 0))) := by
      show _ = _
      rw [← hw2]
      exact blk_grown HP.out (own_set_cells HT0.out.2.1.1 (ys := vStrs pd) (by rw [vStrs_len, hpl])).2 (fun e => by have := Option.some.inj e; omega)
    rw [hw2] at cp1 cp2 HT1 HT2
    obtain ⟨w3, hw3⟩ : ∃ w3, w2.setCells g2 0 (vBools ph) = w3 := ⟨_, rfl⟩
    rw [hw3] at cp2 HT2
    have HE : Hid ((if ph.length = q then (⟨n, pd, ph⟩ : Pnd) else frP n q) = ⟨n, pd, ph⟩) := (if_pos hlen)
    have HL : Hid (pd.length = q ∧ ph.length = q) := ⟨hpl, hlen⟩
    have g2' := f2
    have x1 := b1
    have x2 := b2
    obtain ⟨⟨k0, k1, k2⟩, -, -⟩ := box3 HT1.1
    obtain ⟨⟨m0, m1, m2⟩, -, -⟩ := box3 HPs.out
    have HT := hid HT2
    clear HT1 HT2 Ru Rv s1 s2 hw2 hw3 hlen hpl hlt HP HT0 Hu Hv H4 H4' HPs
    obtain ⟨⟨b0, b1, b2⟩, -, -⟩ := box3 HT.out.1
    obtain ⟨⟨f0, f1, f2, f3⟩, -, -⟩ := box4 HT.out.2.2.1.1
    obtain ⟨⟨r0, r1, r2⟩, ⟨z0, z1, z2⟩, -⟩ := box3 HT.out.2.2.1.2
    have cb : (w3).cell? ⟨g2, i, none⟩ = some (.bool ((ph).getD i false)) := (HT.out.2.1.2.cellAt i (by omega)).trans (vBools_get _ i (by rw [HL.out.2]; exact hi))
    have n2 : (0 : Int) ≤ (i : Int) := by omega
    have n3 : (i : Int) < (q : Int) := by omega
    have hwd := hid (wF_def ⟨pn, pd, ph⟩ n i q d HE.out)
    cases hb : (ph).getD i false
    · rw [hb] at cb
      have hwf : Hid (wF ⟨pn, pd, ph⟩ n i q d = ⟨n, (pd).set i d, (ph).set i true⟩) := by (show _ = _; rw [hwd.out, hb]; rfl)
      have fb := HT.out.2.1.2.frozenAt i
      have HT4 := hid (HT.out.setB hne hbd.2.2 i true)
      obtain ⟨-, fs⟩ := own_cell HT4.out.2.1.1 i (by omega)
      obtain ⟨⟨us, cs⟩, -⟩ := own_cell HT4.out.2.1.1 i (by omega)
      have HT5 := hid (HT4.out.setS hne hbd.2.1 i d)
      obtain ⟨⟨b0', b1', b2'⟩, -, -⟩ := box3 HT4.out.1
      obtain ⟨⟨f0', f1', f2', f3'⟩, -, -⟩ := box4 HT4.out.2.2.1.1
      obtain ⟨⟨c0, c1, c2⟩, -, -⟩ := box3 HT5.out.1
      obtain ⟨⟨s0, s1, s2⟩, ⟨y0, y1, y2⟩, -⟩ := box3 HT5.out.2.2.1.2
      clear HT hwd HE hb
      go_wp2_with (first | (at_builtin; refine wpList_copy_runI _ rfl _ _ _ _ rfl _ _ rfl rfl (cp1 _) ?_) | (at_builtin; refine wpList_copy_runI _ rfl _ _ _ _ rfl _ _ rfl rfl (cp2 _) ?_) | fail)
      refine bodyPost_ret (results_cell_row rfl _ _ (w.heap.size + 1 + 1) _ _ (0, 0) _ rfl (box3_set (t := 62) HT5.out.2.2.1.2 _ _ _) Tryd.underlying62 rfl (by kernel_rfl)) rfl ?_
      obtain ⟨q1, q2⟩ := HW.out
      have hR1 : ∀ j, (Value.slice (some ⟨g1, 0, none⟩) q q).ownBlock = some j → j ≠ w.heap.size + 1 + 1 := (fun j e => by cases e; dsimp only; omega)
      have hR2 : ∀ j, (Value.slice (some ⟨g2, 0, none⟩) q q).ownBlock = some j → j ≠ w.heap.size + 1 + 1 := (fun j e => by cases e; dsimp only; omega)
      have hsz := HT5.out.big (by omega)
      rw [← q1, ← q2, hwf.out]
      exact ⟨g1, g2, rfl, ⟨own_aw (own_aw (own_aw HT5.out.2.1.1 hR1 _) hR1 _) hR1 _, own_aw (own_aw (own_aw HT5.out.2.1.2 hR2 _) hR2 _) hR2 _⟩, ⟨hne.2.2, by simpa using hsz.1, by simpa using hsz.2⟩, ((HT5.out.2.2.2.setCell (by dsimp only; omega) _).setCell (by dsimp only; omega) _).setCell (by dsimp only; omega) _⟩
    · rw [hb] at cb
      have hwf : Hid (wF ⟨pn, pd, ph⟩ n i q d = ⟨n, pd, ph⟩) := by (show _ = _; rw [hwd.out, hb]; rfl)
      clear hwd HE hb
      go_wp2_with (first | (at_builtin; refine wpList_copy_runI _ rfl _ _ _ _ rfl _ _ rfl rfl (cp1 _) ?_) | (at_builtin; refine wpList_copy_runI _ rfl _ _ _ _ rfl _ _ rfl rfl (cp2 _) ?_) | fail)
      refine bodyPost_ret (results_cell_row rfl _ _ (w.heap.size + 1 + 1) _ _ (0, 0) _ rfl (box3_set (t := 62) HT.out.2.2.1.2 _ _ _) Tryd.underlying62 rfl (by kernel_rfl)) rfl ?_
      obtain ⟨q1, q2⟩ := HW.out
      have hR1 : ∀ j, (Value.slice (some ⟨g1, 0, none⟩) q q).ownBlock = some j → j ≠ w.heap.size + 1 + 1 := (fun j e => by cases e; dsimp only; omega)
      have hR2 : ∀ j, (Value.slice (some ⟨g2, 0, none⟩) q q).ownBlock = some j → j ≠ w.heap.size + 1 + 1 := (fun j e => by cases e; dsimp only; omega)
      have hsz := HT.out.big (by omega)
      rw [← q1, ← q2, hwf.out]
      exact ⟨g1, g2, rfl, ⟨own_aw (own_aw (own_aw HT.out.2.1.1 hR1 _) hR1 _) hR1 _, own_aw (own_aw (own_aw HT.out.2.1.2 hR2 _) hR2 _) hR2 _⟩, ⟨hne.2.2, by simpa using hsz.1, by simpa using hsz.2⟩, ((HT.out.2.2.2.setCell (by dsimp only; omega) _).setCell (by dsimp only; omega) _).setCell (by dsimp only; omega) _⟩
  · have tq : ((ph.length : Int) == (q : Int)) = false := by simp; omega
    have HE : Hid ((if ph.length = q then (⟨n, pd, ph⟩ : Pnd) else frP n q) = ⟨n, List.replicate q ByteArray.empty, List.replicate q false⟩) := (if_neg hlen)
    have HL : Hid ((List.replicate q ByteArray.empty).length = q ∧ (List.replicate q false).length = q) := ⟨List.length_replicate .., List.length_replicate ..⟩
    have HT := HT0
    clear HT0 hlen HP Hu Hv H4 H4' b0 b1 b2 f0 f1 f2 f3
    generalize List.replicate q ByteArray.empty = D at *
    generalize List.replicate q false = H at *
    obtain ⟨⟨b0, b1, b2⟩, -, -⟩ := box3 HT.out.1
    obtain ⟨⟨f0, f1, f2, f3⟩, -, -⟩ := box4 HT.out.2.2.1.1
    obtain ⟨⟨r0, r1, r2⟩, ⟨z0, z1, z2⟩, -⟩ := box3 HT.out.2.2.1.2
    have cb : (w1).cell? ⟨g2, i, none⟩ = some (.bool ((H).getD i false)) := (HT.out.2.1.2.cellAt i (by omega)).trans (vBools_get _ i (by rw [HL.out.2]; exact hi))
    have n2 : (0 : Int) ≤ (i : Int) := by omega
    have n3 : (i : Int) < (q : Int) := by omega
    have hwd := hid (wF_def ⟨pn, pd, ph⟩ n i q d HE.out)
    cases hb : (H).getD i false
    · rw [hb] at cb
      have hwf : Hid (wF ⟨pn, pd, ph⟩ n i q d = ⟨n, (D).set i d, (H).set i true⟩) := by (show _ = _; rw [hwd.out, hb]; rfl)
      have fb := HT.out.2.1.2.frozenAt i
      have HT4 := hid (HT.out.setB hne hbd.2.2 i true)
      obtain ⟨-, fs⟩ := own_cell HT4.out.2.1.1 i (by omega)
      obtain ⟨⟨us, cs⟩, -⟩ := own_cell HT4.out.2.1.1 i (by omega)
      have HT5 := hid (HT4.out.setS hne hbd.2.1 i d)
      obtain ⟨⟨b0', b1', b2'⟩, -, -⟩ := box3 HT4.out.1
      obtain ⟨⟨f0', f1', f2', f3'⟩, -, -⟩ := box4 HT4.out.2.2.1.1
      obtain ⟨⟨c0, c1, c2⟩, -, -⟩ := box3 HT5.out.1
      obtain ⟨⟨s0, s1, s2⟩, ⟨y0, y1, y2⟩, -⟩ := box3 HT5.out.2.2.1.2
      clear HT hwd HE hb
      go_wp2
      refine bodyPost_ret (results_cell_row rfl _ _ (w.heap.size + 1 + 1) _ _ (0, 0) _ rfl (box3_set (t := 62) HT5.out.2.2.1.2 _ _ _) Tryd.underlying62 rfl (by kernel_rfl)) rfl ?_
      obtain ⟨q1, q2⟩ := HW.out
      have hR1 : ∀ j, (Value.slice (some ⟨g1, 0, none⟩) q q).ownBlock = some j → j ≠ w.heap.size + 1 + 1 := (fun j e => by cases e; dsimp only; omega)
      have hR2 : ∀ j, (Value.slice (some ⟨g2, 0, none⟩) q q).ownBlock = some j → j ≠ w.heap.size + 1 + 1 := (fun j e => by cases e; dsimp only; omega)
      have hsz := HT5.out.big (by omega)
      rw [← q1, ← q2, hwf.out]
      exact ⟨g1, g2, rfl, ⟨own_aw (own_aw (own_aw HT5.out.2.1.1 hR1 _) hR1 _) hR1 _, own_aw (own_aw (own_aw HT5.out.2.1.2 hR2 _) hR2 _) hR2 _⟩, ⟨hne.2.2, by simpa using hsz.1, by simpa using hsz.2⟩, ((HT5.out.2.2.2.setCell (by dsimp only; omega) _).setCell (by dsimp only; omega) _).setCell (by dsimp only; omega) _⟩
    · rw [hb] at cb
      have hwf : Hid (wF ⟨pn, pd, ph⟩ n i q d = ⟨n, D, H⟩) := by (show _ = _; rw [hwd.out, hb]; rfl)
      clear hwd HE hb
      go_wp2
      refine bodyPost_ret (results_cell_row rfl _ _ (w.heap.size + 1 + 1) _ _ (0, 0) _ rfl (box3_set (t := 62) HT.out.2.2.1.2 _ _ _) Tryd.underlying62 rfl (by kernel_rfl)) rfl ?_
      obtain ⟨q1, q2⟩ := HW.out
      have hR1 : ∀ j, (Value.slice (some ⟨g1, 0, none⟩) q q).ownBlock = some j → j ≠ w.heap.size + 1 + 1 := (fun j e => by cases e; dsimp only; omega)
      have hR2 : ∀ j, (Value.slice (some ⟨g2, 0, none⟩) q q).ownBlock = some j → j ≠ w.heap.size + 1 + 1 := (fun j e => by cases e; dsimp only; omega)
      have hsz := HT.out.big (by omega)
      rw [← q1, ← q2, hwf.out]
      exact ⟨g1, g2, rfl, ⟨own_aw (own_aw (own_aw HT.out.2.1.1 hR1 _) hR1 _) hR1 _, own_aw (own_aw (own_aw HT.out.2.1.2 hR2 _) hR2 _) hR2 _⟩, ⟨hne.2.2, by simpa using hsz.1, by simpa using hsz.2⟩, ((HT.out.2.2.2.setCell (by dsimp only; omega) _).setCell (by dsimp only; omega) _).setCell (by dsimp only; omega) _⟩
end Go.Proofs.YtnngklclehffhaaDoor
