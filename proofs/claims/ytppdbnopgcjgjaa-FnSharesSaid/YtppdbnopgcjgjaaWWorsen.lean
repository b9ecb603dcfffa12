/- A link that worsens: both sides. -/
import Derived.Test.YtppdbnopgcjgjaaWClone
import Derived.Test.YtppdbnopgcjgjaaWCM
import Derived.Test.YtppdbnopgcjgjaaWShr0
import Derived.Test.YtppdbnopgcjgjaaWDelay2
import Derived.Laws.ResultCell
namespace Go.Proofs.Ytppdbnopgcjgjaa
open Go.RowKit
set_option maxHeartbeats 400000
set_option maxRecDepth 100000
theorem results_cell_row2 {P : Program} {fn : Func} {p u : Tmp} {ty : TypeId} (h : fn.results = #[.cell p ty, .tmp u]) (tmps : Array Value) (w : World) (g : Nat) (t : TypeId) (cs : Array Value) (fr : Nat × Nat) (d : TypeDesc) (b : Value)
    (hp : tmps.getD p undef = .pointer (some ⟨g, 0, none⟩)) (hb : tmps.getD u undef = b) (hg : w.heap[g]? = some (.cells cs t fr))
    (hu : P.underlying ty = some d) (hd : (match d with | .struct _ | .array _ _ => true | _ => false) = true) (hi : (P.info? ty).map (·.size) = some cs.size) :
    (results fn tmps).run P w = .ok (.tuple #[.agg cs, b]) w := by
  rw [results_cell_tmp h, hp, hb]
  simp [asAddr, Result.andThen, run_loadVar_row w g t ty cs fr d hg hu hd hi]
def worsenB (ps ls ds : List Int) (x y : Int) : Bool := hasC ps ls ds x && !(x == 0) && inB y 0 100
def worsenL (ps ls ds : List Int) (x y : Int) : List Int := if worsenB ps ls ds x y then ls.set x.toNat (min 100 (ls.getD x.toNat 0 + y)) else []
def worsenD (ps ls ds : List Int) (x y : Int) : List Int := if worsenB ps ls ds x y then ds else []
def WorsenPost (ps ls ds : List Int) (x y : Int) (w : World) (e : Ending) (w' : World) : Prop :=
  ∃ r r', e = .returned (.tuple #[.agg #[r, r'], .bool (worsenB ps ls ds x y)]) ∧ w'.ownsRow w.heap.size 3 1 r (worsenL ps ls ds x y).length (vInts (worsenL ps ls ds x y)) ∧
    w'.ownsRow w.heap.size 3 1 r' (worsenD ps ls ds x y).length (vInts (worsenD ps ls ds x y)) ∧ Dis r r' ∧ Ext w w'
theorem worsen_no {ps ls ds : List Int} {x y : Int} {w w' : World} (h : worsenB ps ls ds x y = false) (hx : Ext w w') : WorsenPost ps ls ds x y w (.returned (.tuple #[.agg #[.slice none 0 0, .slice none 0 0], .bool false])) w' := by
  refine ⟨.slice none 0 0, .slice none 0 0, by rw [h], ?_, ?_, .inl rfl, hx⟩
  · rw [worsenL, h]; exact own_nil _ _ _ _
  · rw [worsenD, h]; exact own_nil _ _ _ _
/-- Behind the copies: the box p of the two rows, each of the call's own. -/
def WF (w w0 W : World) (p : Nat) (r r' : Value) (ls ds : List Int) : Prop :=
  W.heap[p]? = some (.cells #[r, r'] 28 (0, 0)) ∧ Ext w W ∧ Ext w0 W ∧ W.ownsRow w0.heap.size 3 1 r ls.length (vInts ls) ∧ W.ownsRow w0.heap.size 3 1 r' ds.length (vInts ds) ∧
    (r.ownBlock ≠ some p) ∧ (∀ j, r'.ownBlock = some j → j ≠ p ∧ r.ownBlock ≠ some j) ∧ w0.heap.size ≤ p
theorem own_apart {w : World} {B e k n : Nat} {v : Value} {cs : List Value} {p : Nat} {a b : Value} {o o' : Nat} (h : w.ownsRow B e k v n cs) (hne : ∀ j, v.ownBlock = some j → j ≠ p) :
    ((w.setCell ⟨p, o, none⟩ a).setCell ⟨p, o', none⟩ b).ownsRow B e k v n cs := by
  refine h.kept (row := some p) (grownBy_trans (grownBy_set _ ⟨p, o, none⟩ _) (grownBy_set _ ⟨p, o', none⟩ _)) ?_
  cases hv : v.ownBlock with
  | none => exact .inl rfl
  | some j => exact .inr fun e => hne j hv (Option.some.inj e)
theorem own_away {w : World} {B e k n g i : Nat} {v : Value} {cs : List Value} (h : w.ownsRow B e k v n cs) (hne : ∀ j, v.ownBlock = some j → j ≠ g) (a : Value) : (w.setCell ⟨g, i, none⟩ a).ownsRow B e k v n cs := by
  refine h.kept (row := some g) (grownBy_set _ ⟨g, i, none⟩ _) ?_
  cases hv : v.ownBlock with
  | none => exact .inl rfl
  | some j => exact .inr fun e => hne j hv (Option.some.inj e)
theorem wf_mk {w w0 W : World} {p g n cap : Nat} {r' : Value} {ls ds : List Int} (HB : W.heap[p]? = some (.cells #[.slice (some ⟨g, 0, none⟩) n cap, r'] 28 (0, 0))) (X : Ext w W) (Y : Ext w0 W)
    (o1 : W.ownsRow w0.heap.size 3 1 (.slice (some ⟨g, 0, none⟩) n cap) ls.length (vInts ls)) (o2 : W.ownsRow w0.heap.size 3 1 r' ds.length (vInts ds)) (hg : g ≠ p) (h2 : ∀ j, r'.ownBlock = some j → j ≠ p ∧ g ≠ j) (hp : w0.heap.size ≤ p) :
    WF w w0 W p (.slice (some ⟨g, 0, none⟩) n cap) r' ls ds :=
  ⟨HB, X, Y, o1, o2, fun e => hg (Option.some.inj e), fun j hj => ⟨(h2 j hj).1, fun e => (h2 j hj).2 (Option.some.inj e)⟩, hp⟩
theorem worsen_yes {ps ls ds : List Int} {i : Nat} {y : Int} {w w' : World} {r r' : Value} (h : worsenB ps ls ds i y = true) (o1 : w'.ownsRow w.heap.size 3 1 r ls.length (vInts (ls.set i (min 100 (ls.getD i 0 + y)))))
    (o2 : w'.ownsRow w.heap.size 3 1 r' ds.length (vInts ds)) (hd : Dis r r') (hx : Ext w w') : WorsenPost ps ls ds i y w (.returned (.tuple #[.agg #[r, r'], .bool true])) w' := by
  have e1 : worsenL ps ls ds i y = ls.set i (min 100 (ls.getD i 0 + y)) := by rw [worsenL, h]; rfl
  have e2 : worsenD ps ls ds i y = ds := by rw [worsenD, h]; rfl
  refine ⟨r, r', by rw [h], ?_, ?_, hd, hx⟩
  · rw [e1, List.length_set]; exact o1
  · rw [e2]; exact o2
theorem own_at {w : World} {base e g n cap i : Nat} {L : List Int} (x : Int) (h : w.ownsRow base e 1 (.slice (some ⟨g, 0, none⟩) n cap) n (vInts L)) (hi : i < L.length) :
    (w.setCell ⟨g, i, none⟩ (.int .i64 x)).ownsRow base e 1 (.slice (some ⟨g, 0, none⟩) n cap) n (vInts (L.set i x)) := by
  have := (own_setCells [.int .i64 x] w (vInts L) i h (by rw [vInts_len]; simp; omega)).1
  have e : vInts (L.set i x) = (vInts L).take i ++ [Value.int .i64 x] ++ (vInts L).drop (i + 1) := by
    rw [vInts, List.map_set, List.set_eq_take_append_cons_drop, if_pos (by simpa using hi)]
    simp [vInts]
  rw [e]
  exact this
theorem impl_WorsenLink (ps ls ds : List Int) (v u u' : Value) (x y : Int) (w : World) (h : Rd w 1 v ps.length (vInts ps)) (k : Rd w 1 u ls.length (vInts ls)) (l : Rd w 1 u' ds.length (vInts ds))
    (h2 : ps.length ≤ 1048576) (k2 : ls.length ≤ 1048576) (l2 : ds.length ≤ 1048576) :
    Calls Try.prog 35 #[.agg #[v], .agg #[u, u'], .int .i64 x, .int .i64 y] w (WorsenPost ps ls ds x y w) := by
  have Hr := hid h
  have Kr := hid k
  have Lr := hid l
  have hc : Hid (∀ (v u u' y : Value) (w : World), Rd w 1 v ps.length (vInts ps) → Rd w 1 u ls.length (vInts ls) → Rd w 1 u' ds.length (vInts ds) → Rd w 1 y 1 [.int .i64 x] →
      Calls Try.prog 41 #[.agg #[v], .agg #[u, u'], y] w fun e w' => e = .returned (.bool (hasC ps ls ds x)) ∧ Ext w w') :=
    fun v u u' y w h k l m => impl_hasCosts_one ps ls ds v u u' y x w h k l m h2 k2 l2
  have hwi : Hid (∀ w, Calls Try.prog 70 #[.int .i64 y, .int .i64 0, .int .i64 100] w fun e w' => e = .returned (.bool (inB y 0 100)) ∧ w = w') := fun w => impl_within y 0 100 w
  have hc1 : Hid (∀ (w : World), Rd w 1 u ls.length (vInts ls) → Calls Try.prog 76 #[u] w fun e w' => ∃ r, e = .returned r ∧ w'.ownsRow w.heap.size 3 1 r ls.length (vInts ls) ∧ Ext w w') := fun w h => slices_Clone ls u w h k2
  have hc2 : Hid (∀ (w : World), Rd w 1 u' ds.length (vInts ds) → Calls Try.prog 76 #[u'] w fun e w' => ∃ r, e = .returned r ∧ w'.ownsRow w.heap.size 3 1 r ds.length (vInts ds) ∧ Ext w w') := fun w h => slices_Clone ds u' w h l2
  clear h k l
  have hlit : Rd ((((w.alloc (.cells #[v] 26)).alloc (.cells #[u, u'] 28)).alloc (.cells #[.slice none 0 0, .slice none 0 0] 28)).alloc (.cells #[.int .i64 x] 3)) 1 (.slice (some ⟨w.heap.size + 1 + 1 + 1, 0, none⟩) 1 1) 1 [.int .i64 x] := by simpa using rd_lit (((w.alloc (.cells #[v] 26)).alloc (.cells #[u, u'] 28)).alloc (.cells #[.slice none 0 0, .slice none 0 0] 28)) #[.int .i64 x]
  have Hlit := hid hlit; clear hlit
  cases hg : worsenB ps ls ds x y
  · have Hno := hid hg
    have hP : ∀ w', Ext w w' → WorsenPost ps ls ds x y w (.returned (.tuple #[.agg #[.slice none 0 0, .slice none 0 0], .bool false])) w' := fun w' hx => worsen_no hg hx
    have HP := hid hP
    rw [worsenB] at hg
    clear hP
    generalize WorsenPost ps ls ds x y w = Post at *
    by_cases g2 : x = 0
    · subst g2
      cases g1 : hasC ps ls ds 0
      all_goals
        rw [g1] at hc
        clear g1 hg
        go_enter Try.func35, Try.ntmps35
        go_wp2_with (first | (go_at_call 41; refine (hc.out _ _ _ _ _ (Hr.out.ext (by repeat' (first | exact Ext.refl _ | assumption | refine Ext.alloc ?_ _ | refine Ext.ext ?_ _ | refine Ext.drew ?_ | refine Ext.drewN ?_ _))) (Kr.out.ext (by repeat' (first | exact Ext.refl _ | assumption | refine Ext.alloc ?_ _ | refine Ext.ext ?_ _ | refine Ext.drew ?_ | refine Ext.drewN ?_ _))) (Lr.out.ext (by repeat' (first | exact Ext.refl _ | assumption | refine Ext.alloc ?_ _ | refine Ext.ext ?_ _ | refine Ext.drew ?_ | refine Ext.drewN ?_ _))) Hlit.out).mono ?_; rintro e w' ⟨rfl, z1, rfl⟩) | (go_at_call 70; refine (hwi.out _).mono ?_; rintro e w' ⟨rfl, rfl⟩))
        refine bodyPost_ret (results_cell_row2 rfl _ _ (w.heap.size + 1 + 1) _ _ (0, 0) _ (.bool false) rfl rfl (box2_set (t := 28) (a := .slice none 0 0) (b := .slice none 0 0) (heap_extd (heap_old (heap_at _ (by simp)) _) _) _ _) Try.underlying28 rfl (by kernel_rfl)) rfl (HP.out _ (Ext.setCell (Ext.setCell (by repeat' (first | exact Ext.refl _ | assumption | refine Ext.alloc ?_ _ | refine Ext.ext ?_ _ | refine Ext.drew ?_ | refine Ext.drewN ?_ _)) (by simp; omega) _) (by simp; omega) _))
    · have t1 : decide (x = 0) = false := by simpa using g2
      cases g3 : inB y 0 100
      all_goals
        rw [g3] at hwi
        cases g1 : hasC ps ls ds x
        all_goals
          try (rw [g1, g3] at hg; simp [g2] at hg; done)
      all_goals
        rw [g1] at hc
        clear g1 hg g3
        go_enter Try.func35, Try.ntmps35
        go_wp2_with (first | (go_at_call 41; refine (hc.out _ _ _ _ _ (Hr.out.ext (by repeat' (first | exact Ext.refl _ | assumption | refine Ext.alloc ?_ _ | refine Ext.ext ?_ _ | refine Ext.drew ?_ | refine Ext.drewN ?_ _))) (Kr.out.ext (by repeat' (first | exact Ext.refl _ | assumption | refine Ext.alloc ?_ _ | refine Ext.ext ?_ _ | refine Ext.drew ?_ | refine Ext.drewN ?_ _))) (Lr.out.ext (by repeat' (first | exact Ext.refl _ | assumption | refine Ext.alloc ?_ _ | refine Ext.ext ?_ _ | refine Ext.drew ?_ | refine Ext.drewN ?_ _))) Hlit.out).mono ?_; rintro e w' ⟨rfl, z1, rfl⟩) | (go_at_call 70; refine (hwi.out _).mono ?_; rintro e w' ⟨rfl, rfl⟩))
        refine bodyPost_ret (results_cell_row2 rfl _ _ (w.heap.size + 1 + 1) _ _ (0, 0) _ (.bool false) rfl rfl (box2_set (t := 28) (a := .slice none 0 0) (b := .slice none 0 0) (heap_extd (heap_old (heap_at _ (by simp)) _) _) _ _) Try.underlying28 rfl (by kernel_rfl)) rfl (HP.out _ (Ext.setCell (Ext.setCell (by repeat' (first | exact Ext.refl _ | assumption | refine Ext.alloc ?_ _ | refine Ext.ext ?_ _ | refine Ext.drew ?_ | refine Ext.drewN ?_ _)) (by simp; omega) _) (by simp; omega) _))
  · have Hyes := hid hg
    rw [worsenB, Bool.and_eq_true, Bool.and_eq_true] at hg
    obtain ⟨⟨g1, g2⟩, g3⟩ := hg
    have g2' : ¬ x = 0 := by simpa using g2
    have t1 : decide (x = 0) = false := by simpa using g2'
    rw [g1] at hc
    rw [g3] at hwi
    obtain ⟨h3, h4, h5⟩ := hasC_iff g1
    have h6 := (goodC_all h3).2.1
    rw [inB_iff] at g3
    have hn : 0 < ls.length := by omega
    have hk3 := (goodC_all h3).2.2.2.1
    obtain ⟨i, rfl⟩ := Int.eq_ofNat_of_zero_le h4
    have hin : i < ls.length := by omega
    have hlo : 0 ≤ ls.getD i 0 ∧ ls.getD i 0 ≤ 100 := by
      have := List.all_eq_true.1 hk3 i (List.mem_range.2 (by omega))
      rw [costOk, Bool.and_eq_true, inB_iff] at this
      exact this.1
    have hwr : IntKind.i64.wrap (ls.getD i 0 + y) = ls.getD i 0 + y := IntWalk.i64_in _ (by omega)
    have H6 := hid h6; clear h6 hk3
    have hP : ∀ r r' w', w'.ownsRow w.heap.size 3 1 r ls.length (vInts (ls.set i (min 100 (ls.getD i 0 + y)))) → w'.ownsRow w.heap.size 3 1 r' ds.length (vInts ds) → Dis r r' → Ext w w' →
        WorsenPost ps ls ds i y w (.returned (.tuple #[.agg #[r, r'], .bool true])) w' := fun r r' w' o1 o2 hd hx => worsen_yes Hyes.out o1 o2 hd hx
    have HP := hid hP
    have HE := hid (vInts_get ls i hin)
    clear hP
    generalize WorsenPost ps ls ds i y w = Post at *
    generalize ls.getD i 0 = x0 at *
    clear g1 g2
    go_enter Try.func35, Try.ntmps35
    go_wp2_with (first | (go_at_call 41; refine (hc.out _ _ _ _ _ (Hr.out.ext (by repeat' (first | exact Ext.refl _ | assumption | refine Ext.alloc ?_ _ | refine Ext.ext ?_ _ | refine Ext.drew ?_ | refine Ext.drewN ?_ _))) (Kr.out.ext (by repeat' (first | exact Ext.refl _ | assumption | refine Ext.alloc ?_ _ | refine Ext.ext ?_ _ | refine Ext.drew ?_ | refine Ext.drewN ?_ _))) (Lr.out.ext (by repeat' (first | exact Ext.refl _ | assumption | refine Ext.alloc ?_ _ | refine Ext.ext ?_ _ | refine Ext.drew ?_ | refine Ext.drewN ?_ _))) Hlit.out).mono ?_; rintro e w' ⟨rfl, z1, rfl⟩) | (go_at_call 70; refine (hwi.out _).mono ?_; rintro e w' ⟨rfl, rfl⟩))
    generalize hW0 : (((((w.alloc (.cells #[v] 26)).alloc (.cells #[u, u'] 28)).alloc (.cells #[.slice none 0 0, .slice none 0 0] 28)).alloc (.cells #[.int .i64 i] 3)).ext z1) = w0 at *
    have XB : Ext w w0 := by rw [← hW0]; exact (by repeat' (first | exact Ext.refl _ | assumption | refine Ext.alloc ?_ _ | refine Ext.ext ?_ _ | refine Ext.drew ?_ | refine Ext.drewN ?_ _))
    have b0 : w0.heap[w.heap.size + 1]? = some (.cells #[u, u'] 28 (0, 0)) := by rw [← hW0]; exact heap_extd (heap_old (heap_old (heap_at _ (by simp)) _) _) _
    have r0 : w0.heap[w.heap.size + 1 + 1]? = some (.cells #[.slice none 0 0, .slice none 0 0] 28 (0, 0)) := by rw [← hW0]; exact heap_extd (heap_old (heap_at _ (by simp)) _) _
    obtain ⟨⟨c0, c1⟩, -, -⟩ := box2 b0
    have hs0 := (Array.getElem?_eq_some_iff.1 r0).1
    have R0 := hid r0
    clear hW0 b0 r0
    have X1 : Ext w w0.drew := XB.drew
    have d0 := (Ext.refl w0).drew.cell c0
    have d1 := (Ext.refl w0).drew.cell c1
    go_region_held3 (fun w' => w'.cell? ⟨w.heap.size + 1, 0, none⟩ = some u ∧ w'.cell? ⟨w.heap.size + 1, 1, none⟩ = some u') (first | exact ⟨c0, c1⟩ | exact ⟨(show Ext w0 _ from (by repeat' (first | exact Ext.refl _ | assumption | refine Ext.alloc ?_ _ | refine Ext.ext ?_ _ | refine Ext.drew ?_ | (refine Ext.setCell ?_ (by first | exact Ext.size (by assumption) | (simp; done) | (simp; omega)) _)))).cell c0, (show Ext w0 _ from (by repeat' (first | exact Ext.refl _ | assumption | refine Ext.alloc ?_ _ | refine Ext.ext ?_ _ | refine Ext.drew ?_ | (refine Ext.setCell ?_ (by first | exact Ext.size (by assumption) | (simp; done) | (simp; omega)) _)))).cell c1⟩)
      (first
        | (go_at_call 76; (with_reducible refine (hc1.out _ (Kr.out.ext (XB.trans (by repeat' (first | exact Ext.refl _ | assumption | refine Ext.alloc ?_ _ | refine Ext.ext ?_ _ | refine Ext.drew ?_ | (refine Ext.setCell ?_ (by first | exact Ext.size (by assumption) | (simp; done) | (simp; omega)) _)))))).mono ?_); rintro e w1 ⟨r1, rfl, ho1, hx1⟩; obtain ⟨g, cap, rfl⟩ := own_form ho1 hn; have Y1 : Ext w0 w1 := (show Ext w0 _ from (by repeat' (first | exact Ext.refl _ | assumption | refine Ext.alloc ?_ _ | refine Ext.ext ?_ _ | refine Ext.drew ?_ | (refine Ext.setCell ?_ (by first | exact Ext.size (by assumption) | (simp; done) | (simp; omega)) _)))).trans hx1; (try (have HB1 := hid ((hx1.heap (by simp)).trans (heap_at (w := w0.drew) (k := w0.heap.size) (.cells #[.slice none 0 0, .slice none 0 0] 28 (0, 0)) rfl)); obtain ⟨⟨m0, m1⟩, ⟨m2, m3⟩, -⟩ := box2 HB1.out)))
        | (go_at_call 76; (with_reducible refine (hc2.out _ (Lr.out.ext (XB.trans (by repeat' (first | exact Ext.refl _ | assumption | refine Ext.alloc ?_ _ | refine Ext.ext ?_ _ | refine Ext.drew ?_ | (refine Ext.setCell ?_ (by first | exact Ext.size (by assumption) | (simp; done) | (simp; omega)) _)))))).mono ?_); rintro e w2 ⟨r2, rfl, ho2, hx2⟩; obtain ⟨p2, cap2, rfl⟩ := own_shape ho2; have Y2 : Ext w0 w2 := (show Ext w0 _ from (by repeat' (first | exact Ext.refl _ | assumption | refine Ext.alloc ?_ _ | refine Ext.ext ?_ _ | refine Ext.drew ?_ | (refine Ext.setCell ?_ (by first | exact Ext.size (by assumption) | (simp; done) | (simp; omega)) _)))).trans hx2; (try (have HB2 := hid ((hx2.heap (by simp)).trans (heap_at (w := w1) (.cells #[.slice none 0 0, .slice none 0 0] 28 (0, 0)) rfl)); obtain ⟨⟨m0, m1⟩, ⟨m2, m3⟩, -⟩ := box2 HB2.out)); (try (have HB2 := hid ((hx2.heap (Array.getElem?_eq_some_iff.1 HB1.out).1).trans HB1.out); obtain ⟨⟨m0, m1⟩, ⟨m2, m3⟩, -⟩ := box2 HB2.out))))
    · have HB := heap_at (w := w2) (k := w2.heap.size) (.cells #[.slice (some ⟨g, 0, none⟩) ls.length cap, .slice p2 ds.length cap2] 28) rfl
      have q1 := own_size ho1
      have q2 := own_row ho2
      have q3 := hx2.size
      have q4 := Y2.size
      simp at q1 q2 q3
      have K := hid (wf_mk HB ((XB.trans Y2).alloc _) (Y2.alloc _) (own_mono (own_ext (own_ext ho1 hx2) ((Ext.refl _).alloc _)) (by simp)) (own_mono (own_ext ho2 ((Ext.refl _).alloc _)) Y1.size) (by omega) (fun j hj => by have := q2 j hj; omega) (by omega))
      clear ho1 ho2 hx1 hx2 Y1 Y2 q1 q2 q3 q4 HB
      generalize (w2.alloc (.cells #[.slice (some ⟨g, 0, none⟩) ls.length cap, .slice p2 ds.length cap2] 28)) = W at K ⊢
      obtain ⟨HB, XW, YW, o1, o2, hn1, hn2, hp⟩ := K.out
      obtain ⟨⟨a0, a1⟩, ⟨a2, a3⟩, -⟩ := box2 HB
      have ec := (o1.cellAt i (by omega)).trans HE.out
      have fz := (own_cell o1 i (by omega)).2
      have n0 : (0 : Int) ≤ (i : Int) := by omega
      have n1 : (i : Int) < (ls.length : Int) := by omega
      have RW := (YW.heap hs0).trans R0.out
      go_wp2
      go_region
      have o1' := (own_at (min 100 (x0 + y)) o1 hin).drew
      have o2' : (W.setCell ⟨g, i, none⟩ (.int .i64 (min 100 (x0 + y)))).drew.ownsRow _ _ _ _ _ _ := (own_away o2 (fun j hj => fun e => (hn2 j hj).2 (by subst e; rfl)) (.int .i64 (min 100 (x0 + y)))).drew
      have HB' : (W.setCell ⟨g, i, none⟩ (.int .i64 (min 100 (x0 + y)))).drew.heap[_]? = _ := set_other (p := ⟨g, i, none⟩) HB (fun e => hn1 (by rw [e]; rfl)) (.int .i64 (min 100 (x0 + y)))
      have hgg := (own_size o1).1
      have RW' : (W.setCell ⟨g, i, none⟩ (.int .i64 (min 100 (x0 + y)))).drew.heap[_]? = _ := set_other (p := ⟨g, i, none⟩) RW (by show _ ≠ g; omega) (.int .i64 (min 100 (x0 + y)))
      have XW' := (XW.setCell (p := ⟨g, i, none⟩) (by have := XB.size; show _ ≤ g; omega) (.int .i64 (min 100 (x0 + y)))).drew
      have hdis : Dis (.slice (some ⟨g, 0, none⟩) ls.length cap) (.slice p2 ds.length cap2) := .inr (fun e => (hn2 g e.symm).2 rfl)
      clear K HB RW XW YW o1 o2 a0 a1 a2 a3 ec fz hn1 hn2
      generalize (W.setCell ⟨g, i, none⟩ (.int .i64 (min 100 (x0 + y)))).drew = W2 at *
      obtain ⟨⟨a0, a1⟩, -, -⟩ := box2 HB'
      obtain ⟨⟨a2, a3⟩, ⟨a4, a5⟩, l5⟩ := box2 RW'
      have K2 := hid (And.intro o1' (And.intro o2' (And.intro RW' (And.intro XW' hdis))))
      clear o1' o2' RW' XW' HB' hdis
      go_wp2
      obtain ⟨o1', o2', RW', XW', hdis⟩ := K2.out
      refine bodyPost_ret (results_cell_row2 rfl _ _ (w.heap.size + 1 + 1) _ _ (0, 0) _ (.bool true) rfl rfl (box2_set RW' _ _) Try.underlying28 rfl (by kernel_rfl)) rfl (HP.out _ _ _ ?_ ?_ hdis ?_)
      · exact own_mono (own_set (own_set o1' (by show _ < _; omega) _) (by show _ < _; omega) _) XB.size
      · exact own_mono (own_set (own_set o2' (by show _ < _; omega) _) (by show _ < _; omega) _) XB.size
      · exact (XW'.setCell (p := ⟨w.heap.size + 1 + 1, 0, none⟩) (by show w.heap.size ≤ w.heap.size + 1 + 1; omega) _).setCell (p := ⟨w.heap.size + 1 + 1, 1, none⟩) (by show w.heap.size ≤ w.heap.size + 1 + 1; omega) _
    · have HB := box2_set (t := 28) HB2.out (.slice (some ⟨g, 0, none⟩) ls.length cap) (.slice p2 ds.length cap2)
      have q1 := own_size ho1
      have q2 := own_row ho2
      have q3 := hx2.size
      have q4 := Y1.size
      have q5 := XB.size
      simp at q1 q2 q3
      have K := hid (wf_mk HB (((XB.trans Y2).setCell (by simp; omega) _).setCell (by simp; omega) _) ((Y2.setCell (by simp; omega) _).setCell (by simp; omega) _)
        (own_apart (own_mono (own_ext ho1 (((Ext.refl _).alloc _).trans hx2)) (by simp)) (by intro j hj; cases hj; show g ≠ _; omega)) (own_apart (own_mono ho2 (by simp; omega)) (by intro j hj; have := q2 j hj; omega))
        (by omega) (fun j hj => by have := q2 j hj; omega) (by omega))
      clear ho1 ho2 hx1 hx2 Y1 Y2 q1 q2 q3 q4 HB
      generalize ((w2.setCell ⟨w1.heap.size, 0, none⟩ (.slice (some ⟨g, 0, none⟩) ls.length cap)).setCell ⟨w1.heap.size, 1, none⟩ (.slice p2 ds.length cap2)) = W at K ⊢
      obtain ⟨HB, XW, YW, o1, o2, hn1, hn2, hp⟩ := K.out
      obtain ⟨⟨a0, a1⟩, ⟨a2, a3⟩, -⟩ := box2 HB
      have ec := (o1.cellAt i (by omega)).trans HE.out
      have fz := (own_cell o1 i (by omega)).2
      have n0 : (0 : Int) ≤ (i : Int) := by omega
      have n1 : (i : Int) < (ls.length : Int) := by omega
      have RW := (YW.heap hs0).trans R0.out
      go_wp2
      go_region
      have o1' := (own_at (min 100 (x0 + y)) o1 hin).drew
      have o2' : (W.setCell ⟨g, i, none⟩ (.int .i64 (min 100 (x0 + y)))).drew.ownsRow _ _ _ _ _ _ := (own_away o2 (fun j hj => fun e => (hn2 j hj).2 (by subst e; rfl)) (.int .i64 (min 100 (x0 + y)))).drew
      have HB' : (W.setCell ⟨g, i, none⟩ (.int .i64 (min 100 (x0 + y)))).drew.heap[_]? = _ := set_other (p := ⟨g, i, none⟩) HB (fun e => hn1 (by rw [e]; rfl)) (.int .i64 (min 100 (x0 + y)))
      have hgg := (own_size o1).1
      have RW' : (W.setCell ⟨g, i, none⟩ (.int .i64 (min 100 (x0 + y)))).drew.heap[_]? = _ := set_other (p := ⟨g, i, none⟩) RW (by show _ ≠ g; omega) (.int .i64 (min 100 (x0 + y)))
      have XW' := (XW.setCell (p := ⟨g, i, none⟩) (by have := XB.size; show _ ≤ g; omega) (.int .i64 (min 100 (x0 + y)))).drew
      have hdis : Dis (.slice (some ⟨g, 0, none⟩) ls.length cap) (.slice p2 ds.length cap2) := .inr (fun e => (hn2 g e.symm).2 rfl)
      clear K HB RW XW YW o1 o2 a0 a1 a2 a3 ec fz hn1 hn2
      generalize (W.setCell ⟨g, i, none⟩ (.int .i64 (min 100 (x0 + y)))).drew = W2 at *
      obtain ⟨⟨a0, a1⟩, -, -⟩ := box2 HB'
      obtain ⟨⟨a2, a3⟩, ⟨a4, a5⟩, l5⟩ := box2 RW'
      have K2 := hid (And.intro o1' (And.intro o2' (And.intro RW' (And.intro XW' hdis))))
      clear o1' o2' RW' XW' HB' hdis
      go_wp2
      obtain ⟨o1', o2', RW', XW', hdis⟩ := K2.out
      refine bodyPost_ret (results_cell_row2 rfl _ _ (w.heap.size + 1 + 1) _ _ (0, 0) _ (.bool true) rfl rfl (box2_set RW' _ _) Try.underlying28 rfl (by kernel_rfl)) rfl (HP.out _ _ _ ?_ ?_ hdis ?_)
      · exact own_mono (own_set (own_set o1' (by show _ < _; omega) _) (by show _ < _; omega) _) XB.size
      · exact own_mono (own_set (own_set o2' (by show _ < _; omega) _) (by show _ < _; omega) _) XB.size
      · exact (XW'.setCell (p := ⟨w.heap.size + 1 + 1, 0, none⟩) (by show w.heap.size ≤ w.heap.size + 1 + 1; omega) _).setCell (p := ⟨w.heap.size + 1 + 1, 1, none⟩) (by show w.heap.size ≤ w.heap.size + 1 + 1; omega) _
    · have HB := box2_set (t := 28) HB2.out (.slice (some ⟨g, 0, none⟩) ls.length cap) (.slice p2 ds.length cap2)
      have q1 := own_size ho1
      have q2 := own_row ho2
      have q3 := hx2.size
      have q4 := Y1.size
      have q5 := XB.size
      simp at q1 q2 q3
      have K := hid (wf_mk HB (((XB.trans Y2).setCell (by simp; omega) _).setCell (by simp; omega) _) ((Y2.setCell (by simp) _).setCell (by simp) _)
        (own_apart (own_mono (own_ext ho1 hx2) (by simp)) (by intro j hj; cases hj; show g ≠ _; omega)) (own_apart (own_mono ho2 Y1.size) (by intro j hj; have := q2 j hj; omega))
        (by omega) (fun j hj => by have := q2 j hj; omega) (by omega))
      clear ho1 ho2 hx1 hx2 Y1 Y2 q1 q2 q3 q4 HB
      generalize ((w2.setCell ⟨w0.heap.size, 0, none⟩ (.slice (some ⟨g, 0, none⟩) ls.length cap)).setCell ⟨w0.heap.size, 1, none⟩ (.slice p2 ds.length cap2)) = W at K ⊢
      obtain ⟨HB, XW, YW, o1, o2, hn1, hn2, hp⟩ := K.out
      obtain ⟨⟨a0, a1⟩, ⟨a2, a3⟩, -⟩ := box2 HB
      have ec := (o1.cellAt i (by omega)).trans HE.out
      have fz := (own_cell o1 i (by omega)).2
      have n0 : (0 : Int) ≤ (i : Int) := by omega
      have n1 : (i : Int) < (ls.length : Int) := by omega
      have RW := (YW.heap hs0).trans R0.out
      go_wp2
      go_region
      have o1' := (own_at (min 100 (x0 + y)) o1 hin).drew
      have o2' : (W.setCell ⟨g, i, none⟩ (.int .i64 (min 100 (x0 + y)))).drew.ownsRow _ _ _ _ _ _ := (own_away o2 (fun j hj => fun e => (hn2 j hj).2 (by subst e; rfl)) (.int .i64 (min 100 (x0 + y)))).drew
      have HB' : (W.setCell ⟨g, i, none⟩ (.int .i64 (min 100 (x0 + y)))).drew.heap[_]? = _ := set_other (p := ⟨g, i, none⟩) HB (fun e => hn1 (by rw [e]; rfl)) (.int .i64 (min 100 (x0 + y)))
      have hgg := (own_size o1).1
      have RW' : (W.setCell ⟨g, i, none⟩ (.int .i64 (min 100 (x0 + y)))).drew.heap[_]? = _ := set_other (p := ⟨g, i, none⟩) RW (by show _ ≠ g; omega) (.int .i64 (min 100 (x0 + y)))
      have XW' := (XW.setCell (p := ⟨g, i, none⟩) (by have := XB.size; show _ ≤ g; omega) (.int .i64 (min 100 (x0 + y)))).drew
      have hdis : Dis (.slice (some ⟨g, 0, none⟩) ls.length cap) (.slice p2 ds.length cap2) := .inr (fun e => (hn2 g e.symm).2 rfl)
      clear K HB RW XW YW o1 o2 a0 a1 a2 a3 ec fz hn1 hn2
      generalize (W.setCell ⟨g, i, none⟩ (.int .i64 (min 100 (x0 + y)))).drew = W2 at *
      obtain ⟨⟨a0, a1⟩, -, -⟩ := box2 HB'
      obtain ⟨⟨a2, a3⟩, ⟨a4, a5⟩, l5⟩ := box2 RW'
      have K2 := hid (And.intro o1' (And.intro o2' (And.intro RW' (And.intro XW' hdis))))
      clear o1' o2' RW' XW' HB' hdis
      go_wp2
      obtain ⟨o1', o2', RW', XW', hdis⟩ := K2.out
      refine bodyPost_ret (results_cell_row2 rfl _ _ (w.heap.size + 1 + 1) _ _ (0, 0) _ (.bool true) rfl rfl (box2_set RW' _ _) Try.underlying28 rfl (by kernel_rfl)) rfl (HP.out _ _ _ ?_ ?_ hdis ?_)
      · exact own_mono (own_set (own_set o1' (by show _ < _; omega) _) (by show _ < _; omega) _) XB.size
      · exact own_mono (own_set (own_set o2' (by show _ < _; omega) _) (by show _ < _; omega) _) XB.size
      · exact (XW'.setCell (p := ⟨w.heap.size + 1 + 1, 0, none⟩) (by show w.heap.size ≤ w.heap.size + 1 + 1; omega) _).setCell (p := ⟨w.heap.size + 1 + 1, 1, none⟩) (by show w.heap.size ≤ w.heap.size + 1 + 1; omega) _
end Go.Proofs.Ytppdbnopgcjgjaa
