/- Costs of paths that are drawn. -/
import Derived.Test.YtppdbnopgcjgjaaWCurL
import Derived.Test.YtppdbnopgcjgjaaWShr
import Derived.Maps.AppendAt
import Derived.Deep.DeepCutAuto
namespace Go.Proofs.Ytppdbnopgcjgjaa
open Go.RowKit
set_option maxHeartbeats 2000000
set_option maxRecDepth 100000
/-- While costs are drawn. -/
def PcD (w W : World) (lo B : Nat) (v : Value) (bs : List Int) (A : Nat) (t ul ud : Value) (ls ds : List Int) : Prop :=
  (Dr w W lo B v bs A ∧ W.heap[w.heap.size]? = some (.cells #[t] 26 (0, 0)) ∧ W.heap[w.heap.size + 1]? = some (.cells #[.slice none 0 0, .slice none 0 0] 28 (0, 0)) ∧ W.heap[w.heap.size + 2]? = some (.cells #[ul, ud] 28 (0, 0))) ∧
  W.ownsRow (w.heap.size + 3) 3 1 ul ls.length (vInts ls) ∧ W.ownsRow (w.heap.size + 3) 3 1 ud ds.length (vInts ds) ∧ (∀ j, ul.ownBlock = some j → ud.ownBlock ≠ some j)
theorem PcD.step {w W W' : World} {lo B A A' : Nat} {v t ul ud : Value} {bs ls ds : List Int} (h : PcD w W lo B v bs A t ul ud ls ds) (hc : Cs W' lo B v bs A') (hg : W.grownBy W' (some B)) : PcD w W' lo B v bs A' t ul ud ls ds :=
  ⟨⟨h.1.1.step hc hg, blk_step h.1.1 h.1.2.1 (by omega) hg, blk_step h.1.1 h.1.2.2.1 (by omega) hg, blk_step h.1.1 h.1.2.2.2 (by omega) hg⟩, own_step h.1.1 h.2.1 (by omega) hg, own_step h.1.1 h.2.2.1 (by omega) hg, h.2.2.2⟩
theorem PcD.ext {w W W' : World} {lo B A : Nat} {v t ul ud : Value} {bs ls ds : List Int} (h : PcD w W lo B v bs A t ul ud ls ds) (hx : Ext W W') : PcD w W' lo B v bs A t ul ud ls ds := h.step (h.1.1.1.ext hx) (hx.grownBy _)
theorem PcD.more {w W : World} {lo B A A' : Nat} {v t ul ud : Value} {bs ls ds : List Int} (h : PcD w W lo B v bs A t ul ud ls ds) (hA : A ≤ A') : PcD w W lo B v bs A' t ul ud ls ds := ⟨⟨h.1.1.more hA, h.1.2⟩, h.2⟩
theorem blk_far {W : World} {T D : Nat} {o : Obj} {i : Nat} {x : Value} (ho : W.heap[T]? = some o) (hne : T ≠ D) : (W.setCell ⟨D, i, none⟩ x).heap[T]? = some o := set_other ho (by dsimp only; exact hne) _
/-- The losses turned, and laid back. -/
theorem PcD.losses {w W W' : World} {lo B A O : Nat} {v t ul ud u' : Value} {bs ls ds ys : List Int} (h : PcD w W lo B v bs A t ul ud ls ds) (hg : W.grownBy W' ul.ownBlock) (ho : W'.ownsRow (w.heap.size + 3) 3 1 u' ys.length (vInts ys))
    {H : Nat} (hat : u'.ownBlock = ul.ownBlock ∨ u'.ownBlock = some H) (hH : W.heap.size = H) (hO : O = w.heap.size + 2) : PcD w (W'.setCell ⟨O, 0, none⟩ u') lo B v bs A t u' ud ys ds := by
  subst hO
  obtain ⟨⟨h1, h2, h3, h4⟩, h5, h6, h7⟩ := h
  have k2 := blk_grow h2 hg (own_not h5 (by omega))
  have k3 := blk_grow h3 hg (own_not h5 (by omega))
  have k4 := blk_grow h4 hg (own_not h5 (by omega))
  refine ⟨⟨(h1.grow hg (fun j e => Nat.le_trans (by omega) (own_row h5 j e).1)).set (by dsimp only; omega) _, blk_far k2 (by omega), blk_far k3 (by omega), ?_⟩, own_off ho (own_not ho (by omega)), own_off ?_ (own_not h6 (by omega)), fun j e => ?_⟩
  · simpa using heap_setCell_same _ _ 0 _ _ u' k4
  · refine h6.kept hg ?_
    cases he : ud.ownBlock with
    | none => exact .inl rfl
    | some j => exact .inr (fun e => h7 j e.symm he)
  · rcases hat with h8 | h8
    · exact h7 j (by rw [← h8]; exact e)
    · intro e2
      rw [e] at h8
      have := (own_row h6 j e2).2
      have h9 : j = H := Option.some.inj h8
      omega
theorem PcD.delays {w W W' : World} {lo B A O : Nat} {v t ul ud u' : Value} {bs ls ds ys : List Int} (h : PcD w W lo B v bs A t ul ud ls ds) (hg : W.grownBy W' ud.ownBlock) (ho : W'.ownsRow (w.heap.size + 3) 3 1 u' ys.length (vInts ys))
    {H : Nat} (hat : u'.ownBlock = ud.ownBlock ∨ u'.ownBlock = some H) (hH : W.heap.size = H) (hO : O = w.heap.size + 2) : PcD w (W'.setCell ⟨O, 1, none⟩ u') lo B v bs A t ul u' ls ys := by
  subst hO
  obtain ⟨⟨h1, h2, h3, h4⟩, h5, h6, h7⟩ := h
  have k2 := blk_grow h2 hg (own_not h6 (by omega))
  have k3 := blk_grow h3 hg (own_not h6 (by omega))
  have k4 := blk_grow h4 hg (own_not h6 (by omega))
  refine ⟨⟨(h1.grow hg (fun j e => Nat.le_trans (by omega) (own_row h6 j e).1)).set (by dsimp only; omega) _, blk_far k2 (by omega), blk_far k3 (by omega), ?_⟩, own_off ?_ (own_not h5 (by omega)), own_off ho (own_not ho (by omega)), fun j e e2 => ?_⟩
  · simpa using heap_setCell_same _ _ 1 _ _ u' k4
  · refine h5.kept hg ?_
    cases he : ul.ownBlock with
    | none => exact .inl rfl
    | some j => exact .inr (fun e => h7 j he e.symm)
  · rcases hat with h8 | h8
    · exact h7 j e (by rw [← h8]; exact e2)
    · rw [e2] at h8
      have := (own_row h5 j e).2
      have h9 : j = H := Option.some.inj h8
      omega
theorem vInts_set (xs : List Int) (j : Nat) (x : Int) : vInts (xs.set j x) = (vInts xs).set j (.int .i64 x) := by simp [vInts, List.map_set]
/-- One loss turned. -/
theorem PcD.lossAt {w W : World} {lo B A g cap : Nat} {v t ud : Value} {bs ls ds : List Int} (h : PcD w W lo B v bs A t (.slice (some ⟨g, 0, none⟩) ls.length cap) ud ls ds) (j : Nat) (x : Int) :
    PcD w (W.setCell ⟨g, j, none⟩ (.int .i64 x)) lo B v bs A t (.slice (some ⟨g, 0, none⟩) ls.length cap) ud (ls.set j x) ds := by
  obtain ⟨⟨h1, h2, h3, h4⟩, h5, h6, h7⟩ := h
  have hg := (own_row h5 g rfl).1
  have s1 := World.ownsRow.stored h5 j (.int .i64 x)
  refine ⟨⟨h1.set (by dsimp only; omega) _, blk_far h2 (by omega), blk_far h3 (by omega), blk_far h4 (by omega)⟩, ?_, own_off h6 (h7 g rfl), h7⟩
  rw [List.length_set, vInts_set]
  exact s1.1
theorem PcD.delayAt {w W : World} {lo B A g cap : Nat} {v t ul : Value} {bs ls ds : List Int} (h : PcD w W lo B v bs A t ul (.slice (some ⟨g, 0, none⟩) ds.length cap) ls ds) (j : Nat) (x : Int) :
    PcD w (W.setCell ⟨g, j, none⟩ (.int .i64 x)) lo B v bs A t ul (.slice (some ⟨g, 0, none⟩) ds.length cap) ls (ds.set j x) := by
  obtain ⟨⟨h1, h2, h3, h4⟩, h5, h6, h7⟩ := h
  have hg := (own_row h6 g rfl).1
  have s1 := World.ownsRow.stored h6 j (.int .i64 x)
  refine ⟨⟨h1.set (by dsimp only; omega) _, blk_far h2 (by omega), blk_far h3 (by omega), blk_far h4 (by omega)⟩, own_off h5 (fun e => h7 g e rfl), ?_, h7⟩
  rw [List.length_set, vInts_set]
  exact s1.1
theorem vInts_head {ls : List Int} (h : ¬ ls.length = 0) : vInts ls = .int .i64 (ls.getD 0 0) :: vInts (ls.drop 1) := by
  cases ls with
  | nil => exact absurd rfl h
  | cons a l => rfl
theorem slc_form (g n cap : Nat) : ∃ o c, slc (some ⟨g, 0, none⟩) 1 n cap = .slice (some ⟨g, o, none⟩) (n - 1) c := by
  unfold slc
  split
  · exact ⟨_, _, rfl⟩
  · exact ⟨1, _, rfl⟩
/-- What is drawn in the end. -/
theorem PcD.res {w W : World} {lo B A : Nat} {v t ul ud l d : Value} {bs ls ds xs ys : List Int} (h : PcD w W lo B v bs A t ul ud ls ds) (hl : RdB W (w.heap.size + 3) l xs.length (vInts xs)) (hd : RdB W (w.heap.size + 3) d ys.length (vInts ys)) (a b : Value) :
    RdB ((W.setCell ⟨w.heap.size + 1, 0, none⟩ a).setCell ⟨w.heap.size + 1, 1, none⟩ b) w.heap.size l xs.length (vInts xs) ∧ RdB ((W.setCell ⟨w.heap.size + 1, 0, none⟩ a).setCell ⟨w.heap.size + 1, 1, none⟩ b) w.heap.size d ys.length (vInts ys) ∧
    Cs ((W.setCell ⟨w.heap.size + 1, 0, none⟩ a).setCell ⟨w.heap.size + 1, 1, none⟩ b) lo B v bs A ∧ w.grownBy ((W.setCell ⟨w.heap.size + 1, 0, none⟩ a).setCell ⟨w.heap.size + 1, 1, none⟩ b) (some B) := by
  have hg := grownBy_trans (grownBy_set W ⟨w.heap.size + 1, 0, none⟩ a) (grownBy_set (W.setCell ⟨w.heap.size + 1, 0, none⟩ a) ⟨w.heap.size + 1, 1, none⟩ b)
  have hne : ∀ {u : Value} {n : Nat} {cs : List Value}, RdB W (w.heap.size + 3) u n cs → ∀ b o m c, u = .slice (some ⟨b, o, none⟩) m c → 0 < m → some (w.heap.size + 1) ≠ some b := fun hr b o m c e hm e2 => by
    have := hr.2 b o m c e hm
    have e3 : w.heap.size + 1 = b := Option.some.inj e2
    omega
  exact ⟨(hl.away hg (hne hl)).low (by omega), (hd.away hg (hne hd)).low (by omega), ((h.1.1.set (p := ⟨w.heap.size + 1, 0, none⟩) (by dsimp only; omega) a).set (p := ⟨w.heap.size + 1, 1, none⟩) (by dsimp only; omega) b).fin⟩
theorem PcD.res2 {w W : World} {lo B A O : Nat} {v t ul ud l d : Value} {bs ls ds xs ys : List Int} (h : PcD w W lo B v bs A t ul ud ls ds) (hl : RdB W (w.heap.size + 3) l xs.length (vInts xs)) (hd : RdB W (w.heap.size + 3) d ys.length (vInts ys)) (hO : O = w.heap.size + 2) (x a b : Value) :
    RdB (((W.setCell ⟨O, 0, none⟩ x).setCell ⟨w.heap.size + 1, 0, none⟩ a).setCell ⟨w.heap.size + 1, 1, none⟩ b) w.heap.size l xs.length (vInts xs) ∧ RdB (((W.setCell ⟨O, 0, none⟩ x).setCell ⟨w.heap.size + 1, 0, none⟩ a).setCell ⟨w.heap.size + 1, 1, none⟩ b) w.heap.size d ys.length (vInts ys) ∧
    Cs (((W.setCell ⟨O, 0, none⟩ x).setCell ⟨w.heap.size + 1, 0, none⟩ a).setCell ⟨w.heap.size + 1, 1, none⟩ b) lo B v bs A ∧ w.grownBy (((W.setCell ⟨O, 0, none⟩ x).setCell ⟨w.heap.size + 1, 0, none⟩ a).setCell ⟨w.heap.size + 1, 1, none⟩ b) (some B) := by
  subst hO
  have hg := grownBy_trans (grownBy_set (W.setCell ⟨w.heap.size + 2, 0, none⟩ x) ⟨w.heap.size + 1, 0, none⟩ a) (grownBy_set ((W.setCell ⟨w.heap.size + 2, 0, none⟩ x).setCell ⟨w.heap.size + 1, 0, none⟩ a) ⟨w.heap.size + 1, 1, none⟩ b)
  have hne : ∀ {u : Value} {n : Nat} {cs : List Value} {W' : World} {j : Nat}, j < 3 → RdB W' (w.heap.size + 3) u n cs → ∀ b o m c, u = .slice (some ⟨b, o, none⟩) m c → 0 < m → some (w.heap.size + j) ≠ some b := fun hj hr b o m c e hm e2 => by
    have := hr.2 b o m c e hm
    have e3 := Option.some.inj e2
    omega
  have l1 := hl.away (grownBy_set W ⟨w.heap.size + 2, 0, none⟩ x) (hne (by omega) hl)
  have d1 := hd.away (grownBy_set W ⟨w.heap.size + 2, 0, none⟩ x) (hne (by omega) hd)
  exact ⟨(l1.away hg (hne (by omega) l1)).low (by omega), (d1.away hg (hne (by omega) d1)).low (by omega), (((h.1.1.set (p := ⟨w.heap.size + 2, 0, none⟩) (by dsimp only; omega) x).set (p := ⟨w.heap.size + 1, 0, none⟩) (by dsimp only; omega) a).set (p := ⟨w.heap.size + 1, 1, none⟩) (by dsimp only; omega) b).fin⟩
theorem vInts_app (xs : List Int) (x : Int) : vInts (xs ++ [x]) = vInts xs ++ [.int .i64 x] := by simp [vInts]
theorem spec_pathCosts {bs : List Int} (hb : Bts bs) {lo B A : Nat} {v : Value} (p : Option Addr) (n cap : Nat) (w : World) (h : Cs w lo B v bs A) (hn : n ≤ 20) (hA : A ≤ 800000) :
    Calls Try.prog 39 #[.pointer (some ⟨B, 0, none⟩), .agg #[.slice p n cap]] w fun e w' => ∃ (l d : Value) (ls ds : List Int), e = .returned (.agg #[l, d]) ∧ (ls.length ≤ 30 ∧ ds.length ≤ 30) ∧ RdB w' w.heap.size l ls.length (vInts ls) ∧ RdB w' w.heap.size d ds.length (vInts ds) ∧ Cs w' lo B v bs (A + 50) ∧ w.grownBy w' (some B) := by
  have Hb := hid hb
  have H0 : Hid (PcD w (((w.alloc (.cells #[.slice p n cap] 26)).alloc (.cells #[.slice none 0 0, .slice none 0 0] 28)).alloc (.cells #[.slice none 0 0, .slice none 0 0] 28)) lo B v bs A (.slice p n cap) (.slice none 0 0) (.slice none 0 0) [] []) :=
    ⟨⟨(Dr.start h).ext (by repeat' (first | exact Ext.refl _ | assumption | refine Ext.alloc ?_ _ | refine Ext.ext ?_ _ | refine Ext.drew ?_ | refine Ext.drewN ?_ _)), heap_old (heap_old (heap_at _ rfl) _) _, heap_old (heap_at _ (by simp)) _, heap_at _ (by simp)⟩, World.ownsRow_nil _ _ _ _, World.ownsRow_nil _ _ _ _, fun j e => by cases e⟩
  clear h hb
  obtain ⟨i0, hi, hz0, hz1, hz2⟩ := info_parts infoInt
  go_enter Try.func39, Try.ntmps39
  go_wp2
  generalize (((w.alloc (.cells #[.slice p n cap] 26)).alloc (.cells #[.slice none 0 0, .slice none 0 0] 28)).alloc (.cells #[.slice none 0 0, .slice none 0 0] 28)) = w0 at *
  go_loopw [6, 7, 8] (fun v6 v7 v8 wr => ∃ (k : Nat) (ul ud : Value) (ls ds : List Int), k ≤ n ∧ v6 = .int .i64 k ∧ ls.length = k ∧ ds.length = k ∧ Hid (PcD w wr lo B v bs (A + 2 * k) (.slice p n cap) ul ud ls ds)) (fun v6 _ _ _ => n - (intOf v6).toNat)
  case atStart => exact ⟨0, _, _, [], [], Nat.zero_le _, rfl, rfl, rfl, H0.out⟩
  case round =>
    obtain ⟨k, ul, ud, ls, ds, hk, rfl, hll, hdl, HR⟩ := hrel
    have HL := hid (And.intro hll hdl)
    clear hll hdl
    obtain ⟨c0, -, hD⟩ := box1 HR.out.1.2.1
    by_cases hlt : k < n
    · have t0 : (k : Int) < (n : Int) := by omega
      go_wp2_with fail
      go_at_call 71
      refine (spec_amongLit Hb.out _ _ _ wr _ HR.out.1.1.1 (by repeat' (first | exact Ext.refl _ | assumption | refine Ext.alloc ?_ _ | refine Ext.ext ?_ _ | refine Ext.drew ?_ | refine Ext.drewN ?_ _)) (by simp) (by rfl) (by omega) (by omega) (by simp)).mono ?_
      rintro e wa ⟨x, rfl, hc, hg⟩
      have H1 := hid (HR.out.step hc hg)
      clear hc hg
      go_wp2_with fail
      go_at_call 71
      refine (spec_amongLit Hb.out _ _ _ wa _ H1.out.1.1.1 (by repeat' (first | exact Ext.refl _ | assumption | refine Ext.alloc ?_ _ | refine Ext.ext ?_ _ | refine Ext.drew ?_ | refine Ext.drewN ?_ _)) (by simp) (by rfl) (by omega) (by omega) (by simp)).mono ?_
      rintro e wb ⟨y, rfl, hc, hg⟩
      have H2 := hid (H1.out.step hc hg)
      clear hc hg
      clear H1 HR c0
      have m1 : ls.length + 1 = k + 1 := by rw [HL.out.1]
      have m2 : ds.length + 1 = k + 1 := by rw [HL.out.2]
      have M := hid (And.intro m1 m2)
      have b1 : ls.length ≤ 20 := by omega
      have b2 : ds.length ≤ 20 := by omega
      clear m1 m2 HL
      by_cases h0 : k = 0
      · subst h0
        obtain ⟨dp, dc, rfl⟩ := own_shape H2.out.2.2.1
        obtain ⟨⟨o0, o1⟩, -, hO⟩ := box2 H2.out.1.2.2.2
        obtain ⟨up, uc, rfl⟩ := own_shape H2.out.2.1
        have X9 : Ext wb (wb.alloc (.cells #[.int .i64 0] 3)) := (by repeat' (first | exact Ext.refl _ | assumption | refine Ext.alloc ?_ _ | refine Ext.ext ?_ _ | refine Ext.drew ?_ | refine Ext.drewN ?_ _))
        go_wp2_with (at_builtin; refine wpList_append_own_at _ rfl _ _ 24 rfl (w.heap.size + 3) 3 i0 (.int .i64 0) 1 8 Try.underlying24 hi hz0 hz1 hz2 rfl (by decide) _ _ _ rfl ((own_ext H2.out.2.1 (by repeat' (first | exact Ext.refl _ | assumption | refine Ext.alloc ?_ _ | refine Ext.ext ?_ _ | refine Ext.drew ?_ | refine Ext.drewN ?_ _)))) ⟨_, 0, none⟩ 1 1 [.int .i64 0] rfl ?a0A ?a1A ?a2A ?a3A ?a4A ?a5A ?_)
        (try case a0A => rfl)
        case a1A => (intro j u hj; rw [Addr.add_lit, Nat.zero_add, cell_of_row _ _ j _ _ (0, 0) (heap_at _ rfl)]; first | (simpa using hj) | (simpa [hwb.out] using hj))
        case a2A => simp [Value.oneCell']
        case a3A => (unfold maxLen; simp; omega)
        case a4A => (first | omega | (simp; omega))
        case a5A => (have := (H2.out.1.1.size); first | omega | (simp at *; omega))
        intro v' w1 hown' hgrow hat
        intro hat9
        have kO := blk_grow (blk_ext H2.out.1.2.2.2 X9) hgrow (own_not H2.out.2.1 (by omega))
        have H3 := hid ((H2.out.ext X9).losses (ys := ls ++ [0]) (u' := v') hgrow (by rw [List.length_append, vInts_app]; exact hown') hat9 (by simp) (O := w.heap.size + 1 + 1) rfl)
        obtain ⟨vp, vc, rfl⟩ := own_shape hown'
        obtain ⟨⟨p0, p1⟩, ⟨e0, e1⟩, hO2⟩ := box2 kO
        clear hown' hgrow hat hat9 kO o0 o1 hO X9
        clear H2
        go_upto_region 10 with fail
        generalize w1.setCell ⟨w.heap.size + 1 + 1, 0, none⟩ (.slice vp (ls.length + 1) vc) = V at H3 ⊢
        clear p0 p1 e0 e1 hO2
        obtain ⟨⟨o0, o1⟩, -, hO⟩ := box2 H3.out.1.2.2.2
        have X9 : Ext V (V.alloc (.cells #[.int .i64 0] 3)) := (by repeat' (first | exact Ext.refl _ | assumption | refine Ext.alloc ?_ _ | refine Ext.ext ?_ _ | refine Ext.drew ?_ | refine Ext.drewN ?_ _))
        go_wp2_with (at_builtin; refine wpList_append_own_at _ rfl _ _ 24 rfl (w.heap.size + 3) 3 i0 (.int .i64 0) 1 8 Try.underlying24 hi hz0 hz1 hz2 rfl (by decide) _ _ _ rfl ((own_ext H3.out.2.2.1 (by repeat' (first | exact Ext.refl _ | assumption | refine Ext.alloc ?_ _ | refine Ext.ext ?_ _ | refine Ext.drew ?_ | refine Ext.drewN ?_ _)))) ⟨_, 0, none⟩ 1 1 [.int .i64 0] rfl ?a0B ?a1B ?a2B ?a3B ?a4B ?a5B ?_)
        (try case a0B => rfl)
        case a1B => (intro j u hj; rw [Addr.add_lit, Nat.zero_add, cell_of_row _ _ j _ _ (0, 0) (heap_at _ rfl)]; first | (simpa using hj) | (simpa [hwb.out] using hj))
        case a2B => simp [Value.oneCell']
        case a3B => (unfold maxLen; simp; omega)
        case a4B => (first | omega | (simp; omega))
        case a5B => (have := (H3.out.1.1.size); first | omega | (simp at *; omega))
        intro v' w1 hown' hgrow hat
        intro hat9
        have kO := blk_grow (blk_ext H3.out.1.2.2.2 X9) hgrow (own_not H3.out.2.2.1 (by omega))
        have H4 := hid ((H3.out.ext X9).delays (ys := ds ++ [0]) (u' := v') hgrow (by rw [List.length_append, vInts_app]; exact hown') hat9 (by simp) (O := w.heap.size + 1 + 1) rfl)
        obtain ⟨vp, vc, rfl⟩ := own_shape hown'
        obtain ⟨⟨p0, p1⟩, ⟨e0, e1⟩, hO2⟩ := box2 kO
        clear hown' hgrow hat hat9 kO o0 o1 hO X9
        clear H3
        go_wp2
        go_roundw
        case rel => exact ⟨0 + 1, _, _, ls ++ [0], ds ++ [0], by omega, by go_num, by rw [List.length_append]; exact M.out.1, by rw [List.length_append]; exact M.out.2, H4.out.more (by omega)⟩
        case measure => simp [intOf]; omega
      · have tk : ((k : Int) == 0) = false := by rw [beq_eq_false_iff_ne]; omega
        obtain ⟨dp, dc, rfl⟩ := own_shape H2.out.2.2.1
        obtain ⟨⟨o0, o1⟩, -, hO⟩ := box2 H2.out.1.2.2.2
        obtain ⟨up, uc, rfl⟩ := own_shape H2.out.2.1
        have X9 : Ext wb (wb.alloc (.cells #[.int .i64 x] 3)) := (by repeat' (first | exact Ext.refl _ | assumption | refine Ext.alloc ?_ _ | refine Ext.ext ?_ _ | refine Ext.drew ?_ | refine Ext.drewN ?_ _))
        go_wp2_with (at_builtin; refine wpList_append_own_at _ rfl _ _ 24 rfl (w.heap.size + 3) 3 i0 (.int .i64 0) 1 8 Try.underlying24 hi hz0 hz1 hz2 rfl (by decide) _ _ _ rfl ((own_ext H2.out.2.1 (by repeat' (first | exact Ext.refl _ | assumption | refine Ext.alloc ?_ _ | refine Ext.ext ?_ _ | refine Ext.drew ?_ | refine Ext.drewN ?_ _)))) ⟨_, 0, none⟩ 1 1 [.int .i64 x] rfl ?a0A ?a1A ?a2A ?a3A ?a4A ?a5A ?_)
        (try case a0A => rfl)
        case a1A => (intro j u hj; rw [Addr.add_lit, Nat.zero_add, cell_of_row _ _ j _ _ (0, 0) (heap_at _ rfl)]; first | (simpa using hj) | (simpa [hwb.out] using hj))
        case a2A => simp [Value.oneCell']
        case a3A => (unfold maxLen; simp; omega)
        case a4A => (first | omega | (simp; omega))
        case a5A => (have := (H2.out.1.1.size); first | omega | (simp at *; omega))
        intro v' w1 hown' hgrow hat
        intro hat9
        have kO := blk_grow (blk_ext H2.out.1.2.2.2 X9) hgrow (own_not H2.out.2.1 (by omega))
        have H3 := hid ((H2.out.ext X9).losses (ys := ls ++ [x]) (u' := v') hgrow (by rw [List.length_append, vInts_app]; exact hown') hat9 (by simp) (O := w.heap.size + 1 + 1) rfl)
        obtain ⟨vp, vc, rfl⟩ := own_shape hown'
        obtain ⟨⟨p0, p1⟩, ⟨e0, e1⟩, hO2⟩ := box2 kO
        clear hown' hgrow hat hat9 kO o0 o1 hO X9
        clear H2
        go_upto_region 10 with fail
        generalize w1.setCell ⟨w.heap.size + 1 + 1, 0, none⟩ (.slice vp (ls.length + 1) vc) = V at H3 ⊢
        clear p0 p1 e0 e1 hO2
        obtain ⟨⟨o0, o1⟩, -, hO⟩ := box2 H3.out.1.2.2.2
        have X9 : Ext V (V.alloc (.cells #[.int .i64 y] 3)) := (by repeat' (first | exact Ext.refl _ | assumption | refine Ext.alloc ?_ _ | refine Ext.ext ?_ _ | refine Ext.drew ?_ | refine Ext.drewN ?_ _))
        go_wp2_with (at_builtin; refine wpList_append_own_at _ rfl _ _ 24 rfl (w.heap.size + 3) 3 i0 (.int .i64 0) 1 8 Try.underlying24 hi hz0 hz1 hz2 rfl (by decide) _ _ _ rfl ((own_ext H3.out.2.2.1 (by repeat' (first | exact Ext.refl _ | assumption | refine Ext.alloc ?_ _ | refine Ext.ext ?_ _ | refine Ext.drew ?_ | refine Ext.drewN ?_ _)))) ⟨_, 0, none⟩ 1 1 [.int .i64 y] rfl ?a0B ?a1B ?a2B ?a3B ?a4B ?a5B ?_)
        (try case a0B => rfl)
        case a1B => (intro j u hj; rw [Addr.add_lit, Nat.zero_add, cell_of_row _ _ j _ _ (0, 0) (heap_at _ rfl)]; first | (simpa using hj) | (simpa [hwb.out] using hj))
        case a2B => simp [Value.oneCell']
        case a3B => (unfold maxLen; simp; omega)
        case a4B => (first | omega | (simp; omega))
        case a5B => (have := (H3.out.1.1.size); first | omega | (simp at *; omega))
        intro v' w1 hown' hgrow hat
        intro hat9
        have kO := blk_grow (blk_ext H3.out.1.2.2.2 X9) hgrow (own_not H3.out.2.2.1 (by omega))
        have H4 := hid ((H3.out.ext X9).delays (ys := ds ++ [y]) (u' := v') hgrow (by rw [List.length_append, vInts_app]; exact hown') hat9 (by simp) (O := w.heap.size + 1 + 1) rfl)
        obtain ⟨vp, vc, rfl⟩ := own_shape hown'
        obtain ⟨⟨p0, p1⟩, ⟨e0, e1⟩, hO2⟩ := box2 kO
        clear hown' hgrow hat hat9 kO o0 o1 hO X9
        clear H3
        go_wp2
        go_roundw
        case rel => exact ⟨k + 1, _, _, ls ++ [x], ds ++ [y], by omega, by go_num, by rw [List.length_append]; exact M.out.1, by rw [List.length_append]; exact M.out.2, H4.out.more (by omega)⟩
        case measure => simp [intOf]; omega
    · obtain rfl : k = n := by omega
      have b1 : ls.length ≤ 20 := by rw [HL.out.1]; exact hn
      have b2 : ds.length ≤ 20 := by rw [HL.out.2]; exact hn
      have HRm := hid (HR.out.more (show A + 2 * k ≤ A + 40 by omega))
      have M2 : Hid (ls.length = ds.length) := by rw [HL.out.1, HL.out.2]; exact rfl
      clear HR HL
      obtain ⟨⟨o0, o1⟩, ⟨e0, e1⟩, hO⟩ := box2 HRm.out.1.2.2.2
      obtain ⟨up, uc, rfl⟩ := own_shape HRm.out.2.1
      obtain ⟨dp, dc, rfl⟩ := own_shape HRm.out.2.2.1
      by_cases hz : ls.length = 0
      · obtain rfl : ls = [] := List.eq_nil_of_length_eq_zero hz
        clear o0 o1 e0 e1 hO hz
        obtain ⟨⟨r0, r1⟩, ⟨q0, q1⟩, hR⟩ := box2 HRm.out.1.2.2.1
        obtain ⟨⟨o0, o1⟩, -, hO⟩ := box2 HRm.out.1.2.2.2
        go_wp2
        refine bodyPost_ret (results_cell_row rfl _ _ (w.heap.size + 1) _ _ (0, 0) _ rfl (box2_set (t := 28) HRm.out.1.2.2.1 _ _) Try.underlying28 rfl (by kernel_rfl)) rfl ⟨_, _, [], ds, rfl, ?_⟩
        exact ⟨⟨by omega, by omega⟩, (HRm.out.more (show A + 40 ≤ A + 50 by omega)).res (RdB.own HRm.out.2.1) (RdB.own HRm.out.2.2.1) _ _⟩
      · have tz : ((ls.length : Int) == 0) = false := by rw [beq_eq_false_iff_ne]; omega
        go_wp2_with fail
        go_at_call 72
        refine (spec_pick Hb.out (ls.length : Int) _ HRm.out.1.1.1 (by omega) (by omega)).mono ?_
        rintro e wc ⟨j, rfl, hj0, hj1, hc, hg⟩
        have H1 := hid (HRm.out.step hc hg)
        clear hc hg HRm o0 o1 e0 e1 hO c0
        obtain ⟨i, rfl⟩ : ∃ i : Nat, j = i := ⟨j.toNat, by omega⟩
        have hi1 : i < ls.length := by omega
        have hi2 : i < ds.length := by have := M2.out; omega
        go_wp2_with fail
        go_at_call 72
        refine (spec_pick Hb.out 40 _ H1.out.1.1.1 (by omega) (by omega)).mono ?_
        rintro e wd ⟨z, rfl, hz0', hz1', hc, hg⟩
        have H2 := hid (H1.out.step hc hg)
        clear hc hg H1
        obtain ⟨⟨o0, o1⟩, ⟨e0, e1⟩, hO⟩ := box2 H2.out.1.2.2.2
        obtain ⟨ug, ucap, hf, -, -⟩ := H2.out.2.1.form (by omega)
        cases hf
        obtain ⟨dg, dcap, hf, -, -⟩ := H2.out.2.2.1.form (by omega)
        cases hf
        have n0 : (0 : Int) ≤ (i : Int) := by omega
        have n1 : (i : Int) < (ls.length : Int) := by omega
        have n2 : (i : Int) < (ds.length : Int) := by omega
        by_cases z0 : z = 0
        · subst z0
          go_wp2_with fail
          have X0 : Ext wd (wd.alloc (.cells #[.int .i64 (-1), .int .i64 101, .int .i64 1] 3)).drew := (by repeat' (first | exact Ext.refl _ | assumption | refine Ext.alloc ?_ _ | refine Ext.ext ?_ _ | refine Ext.drew ?_ | refine Ext.drewN ?_ _))
          have ham : Hid (Calls Try.prog 71 #[.pointer (some ⟨B, 0, none⟩), .slice (some ⟨wd.heap.size, 0, none⟩) 3 3] (wd.alloc (.cells #[.int .i64 (-1), .int .i64 101, .int .i64 1] 3)).drew fun e w' => ∃ x : Int, e = .returned (.int .i64 x) ∧ PcD w w' lo B v bs (A + 40 + 1 + 1 + 1) (.slice p k cap) (.slice (some ⟨ug, 0, none⟩) ls.length uc) (.slice (some ⟨dg, 0, none⟩) ds.length dc) ls ds) := (spec_amongLit Hb.out #[.int .i64 (-1), .int .i64 101, .int .i64 1] 3 wd.heap.size wd wd.drew H2.out.1.1.1 (show Ext wd wd.drew from (by repeat' (first | exact Ext.refl _ | assumption | refine Ext.alloc ?_ _ | refine Ext.ext ?_ _ | refine Ext.drew ?_ | refine Ext.drewN ?_ _))) (by simp) rfl (by omega) (by omega) (by simp)).mono fun e w' ⟨x, a1, a2, a3⟩ => ⟨x, a1, H2.out.step a2 a3⟩
          have oD := X0.cell o0
          have oA := (show Ext wd wd.drew from (by repeat' (first | exact Ext.refl _ | assumption | refine Ext.alloc ?_ _ | refine Ext.ext ?_ _ | refine Ext.drew ?_ | refine Ext.drewN ?_ _))).cell o0
          have oC := (show Ext wd (wd.alloc (.cells #[.int .i64 (-1), .int .i64 101, .int .i64 1] 3)) from (by repeat' (first | exact Ext.refl _ | assumption | refine Ext.alloc ?_ _ | refine Ext.ext ?_ _ | refine Ext.drew ?_ | refine Ext.drewN ?_ _))).cell o0
          go_region_held3 (fun w' => w'.cell? ⟨w.heap.size + 2, 0, none⟩ = some (.slice (some ⟨ug, 0, none⟩) ls.length uc)) (first | exact o0 | exact oD | exact oA | exact oC | exact r0 | exact s0) (first | (go_at_call 71; (with_reducible refine ham.out.mono ?_); rintro e we ⟨x, rfl, hd⟩; have H3 := hid hd; clear hd; obtain ⟨⟨r0, r1⟩, ⟨t0, t1⟩, hO3⟩ := box2 H3.out.1.2.2.2; have y0 := H3.out.2.1.cellAt i (by omega); rw [vInts_get ls i hi1] at y0; have y1 := H3.out.2.1.frozenAt i; have H4 := hid (H3.out.lossAt i x); obtain ⟨⟨s0, s1⟩, ⟨t2, t3⟩, hO4⟩ := box2 H4.out.1.2.2.2) | fail)
          generalize we.setCell ⟨ug, i, none⟩ (.int .i64 x) = V at *
          clear H3 ham X0 oD oA oC r0 r1 t0 t1 y0 y1 s0 s1 t2 t3 hO3 hO4 o0 o1 e0 e1
          obtain ⟨⟨r0, r1⟩, ⟨q0, q1⟩, hR⟩ := box2 H4.out.1.2.2.1
          obtain ⟨⟨o0, o1⟩, -, hO⟩ := box2 H4.out.1.2.2.2
          go_wp2
          refine bodyPost_ret (results_cell_row rfl _ _ (w.heap.size + 1) _ _ (0, 0) _ rfl (box2_set (t := 28) H4.out.1.2.2.1 _ _) Try.underlying28 rfl (by kernel_rfl)) rfl ⟨_, _, (ls.set i x), ds, rfl, ?_⟩
          exact ⟨⟨by simp; omega, by omega⟩, (H4.out.more (show A + 40 + 1 + 1 + 1 ≤ A + 50 by omega)).res (RdB.own (by simpa using H4.out.2.1)) (RdB.own H4.out.2.2.1) _ _⟩
        by_cases z1 : z = 1
        · subst z1
          go_wp2_with fail
          have X0 : Ext wd (wd.alloc (.cells #[.int .i64 (-1), .int .i64 1001, .int .i64 1] 3)).drew := (by repeat' (first | exact Ext.refl _ | assumption | refine Ext.alloc ?_ _ | refine Ext.ext ?_ _ | refine Ext.drew ?_ | refine Ext.drewN ?_ _))
          have ham : Hid (Calls Try.prog 71 #[.pointer (some ⟨B, 0, none⟩), .slice (some ⟨wd.heap.size, 0, none⟩) 3 3] (wd.alloc (.cells #[.int .i64 (-1), .int .i64 1001, .int .i64 1] 3)).drew fun e w' => ∃ x : Int, e = .returned (.int .i64 x) ∧ PcD w w' lo B v bs (A + 40 + 1 + 1 + 1) (.slice p k cap) (.slice (some ⟨ug, 0, none⟩) ls.length uc) (.slice (some ⟨dg, 0, none⟩) ds.length dc) ls ds) := (spec_amongLit Hb.out #[.int .i64 (-1), .int .i64 1001, .int .i64 1] 3 wd.heap.size wd wd.drew H2.out.1.1.1 (show Ext wd wd.drew from (by repeat' (first | exact Ext.refl _ | assumption | refine Ext.alloc ?_ _ | refine Ext.ext ?_ _ | refine Ext.drew ?_ | refine Ext.drewN ?_ _))) (by simp) rfl (by omega) (by omega) (by simp)).mono fun e w' ⟨x, a1, a2, a3⟩ => ⟨x, a1, H2.out.step a2 a3⟩
          have oD := X0.cell o1
          have oA := (show Ext wd wd.drew from (by repeat' (first | exact Ext.refl _ | assumption | refine Ext.alloc ?_ _ | refine Ext.ext ?_ _ | refine Ext.drew ?_ | refine Ext.drewN ?_ _))).cell o1
          have oC := (show Ext wd (wd.alloc (.cells #[.int .i64 (-1), .int .i64 1001, .int .i64 1] 3)) from (by repeat' (first | exact Ext.refl _ | assumption | refine Ext.alloc ?_ _ | refine Ext.ext ?_ _ | refine Ext.drew ?_ | refine Ext.drewN ?_ _))).cell o1
          go_region_held3 (fun w' => w'.cell? ⟨w.heap.size + 2, 1, none⟩ = some (.slice (some ⟨dg, 0, none⟩) ds.length dc)) (first | exact o1 | exact oD | exact oA | exact oC | exact r1 | exact s1) (first | (go_at_call 71; (with_reducible refine ham.out.mono ?_); rintro e we ⟨x, rfl, hd⟩; have H3 := hid hd; clear hd; obtain ⟨⟨r0, r1⟩, ⟨t0, t1⟩, hO3⟩ := box2 H3.out.1.2.2.2; have y0 := H3.out.2.2.1.cellAt i (by omega); rw [vInts_get ds i hi2] at y0; have y1 := H3.out.2.2.1.frozenAt i; have H4 := hid (H3.out.delayAt i x); obtain ⟨⟨s0, s1⟩, ⟨t2, t3⟩, hO4⟩ := box2 H4.out.1.2.2.2) | fail)
          generalize we.setCell ⟨dg, i, none⟩ (.int .i64 x) = V at *
          clear H3 ham X0 oD oA oC r0 r1 t0 t1 y0 y1 s0 s1 t2 t3 hO3 hO4 o0 o1 e0 e1
          obtain ⟨⟨r0, r1⟩, ⟨q0, q1⟩, hR⟩ := box2 H4.out.1.2.2.1
          obtain ⟨⟨o0, o1⟩, -, hO⟩ := box2 H4.out.1.2.2.2
          go_wp2
          refine bodyPost_ret (results_cell_row rfl _ _ (w.heap.size + 1) _ _ (0, 0) _ rfl (box2_set (t := 28) H4.out.1.2.2.1 _ _) Try.underlying28 rfl (by kernel_rfl)) rfl ⟨_, _, ls, (ds.set i x), rfl, ?_⟩
          exact ⟨⟨by omega, by simp; omega⟩, (H4.out.more (show A + 40 + 1 + 1 + 1 ≤ A + 50 by omega)).res (RdB.own H4.out.2.1) (RdB.own (by simpa using H4.out.2.2.1)) _ _⟩
        by_cases z2 : z = 2
        · subst z2
          have hs1 := run_from1 ug ls.length uc (by omega)
          have hs2 := run_fromAt1 ug ls.length uc (by omega)
          obtain ⟨so, sc, hsf⟩ := slc_form ug ls.length uc
          have hdl : (ls.drop 1).length = ls.length - 1 := List.length_drop
          have hrt := rd_tail (cs := vInts (ls.drop 1)) (a := .int .i64 (ls.getD 0 0)) (by rw [← vInts_head hz]; exact H2.out.2.1)
          rw [hsf] at hs1 hs2 hrt
          have HT : Hid (RdB wd (w.heap.size + 3) (.slice (some ⟨ug, so, none⟩) (ls.length - 1) sc) (ls.drop 1).length (vInts (ls.drop 1))) := by
            refine ⟨?_, fun b o m c e hm => by cases e; exact (own_row H2.out.2.1 ug rfl).1⟩
            rw [hdl]; exact hrt
          have bd : (ls.drop 1).length ≤ 30 := by rw [hdl]; omega
          clear hdl
          have Hs := hid hsf
          clear hrt hsf n1 n0 n2 hi1 hi2 hj0 hj1
          obtain ⟨⟨r0, r1⟩, ⟨q0, q1⟩, hR⟩ := box2 H2.out.1.2.2.1
          have hR2 := blk_far (x := .slice (some ⟨ug, so, none⟩) (ls.length - 1) sc) (D := w.heap.size + 1 + 1) (i := 0) H2.out.1.2.2.1 (by omega)
          have HR2 := hid hR2
          clear hR2
          go_wp2
          refine bodyPost_ret (results_cell_row rfl _ _ (w.heap.size + 1) _ _ (0, 0) _ rfl (box2_set (t := 28) HR2.out _ _) Try.underlying28 rfl (by kernel_rfl)) rfl ⟨_, _, ls.drop 1, ds, rfl, ?_⟩
          exact ⟨⟨bd, by omega⟩, (H2.out.more (show A + 40 + 1 + 1 ≤ A + 50 by omega)).res2 HT.out (RdB.own H2.out.2.2.1) rfl _ _ _⟩
        clear n0 n1 n2 hi1 hi2
        by_cases z3 : z = 3
        · subst z3
          go_upto_region 22 with fail
          obtain ⟨⟨o0, o1⟩, -, hO⟩ := box2 H2.out.1.2.2.2
          have X9 : Ext wd (wd.alloc (.cells #[.int .i64 0] 3)) := (by repeat' (first | exact Ext.refl _ | assumption | refine Ext.alloc ?_ _ | refine Ext.ext ?_ _ | refine Ext.drew ?_ | refine Ext.drewN ?_ _))
          go_wp2_with (at_builtin; refine wpList_append_own_at _ rfl _ _ 24 rfl (w.heap.size + 3) 3 i0 (.int .i64 0) 1 8 Try.underlying24 hi hz0 hz1 hz2 rfl (by decide) _ _ _ rfl ((own_ext H2.out.2.2.1 (by repeat' (first | exact Ext.refl _ | assumption | refine Ext.alloc ?_ _ | refine Ext.ext ?_ _ | refine Ext.drew ?_ | refine Ext.drewN ?_ _)))) ⟨_, 0, none⟩ 1 1 [.int .i64 0] rfl ?a0C ?a1C ?a2C ?a3C ?a4C ?a5C ?_)
          (try case a0C => rfl)
          case a1C => (intro j u hj; rw [Addr.add_lit, Nat.zero_add, cell_of_row _ _ j _ _ (0, 0) (heap_at _ rfl)]; first | (simpa using hj) | (simpa [hwb.out] using hj))
          case a2C => simp [Value.oneCell']
          case a3C => (unfold maxLen; simp; omega)
          case a4C => (first | omega | (simp; omega))
          case a5C => (have := (H2.out.1.1.size); first | omega | (simp at *; omega))
          intro v' w1 hown' hgrow hat
          intro hat9
          have kO := blk_grow (blk_ext H2.out.1.2.2.2 X9) hgrow (own_not H2.out.2.2.1 (by omega))
          have H3 := hid ((H2.out.ext X9).delays (ys := ds ++ [0]) (u' := v') hgrow (by rw [List.length_append, vInts_app]; exact hown') hat9 (by simp) (O := w.heap.size + 1 + 1) rfl)
          obtain ⟨vp, vc, rfl⟩ := own_shape hown'
          obtain ⟨⟨p0, p1⟩, ⟨e0, e1⟩, hO2⟩ := box2 kO
          clear hown' hgrow hat hat9 kO o0 o1 hO X9
          go_upto_region 23 with fail
          generalize w1.setCell ⟨w.heap.size + 1 + 1, 1, none⟩ (.slice vp (ds.length + 1) vc) = V at H3 ⊢
          clear p0 p1 e0 e1 hO2
          obtain ⟨⟨r0, r1⟩, ⟨q0, q1⟩, hR⟩ := box2 H3.out.1.2.2.1
          obtain ⟨⟨o0, o1⟩, -, hO⟩ := box2 H3.out.1.2.2.2
          go_wp2
          refine bodyPost_ret (results_cell_row rfl _ _ (w.heap.size + 1) _ _ (0, 0) _ rfl (box2_set (t := 28) H3.out.1.2.2.1 _ _) Try.underlying28 rfl (by kernel_rfl)) rfl ⟨_, _, ls, (ds ++ [0]), rfl, ?_⟩
          exact ⟨⟨by omega, by simp; omega⟩, (H3.out.more (show A + 40 + 1 + 1 ≤ A + 50 by omega)).res (RdB.own H3.out.2.1) (RdB.own (by simpa using H3.out.2.2.1)) _ _⟩
        have t0 : (z == 0) = false := by rw [beq_eq_false_iff_ne]; omega
        have t1 : (z == 1) = false := by rw [beq_eq_false_iff_ne]; omega
        have t2 : (z == 2) = false := by rw [beq_eq_false_iff_ne]; omega
        have t3 : (z == 3) = false := by rw [beq_eq_false_iff_ne]; omega
        clear o0 o1 e0 e1 hO
        obtain ⟨⟨r0, r1⟩, ⟨q0, q1⟩, hR⟩ := box2 H2.out.1.2.2.1
        obtain ⟨⟨o0, o1⟩, -, hO⟩ := box2 H2.out.1.2.2.2
        go_wp2
        refine bodyPost_ret (results_cell_row rfl _ _ (w.heap.size + 1) _ _ (0, 0) _ rfl (box2_set (t := 28) H2.out.1.2.2.1 _ _) Try.underlying28 rfl (by kernel_rfl)) rfl ⟨_, _, ls, ds, rfl, ?_⟩
        exact ⟨⟨by omega, by omega⟩, (H2.out.more (show A + 40 + 1 + 1 ≤ A + 50 by omega)).res (RdB.own H2.out.2.1) (RdB.own H2.out.2.2.1) _ _⟩
end Go.Proofs.Ytppdbnopgcjgjaa
