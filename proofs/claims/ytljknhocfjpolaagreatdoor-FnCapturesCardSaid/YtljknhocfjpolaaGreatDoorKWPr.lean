/- A capture parsed: the program's side. -/
import Derived.Test.YtljknhocfjpolaaGreatDoorJ45
import Derived.Test.YtljknhocfjpolaaGreatDoorKWPz
import Derived.Test.YtljknhocfjpolaaGreatDoorKWCapText
import Derived.Maps.AppendAt
namespace Go.Proofs.YtljknhocfjpolaaGreatDoor
open Go.RowKit Go.Shelf
set_option maxHeartbeats 2000000
set_option maxRecDepth 100000
attribute [local go_sem] Oper.semAt_some
/-- While lines are parsed: the results' variables, the list's, and its row. -/
def PcS (w W : World) (u : Value) (L : List Cap) : Prop :=
  (Ext w W ∧ W.heap[w.heap.size]? = some (.cells #[.slice none 0 0] 22 (0, 0)) ∧ W.heap[w.heap.size + 1]? = some (.cells #[.bool false] 4 (0, 0)) ∧ W.heap[w.heap.size + 1 + 1]? = some (.cells #[u] 22 (0, 0))) ∧
  W.ownsRow (w.heap.size + 4) 48 8 u L.length (L.flatMap Cap.cs)
/-- What has been read, and what is left. -/
def PcN (s R : ByteArray) (L : List Cap) : Prop := (L.length + R.size ≤ s.size ∧ Cap.chars L + R.size ≤ s.size) ∧ ∀ xs, isPC s xs → ∃ k, k ≤ xs.length ∧ L = xs.take k ∧ capR (xs.drop k) = R.data.toList
def PcI (w : World) (s R : ByteArray) (W : World) : Prop := ∃ u L, PcS w W u L ∧ PcN s R L ∧ w.heap.size + 4 ≤ W.heap.size
def PcX (w : World) (s : ByteArray) (W : World) : Prop := (Ext w W ∧ W.heap[w.heap.size]? = some (.cells #[.slice none 0 0] 22 (0, 0)) ∧ W.heap[w.heap.size + 1]? = some (.cells #[.bool false] 4 (0, 0))) ∧ PC s = none
theorem PcN.start (s : ByteArray) : PcN s s [] := ⟨⟨by simp, by simp [Cap.chars]⟩, fun xs h => ⟨0, Nat.zero_le _, rfl, h.2⟩⟩
theorem PcN.step {s R : ByteArray} {L : List Cap} (h : PcN s R L) (hR : 0 < R.size) {x : Cap} (hx : x = wdX (splS (trN (lnA R)) 32)) (hd : x.d.size ≤ (lnA R).size) : PcN s (lnZ R) (L ++ [x]) := by
  have e1 : R.data.toList.length = R.size := by simp
  have hp := lnE_pos (R := R.data.toList) (by omega)
  have hA : (lnA R).size = lnE R.data.toList := by rw [lnA, mkS_size, List.length_take]; omega
  have hZ : (lnZ R).size = R.size - lnE R.data.toList := by rw [lnZ, mkS_size, List.length_drop]; omega
  obtain ⟨⟨h1, h2⟩, h3⟩ := h
  have hch : Cap.chars (L ++ [x]) = Cap.chars L + x.d.size := by simp [Cap.chars]
  refine ⟨⟨by rw [List.length_append]; show _ + 1 + _ ≤ _; omega, by rw [hch]; omega⟩, fun xs hp2 => ?_⟩
  obtain ⟨k, hk, rfl, hc⟩ := h3 xs hp2
  cases hdr : xs.drop k with
  | nil => rw [hdr, capR] at hc; rw [← hc] at e1; simp at e1; omega
  | cons y ys =>
    have hy : okC y = true := okC_of hp2.1 y (List.mem_of_mem_drop (by rw [hdr]; simp))
    rw [hdr] at hc
    obtain ⟨l1, l2⟩ := ln_cap hy hc.symm
    rw [l1, trN_cap, (wd_back hy).2] at hx
    have hkl : k < xs.length := by
      have := congrArg List.length hdr
      rw [List.length_drop, List.length_cons] at this
      omega
    have hys : ys = xs.drop (k + 1) := by rw [← List.drop_drop, hdr]; rfl
    have hyk : y = xs[k] := by
      rw [List.drop_eq_getElem_cons hkl] at hdr
      exact (List.cons.inj hdr).1.symm
    refine ⟨k + 1, hkl, ?_, ?_⟩
    · rw [hx, hyk, List.take_succ_eq_append_getElem hkl]
    · rw [← hys, l2]
theorem PcN.bad {s R : ByteArray} {L : List Cap} (h : PcN s R L) (hR : 0 < R.size) (hB : wdB (splS (trN (lnA R)) 32) = false) : PC s = none := by
  have e1 : R.data.toList.length = R.size := by simp
  refine PC_none fun xs hp2 => ?_
  obtain ⟨k, hk, rfl, hc⟩ := h.2 xs hp2
  cases hdr : xs.drop k with
  | nil => rw [hdr, capR] at hc; rw [← hc] at e1; simp at e1; omega
  | cons y ys =>
    have hy : okC y = true := okC_of hp2.1 y (List.mem_of_mem_drop (by rw [hdr]; simp))
    rw [hdr] at hc
    obtain ⟨l1, l2⟩ := ln_cap hy hc.symm
    rw [l1, trN_cap, (wd_back hy).1] at hB
    cases hB
theorem PcN.fin {s R : ByteArray} {L : List Cap} (h : PcN s R L) (hR : R.size = 0) : (∀ xs, isPC s xs → L = xs) := fun xs hp => by
  obtain ⟨k, hk, rfl, hc⟩ := h.2 xs hp
  have e1 : R.data.toList.length = R.size := by simp
  cases hdr : xs.drop k with
  | nil => rw [List.drop_eq_nil_iff] at hdr; exact List.take_of_length_le hdr
  | cons y ys =>
    rw [hdr, capR] at hc
    rw [← hc, List.length_append, List.length_cons] at e1
    omega
theorem own_cells {w : World} {base e k n g : Nat} {v : Value} {cs : List Value} (h : w.ownsRow base e k v n cs) (hg : v.ownBlock = some g) : base ≤ g ∧ ∃ o, w.heap[g]? = some o ∧ o.isCells = true := by
  obtain ⟨h1, ⟨rfl, h0⟩ | ⟨g', cap, cur, rfl, hB, hh, -⟩⟩ := h
  · cases hg
  · cases hg
    exact ⟨hB, _, hh, rfl⟩
theorem PcI.own (w : World) (s R : ByteArray) : OwnZ (w.heap.size + 1 + 1 + 1) (w.heap.size + 4) (PcI w s R) := fun W W' row hI hg hr => by
  obtain ⟨u, L, ⟨⟨hx, h1, h2, h3⟩, ho⟩, hn, hz⟩ := hI
  have far : ∀ k, k < w.heap.size + 3 → row ≠ some k := fun k hk e => by
    rcases hr k e with h | h <;> omega
  refine ⟨u, L, ⟨⟨hx.grown hg (fun j e => by rcases hr j e with h | h <;> omega), blk_grow h1 hg (far _ (by omega)), blk_grow h2 hg (far _ (by omega)), blk_grow h3 hg (far _ (by omega))⟩, ?_⟩, hn, Nat.le_trans hz hg.size⟩
  refine ho.kept hg ?_
  cases he : u.ownBlock with
  | none => exact .inl rfl
  | some j =>
    refine .inr (fun e => ?_)
    obtain ⟨hj, o, ho1, ho2⟩ := own_cells ho he
    rcases hr j e.symm with h | ⟨h, o', ho3, ho4⟩
    · omega
    · rw [ho1] at ho3; cases ho3; rw [ho2] at ho4; cases ho4
theorem PcX.own (w : World) (s : ByteArray) : OwnZ (w.heap.size + 1 + 1 + 1) (w.heap.size + 4) (PcX w s) := fun W W' row hI hg hr => by
  obtain ⟨⟨hx, h1, h2⟩, hn⟩ := hI
  have far : ∀ k, k < w.heap.size + 3 → row ≠ some k := fun k hk e => by
    rcases hr k e with h | h <;> omega
  exact ⟨⟨hx.grown hg (fun j e => by rcases hr j e with h | h <;> omega), blk_grow h1 hg (far _ (by omega)), blk_grow h2 hg (far _ (by omega))⟩, hn⟩
theorem PcS.ext {w W W' : World} {u : Value} {L : List Cap} (h : PcS w W u L) (hx : Ext W W') : PcS w W' u L := ⟨⟨h.1.1.trans hx, blk_ext h.1.2.1 hx, blk_ext h.1.2.2.1 hx, blk_ext h.1.2.2.2 hx⟩, own_ext h.2 hx⟩
theorem PcS.grow {w W W' : World} {u u' : Value} {L : List Cap} {x : Cap} (h : PcS w W u L) (hg : W.grownBy W' u.ownBlock) (ho : W'.ownsRow (w.heap.size + 4) 48 8 u' (L.length + 1) (L.flatMap Cap.cs ++ x.cs)) : PcS w (W'.setCell ⟨w.heap.size + 1 + 1, 0, none⟩ u') u' (L ++ [x]) := by
  have hne : ∀ k, k < w.heap.size + 4 → u.ownBlock ≠ some k := fun k hk e => by have := (own_row h.2 k e).1; omega
  have hg2 := grownBy_set W' ⟨w.heap.size + 1 + 1, 0, none⟩ u'
  refine ⟨⟨(h.1.1.grown hg (fun j e => by have := (own_row h.2 j e).1; omega)).setCell (by dsimp only; omega) _, blk_grow (blk_grow h.1.2.1 hg (hne _ (by omega))) hg2 (fun e => by have := Option.some.inj e; dsimp only at this; omega),
    blk_grow (blk_grow h.1.2.2.1 hg (hne _ (by omega))) hg2 (fun e => by have := Option.some.inj e; dsimp only at this; omega), box1_set (blk_grow h.1.2.2.2 hg (hne _ (by omega))) u'⟩, ?_⟩
  rw [List.length_append, List.flatMap_append, List.flatMap_singleton]
  exact own_set ho (by dsimp only; omega) _
theorem kf_own {B base e k n : Nat} {W W' : World} {u : Value} {cs : List Value} (h : W.ownsRow base e k u n cs) (hg : W.grownBy W' u.ownBlock) : KeepsFrom B W W' :=
  (KeepsOthers.of_grownBy hg (fun j o e ho => by
    obtain ⟨-, o', h1, h2⟩ := own_cells h e
    rw [h1] at ho; cases ho; exact h2)).from B
theorem kf_ext {B : Nat} {W W' : World} (h : Ext W W') : KeepsFrom B W W' := ⟨h.size, fun _ _ _ hk _ => (h.heap (Array.getElem?_eq_some_iff.1 hk).1).trans hk⟩
/-- The results stored, and the block of the loop's deferred calls still there. -/
theorem pc_store {w W : World} {D : Nat} {u : Value} {L : List Cap} (h : PcS w W u L) (hK : W.heap[D]? = some (.deferred (some []))) (hD : w.heap.size + 4 ≤ D) (a b : Value) :
    (((W.setCell ⟨w.heap.size, 0, none⟩ a).setCell ⟨w.heap.size + 1, 0, none⟩ b).heap[w.heap.size]? = some (.cells #[a] 22 (0, 0)) ∧ ((W.setCell ⟨w.heap.size, 0, none⟩ a).setCell ⟨w.heap.size + 1, 0, none⟩ b).heap[w.heap.size + 1]? = some (.cells #[b] 4 (0, 0))) ∧
    ((W.setCell ⟨w.heap.size, 0, none⟩ a).setCell ⟨w.heap.size + 1, 0, none⟩ b).heap[D]? = some (.deferred (some [])) ∧ Ext w ((W.setCell ⟨w.heap.size, 0, none⟩ a).setCell ⟨w.heap.size + 1, 0, none⟩ b) ∧
    ((W.setCell ⟨w.heap.size, 0, none⟩ a).setCell ⟨w.heap.size + 1, 0, none⟩ b).ownsRow (w.heap.size + 4) 48 8 u L.length (L.flatMap Cap.cs) := by
  have g1 := grownBy_set W ⟨w.heap.size, 0, none⟩ a
  have g2 := grownBy_set (W.setCell ⟨w.heap.size, 0, none⟩ a) ⟨w.heap.size + 1, 0, none⟩ b
  refine ⟨⟨blk_grow (box1_set h.1.2.1 a) g2 (fun e => by have := Option.some.inj e; dsimp only at this; omega), box1_set (blk_grow h.1.2.2.1 g1 (fun e => by have := Option.some.inj e; dsimp only at this; omega)) b⟩,
    blk_grow (blk_grow hK g1 (fun e => by have := Option.some.inj e; dsimp only at this; omega)) g2 (fun e => by have := Option.some.inj e; dsimp only at this; omega),
    (h.1.1.setCell (Nat.le_refl _) _).setCell (by dsimp only; omega) _, own_set (own_set h.2 (by dsimp only; omega) _) (by dsimp only; omega) _⟩
theorem pc_put {w V : World} {D : Nat} {a b : Value} (h1 : V.heap[w.heap.size]? = some (.cells #[a] 22 (0, 0))) (h2 : V.heap[w.heap.size + 1]? = some (.cells #[b] 4 (0, 0))) (hx : Ext w V) (hD : w.heap.size + 4 ≤ D) :
    ((V.putObj D (.deferred none)).heap[w.heap.size]? = some (.cells #[a] 22 (0, 0)) ∧ (V.putObj D (.deferred none)).heap[w.heap.size + 1]? = some (.cells #[b] 4 (0, 0))) ∧ Ext w (V.putObj D (.deferred none)) := by
  have hg := grownBy_putObj' V D (.deferred none)
  exact ⟨⟨blk_grow h1 hg (fun e => by have := Option.some.inj e; omega), blk_grow h2 hg (fun e => by have := Option.some.inj e; omega)⟩, hx.grown hg (fun j e => by cases e; omega)⟩
theorem impl_ParseCapture (s : ByteArray) (w : World) (hv : Vrs w) (ht : Tab w) (h : s.size ≤ 1048576) :
    Calls Tryz.prog 7 #[.string s] w fun e w' => ∃ r, e = .returned (.tuple #[r, .bool (PC s).isSome]) ∧ w'.ownsRow w.heap.size 48 8 r (pcL (PC s)).length ((pcL (PC s)).flatMap Cap.cs) ∧ Ext w w' := by
  have Hv := hid hv
  have Ht := hid ht
  clear hv ht
  refine (callsIn_wide (n := 9)).1 ?_
  refine callsIn_of_wp_marks Tryz.func7 rfl trivial ?_ rfl
  simp only [Tryz.ntmps7, List.size_toArray, List.length_cons, List.length_nil, Nat.reduceAdd, Nat.reduceSub, Array.replicate_succ, Array.replicate_zero, List.push_toArray, List.append_toArray, List.nil_append, List.cons_append]
  gi_wp2_with (refine ⟨trivial, ?_⟩; gi_at_call 41; refine (callsIn_wide.2 (strings_Lines s _)).mono ?_; rintro e w' ⟨rfl, rfl⟩)
  have X4 : Ext w ((((w.alloc (.cells #[.slice none 0 0] 22)).alloc (.cells #[.bool false] 4)).alloc (.cells #[.slice none 0 0] 22)).alloc (.cells #[.string s] 9)) := (by repeat' (first | exact Ext.refl _ | assumption | refine Ext.alloc ?_ _ | refine Ext.ext ?_ _ | refine Ext.drew ?_ | refine Ext.drewN ?_ _))
  have hZ : ((((w.alloc (.cells #[.slice none 0 0] 22)).alloc (.cells #[.bool false] 4)).alloc (.cells #[.slice none 0 0] 22)).alloc (.cells #[.string s] 9)).heap[w.heap.size + 1 + 1 + 1]? = some (.cells #[.string s] 9 (0, 0)) := heap_at _ (by simp)
  have hsz : ((((w.alloc (.cells #[.slice none 0 0] 22)).alloc (.cells #[.bool false] 4)).alloc (.cells #[.slice none 0 0] 22)).alloc (.cells #[.string s] 9)).heap.size = w.heap.size + 4 := by simp
  have hI0 : PcI w s s ((((w.alloc (.cells #[.slice none 0 0] 22)).alloc (.cells #[.bool false] 4)).alloc (.cells #[.slice none 0 0] 22)).alloc (.cells #[.string s] 9)) :=
    ⟨.slice none 0 0, [], ⟨⟨X4, heap_old (heap_old (heap_old (heap_at _ rfl) _) _) _, heap_old (heap_old (heap_at _ (by simp)) _) _, heap_old (heap_at _ (by simp)) _⟩, World.ownsRow_nil _ _ _ _⟩, PcN.start s, by rw [hsz]; exact Nat.le_refl _⟩
  generalize ((((w.alloc (.cells #[.slice none 0 0] 22)).alloc (.cells #[.bool false] 4)).alloc (.cells #[.slice none 0 0] 22)).alloc (.cells #[.string s] 9)) = W4 at *
  refine wpIn_text (n := 9) (gf := 84) (Z := w.heap.size + 1 + 1 + 1) (t := 9) (hd := lnA) (tl := lnZ) (lines_seq 8 (by omega) _) rfl (enters_of Tryz.func84 (by kernel_rfl) rfl) rfl s h hZ (PcI w s) (PcX w s) (fun R => by rw [hsz]; exact PcI.own w s R) (by rw [hsz]; exact PcX.own w s) hI0
    (fun R => { tmps := #[.string s, undef, .pointer (some ⟨w.heap.size, 0, none⟩), .pointer (some ⟨w.heap.size + 1, 0, none⟩), .pointer (some ⟨w.heap.size + 1 + 1, 0, none⟩), .string (lnA R), undef, undef, .string s, .func (.func 84) #[] #[.pointer (some ⟨w.heap.size + 1 + 1 + 1, 0, none⟩)], .string (lnA R), undef, undef, undef, undef, undef, undef, undef, undef, undef, undef, undef, undef, undef, undef, undef, undef, undef, undef, undef, undef, undef], defers := [] }) ?assign ?body ?done ?stop
  case assign =>
    intro l R W K hK
    gi_wp2
    exact hK
  case body =>
    rintro l R W ⟨u, L, hS, hN, hWz⟩ hpos hRs
    have hA := lnA_size R
    have cp := hid (fun W hv ht => impl_parseCaptured (lnA R) W hv ht (by omega))
    have HS := hid hS
    have HN := hid hN
    have hls := hN.1.1
    obtain ⟨up, uc, rfl⟩ := own_shape hS.2
    have hno := hid (fun h => PcN.bad hN hpos h)
    have hstep := hid (fun x h => PcN.step hN hpos (x := x) h)
    clear hS hN
    generalize wdB (splS (trN (lnA R)) 32) = ok at *
    generalize lnA R = A at *
    obtain ⟨i0, hi, hz0, hz1, hz2⟩ := info_parts infoCap
    gi_wp2_with fail
    refine ⟨trivial, ?_⟩
    gi_at_call 42
    refine (CallsIn.inRound l (callsIn_wide.2 (cp.out _ (Hv.out.ext (HS.out.1.1.trans (by repeat' (first | exact Ext.refl _ | assumption | refine Ext.alloc ?_ _ | refine Ext.ext ?_ _ | refine Ext.drew ?_ | refine Ext.drewN ?_ _)))) (Ht.out.ext (HS.out.1.1.trans (by repeat' (first | exact Ext.refl _ | assumption | refine Ext.alloc ?_ _ | refine Ext.ext ?_ _ | refine Ext.drew ?_ | refine Ext.drewN ?_ _))))))).mono ?_
    rintro e w5 ⟨⟨t, n, v, c, m, r, q, d⟩, rfl, hwd, hds, hx⟩
    dsimp only [Cap.cs]
    have X6 : Ext w5 (w5.alloc (.cells #[.int .i64 t, .int .i64 n, .bool v, .int .i64 c, .int .i64 m, .int .i64 r, .int .i64 q, .string d] 48)) := (by repeat' (first | exact Ext.refl _ | assumption | refine Ext.alloc ?_ _ | refine Ext.ext ?_ _ | refine Ext.drew ?_ | refine Ext.drewN ?_ _))
    have hCb := hid (show (w5.alloc (.cells #[.int .i64 t, .int .i64 n, .bool v, .int .i64 c, .int .i64 m, .int .i64 r, .int .i64 q, .string d] 48)).heap[w5.heap.size]? = some (.cells #[.int .i64 t, .int .i64 n, .bool v, .int .i64 c, .int .i64 m, .int .i64 r, .int .i64 q, .string d] 48 (0, 0)) from heap_at _ rfl)
    have HX6 := hid (((show Ext W _ from (by repeat' (first | exact Ext.refl _ | assumption | refine Ext.alloc ?_ _ | refine Ext.ext ?_ _ | refine Ext.drew ?_ | refine Ext.drewN ?_ _))).trans hx).trans X6)
    have H6 := hid (HS.out.ext HX6.out)
    have hXs := hid (And.intro hwd hds)
    cases ok
    · have hpn := hno.out rfl
      have Hpn := hid hpn
      obtain ⟨r0, r1, r2⟩ := box1 H6.out.1.2.1
      obtain ⟨q0, q1, q2⟩ := box1 H6.out.1.2.2.1
      clear hpn hx X6 hwd hds
      gi_wp2
      refine ⟨((kf_ext HX6.out).trans ((KeepsOthers.setCell _ _ _).from _)).trans ((KeepsOthers.setCell _ _ _).from _), ⟨(H6.out.1.1.setCell (Nat.le_refl _) _).setCell (by dsimp only; omega) _, ?_, ?_⟩, Hpn.out⟩
      · exact blk_grow (box1_set H6.out.1.2.1 (.slice none 0 0)) (grownBy_set _ ⟨w.heap.size + 1, 0, none⟩ _) (fun e => by have := Option.some.inj e; dsimp only at this; omega)
      · exact box1_set (blk_grow H6.out.1.2.2.1 (grownBy_set _ ⟨w.heap.size, 0, none⟩ _) (fun e => by have := Option.some.inj e; dsimp only at this; omega)) (.bool false)
    · obtain ⟨r0, r1, r2⟩ := box1 H6.out.1.2.2.2
      obtain ⟨⟨c0, c1, c2, c3, c4, c5, c6, c7⟩, -, -⟩ := box8 hCb.out
      have hZ6 := hid (HX6.out.heap (k := w.heap.size + 1 + 1 + 1) (by omega))
      have hZs := hid (Nat.le_trans hWz HX6.out.size)
      clear hx X6 hwd hds
      gi_wp2_with (gi_at_builtin; refine wpListIn_append_own _ rfl _ _ 22 rfl (w.heap.size + 4) 48 i0 (.agg #[.int .i64 0, .int .i64 0, .bool false, .int .i64 0, .int .i64 0, .int .i64 0, .int .i64 0, .string ByteArray.empty]) 8 72 Tryz.underlying22 hi hz0 hz1 hz2 rfl (by decide) _ _ _ rfl (own_ext H6.out.2 (by repeat' (first | exact Ext.refl _ | assumption | refine Ext.alloc ?_ _ | refine Ext.ext ?_ _ | refine Ext.drew ?_ | refine Ext.drewN ?_ _))) ⟨_, 0, none⟩ 1 1 [.int .i64 t, .int .i64 n, .bool v, .int .i64 c, .int .i64 m, .int .i64 r, .int .i64 q, .string d] rfl rfl ?a1A ?a2A ?a3A ?a4A ?a5A ?_)
      case a2A => simp [Value.oneCell']
      case a3A => (unfold maxLen; omega)
      case a4A => omega
      case a5A => (have := hZs.out; simp at this; omega)
      intro v' w7 hown' hgrow _
      obtain ⟨g', cap', rfl, -, -⟩ := own_form8 hown' (Nat.succ_pos _)
      have XA : Ext (w5.alloc (.cells #[.int .i64 t, .int .i64 n, .bool v, .int .i64 c, .int .i64 m, .int .i64 r, .int .i64 q, .string d] 48)) ((w5.alloc (.cells #[.int .i64 t, .int .i64 n, .bool v, .int .i64 c, .int .i64 m, .int .i64 r, .int .i64 q, .string d] 48)).alloc (.cells #[.int .i64 t, .int .i64 n, .bool v, .int .i64 c, .int .i64 m, .int .i64 r, .int .i64 q, .string d] 48)) := (by repeat' (first | exact Ext.refl _ | assumption | refine Ext.alloc ?_ _ | refine Ext.ext ?_ _ | refine Ext.drew ?_ | refine Ext.drewN ?_ _))
      have H7 := hid (H6.out.ext XA)
      have hne : ∀ k, k < w.heap.size + 4 → (Value.slice up L.length uc).ownBlock ≠ some k := fun k hk e => by have := (own_row H7.out.2 k e).1; omega
      have HB := hid (PcS.grow (x := ⟨t, n, v, c, m, r, q, d⟩) H7.out hgrow hown')
      have hLB := blk_grow H7.out.1.2.2.2 hgrow (hne _ (by omega))
      obtain ⟨s0, s1, s2⟩ := box1 hLB
      have hK7 := hid ((((kf_ext (B := w.heap.size + 4) HX6.out).trans (kf_ext XA)).trans (kf_own H7.out.2 hgrow)).trans ((KeepsOthers.setCell w7 ⟨w.heap.size + 1 + 1, 0, none⟩ (.slice (some ⟨g', 0, none⟩) (L.length + 1) cap')).from _))
      have hz7 : w7.heap[w.heap.size + 1 + 1 + 1]? = W.heap[w.heap.size + 1 + 1 + 1]? := (hgrow.block _ (by have := hZs.out; have := XA.size; omega) (fun e => hne _ (by omega) e.symm)).trans ((XA.heap (by have := hZs.out; omega)).trans hZ6.out)
      have hz8 := hid (((grownBy_set w7 ⟨w.heap.size + 1 + 1, 0, none⟩ (.slice (some ⟨g', 0, none⟩) (L.length + 1) cap')).block (w.heap.size + 1 + 1 + 1) (by have := hZs.out; have := XA.size; have := hgrow.size; omega) (fun e => by have := Option.some.inj e; dsimp only at this; omega)).trans hz7)
      have hsz9 := hid (show w.heap.size + 4 ≤ (w7.setCell ⟨w.heap.size + 1 + 1, 0, none⟩ (.slice (some ⟨g', 0, none⟩) (L.length + 1) cap')).heap.size from by have := hZs.out; have := XA.size; have := hgrow.size; simp; omega)
      have hN9 := hid (hstep.out ⟨t, n, v, c, m, r, q, d⟩ (hXs.out.1 trivial) hXs.out.2)
      clear hown' hgrow hLB hz7 r0 r1 r2 c0 c1 c2 c3 c4 c5 c6 c7 hne XA
      gi_wp2
      exact ⟨⟨hK7.out, hz8.out⟩, _, _, HB.out, hN9.out, hsz9.out⟩
  case done =>
    rintro D R W hD hR0 ⟨u, L, hS, hN, hWz⟩ hK
    rw [hsz] at hD
    have hfin := hN.fin hR0
    have hLn : L.length ≤ 1048576 := by have := hN.1.1; omega
    have hLc : Cap.chars L ≤ 1048576 := by have := hN.1.2; omega
    obtain ⟨up, uc, rfl⟩ := own_shape hS.2
    have cI := hid (fun W h => impl_IsCapture L (.slice up L.length uc) W h hLn hLc)
    have cT := hid (fun W h ha ht => impl_captureText L (.slice up L.length uc) W h hLn ha ht)
    have HS := hid hS
    have HK := hid hK
    have hDl : D < W.heap.size := (Array.getElem?_eq_some_iff.1 hK).1
    obtain ⟨r0, r1, r2⟩ := box1 hS.1.2.2.2
    clear hS hN hK
    cases hB : capB L
    · rw [hB] at cI
      have hp : PC s = none := PC_none fun xs h => by rw [← hfin xs h] at h; rw [h.1] at hB; cases hB
      have Hp := hid hp
      clear hfin hp hB cT
      gi_wp2_with fail
      refine ⟨trivial, ?_⟩
      gi_at_call 15
      refine (callsIn_wide.2 (cI.out _ (Rd.own HS.out.2))).mono ?_
      rintro e w5 ⟨rfl, hx⟩
      have H5 := hid (HS.out.ext hx)
      have K5 := hid ((hx.heap hDl).trans HK.out)
      obtain ⟨s0, s1, s2⟩ := box1 H5.out.1.2.1
      obtain ⟨q0, q1, q2⟩ := box1 H5.out.1.2.2.1
      clear hx HS r0 r1 r2 cI
      obtain ⟨⟨p1, p2⟩, p3, p4, p5⟩ := pc_store H5.out K5.out hD (.slice none 0 0) (.bool false)
      have HP := hid (And.intro (pc_put p1 p2 p4 hD) p3)
      clear p1 p2 p3 p4 p5
      gi_wp2
      refine ⟨trivial, ?_⟩
      gi_wp2
      refine ⟨by simp, .inl ⟨_, _, rfl, run_takeDeferred HP.out.2, ?_⟩⟩
      refine ⟨_, results_pp _ _ w.heap.size (w.heap.size + 1) _ _ _ _ _ _ rfl HP.out.1.1.1 Tryz.underlying22 rfl rfl HP.out.1.1.2 Tryz.underlying4 rfl rfl, ?_⟩
      rw [Hp.out]
      exact ⟨_, rfl, World.ownsRow_nil _ _ _ _, HP.out.1.2⟩
    · rw [hB] at cI
      clear hWz
      gi_wp2_with fail
      refine ⟨trivial, ?_⟩
      gi_at_call 15
      refine (callsIn_wide.2 (cI.out _ (Rd.own HS.out.2))).mono ?_
      rintro e w5 ⟨rfl, hx⟩
      have H5 := hid (HS.out.ext hx)
      have K5 := hid ((hx.heap hDl).trans HK.out)
      have hDl5 := Nat.lt_of_lt_of_le hDl hx.size
      obtain ⟨s0, s1, s2⟩ := box1 H5.out.1.2.2.2
      clear hx HS HK r0 r1 r2 cI hDl
      gi_wp2_with fail
      refine ⟨trivial, ?_⟩
      gi_at_call 43
      refine (callsIn_wide.2 (cT.out _ (Rd.own H5.out.2) hB (Ht.out.ext H5.out.1.1))).mono ?_
      rintro e w6 ⟨rfl, hx⟩
      have H6 := hid (H5.out.ext hx)
      have K6 := hid ((hx.heap hDl5).trans K5.out)
      obtain ⟨s0, s1, s2⟩ := box1 H6.out.1.2.2.2
      obtain ⟨t0, t1, t2⟩ := box1 H6.out.1.2.1
      obtain ⟨q0, q1, q2⟩ := box1 H6.out.1.2.2.1
      clear hx H5 K5 cT hDl5
      by_cases he : capTo L L.length = s
      · have te := str_yes he
        have hp : PC s = some L := PC_some (isPC_iff.2 ⟨hB, he⟩)
        have Hp := hid hp
        obtain ⟨⟨p1, p2⟩, p3, p4, p5⟩ := pc_store H6.out K6.out hD (.slice up L.length uc) (.bool true)
        have HP := hid (And.intro (pc_put p1 p2 p4 hD) (And.intro p3 p5))
        clear hfin hp hB he p1 p2 p3 p4 p5
        generalize capTo L L.length = T at *
        gi_wp2
        refine ⟨by simp, .inl ⟨_, _, rfl, run_takeDeferred HP.out.2.1, ?_⟩⟩
        refine ⟨_, results_pp _ _ w.heap.size (w.heap.size + 1) _ _ _ _ _ _ rfl HP.out.1.1.1 Tryz.underlying22 rfl rfl HP.out.1.1.2 Tryz.underlying4 rfl rfl, ?_⟩
        rw [Hp.out]
        exact ⟨_, rfl, own_mono (ownsRow_putObj HP.out.2.2 _ HP.out.2.1 rfl) (by omega), HP.out.1.2⟩
      · have te := str_no he
        have hp : PC s = none := PC_none fun xs h => he (by rw [hfin xs h]; exact (isPC_iff.1 h).2)
        have Hp := hid hp
        obtain ⟨⟨p1, p2⟩, p3, p4, p5⟩ := pc_store H6.out K6.out hD (.slice none 0 0) (.bool false)
        have HP := hid (And.intro (pc_put p1 p2 p4 hD) p3)
        clear hfin hp hB he p1 p2 p3 p4 p5
        generalize capTo L L.length = T at *
        gi_wp2
        refine ⟨by simp, .inl ⟨_, _, rfl, run_takeDeferred HP.out.2, ?_⟩⟩
        refine ⟨_, results_pp _ _ w.heap.size (w.heap.size + 1) _ _ _ _ _ _ rfl HP.out.1.1.1 Tryz.underlying22 rfl rfl HP.out.1.1.2 Tryz.underlying4 rfl rfl, ?_⟩
        rw [Hp.out]
        exact ⟨_, rfl, World.ownsRow_nil _ _ _ _, HP.out.1.2⟩
  case stop =>
    rintro D W hD ⟨⟨hx, h1, h2⟩, hp⟩ hK
    rw [hsz] at hD
    obtain ⟨r0, r1, r2⟩ := box1 h1
    obtain ⟨q0, q1, q2⟩ := box1 h2
    gi_wp2
    refine ⟨by simp, .inl ⟨_, _, rfl, run_takeDeferred hK, ?_⟩⟩
    have hg := grownBy_putObj' W D (.deferred none)
    have hD2 : D < W.heap.size := (Array.getElem?_eq_some_iff.1 hK).1
    refine ⟨_, results_pp _ _ w.heap.size (w.heap.size + 1) _ _ _ _ _ _ rfl (blk_grow h1 hg (fun e => by have := Option.some.inj e; omega)) Tryz.underlying22 rfl rfl (blk_grow h2 hg (fun e => by have := Option.some.inj e; omega)) Tryz.underlying4 rfl rfl, ?_⟩
    rw [hp]
    exact ⟨_, rfl, World.ownsRow_nil _ _ _ _, hx.grown hg (fun j e => by cases e; omega)⟩
end Go.Proofs.YtljknhocfjpolaaGreatDoor
