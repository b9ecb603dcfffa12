/- Nodes for a group: both sides. -/
import Derived.Test.YtlaochpkelbchaaGreatDoorKWGrp2
import Derived.Test.YtlaochpkelbchaaGreatDoorKWFan
import Derived.Test.YtlaochpkelbchaaGreatDoorKWPut2
import Derived.Test.YtlaochpkelbchaaGreatDoorJ33
namespace Go.Proofs.YtlaochpkelbchaaGreatDoor
open Go.RowKit
set_option maxHeartbeats 400000
set_option maxRecDepth 100000
theorem isNode_iff' {n : Nat} {x : Int} : isNode n x = true ↔ 0 ≤ x ∧ x < n := by
  rw [isNode, inB_iff]; omega
theorem allG_mem' {q : Int → Bool} {xs : List Int} (h : allG q xs = true) (y : Int) (hy : y ∈ xs) : q y = true := by
  obtain ⟨i, hi, rfl⟩ := List.mem_iff_getElem.1 hy
  have := (List.all_eq_true.1 h) i (List.mem_range.2 hi)
  rwa [List.getD_eq_getElem?_getD, List.getElem?_eq_getElem hi] at this
def nfB (ps : List Int) (s : ByteArray) (ms : List Int) : Bool := okG s ms && (goodT ps && nodesIn ps ms)
def nfL (ps : List Int) (s : ByteArray) (ms : List Int) : List Int := if nfB ps s ms then fan (path ps) ms else []
theorem nfL_no {ps : List Int} {s : ByteArray} {ms : List Int} (h : nfB ps s ms = false) : nfL ps s ms = [] := by rw [nfL, h]; rfl
theorem nfL_yes {ps : List Int} {s : ByteArray} {ms : List Int} (h : nfB ps s ms = true) : nfL ps s ms = fan (path ps) ms := by rw [nfL, h]; rfl
theorem nfB_all {ps : List Int} {s : ByteArray} {ms : List Int} (h : nfB ps s ms = true) : okG s ms = true ∧ goodT ps = true ∧ ∀ y ∈ ms, 0 ≤ y ∧ y < ps.length := by
  simp only [nfB, Bool.and_eq_true] at h
  exact ⟨h.1, h.2.1, fun y hy => isNode_iff'.1 (allG_mem' h.2.2 y hy)⟩
theorem fan_nodes {ps ns : List Int} (hg : goodT ps = true) (hn : ∀ y ∈ ns, 0 ≤ y ∧ y < ps.length) (y : Int) (hy : y ∈ fan (path ps) ns) : 0 ≤ y ∧ y < ps.length := by
  obtain ⟨x, hx, h⟩ := (fan_mem _ _ _).1 hy
  exact path_mem hg (hn x hx).2 y h
theorem fan_small {ps ns : List Int} (hg : goodT ps = true) (hn : ∀ y ∈ ns, 0 ≤ y ∧ y < ps.length) : (fan (path ps) ns).length ≤ 8 := by
  have := goodT_len hg
  refine Nat.le_trans (asc_len (n := ps.length) _ 0 (fan_asc _ _) (fun y hy => ?_)) (by omega)
  have := fan_nodes hg hn y hy
  omega
theorem nfL_len (ps : List Int) (s : ByteArray) (ms : List Int) : (nfL ps s ms).length ≤ 8 := by
  cases h : nfB ps s ms
  · rw [nfL_no h]; simp
  · rw [nfL_yes h]
    obtain ⟨_, b, c⟩ := nfB_all h
    exact fan_small b c
/-- The last member is in the tree: all are. -/
theorem last_in {ps : List Int} {s : ByteArray} {ms : List Int} (h : okG s ms = true) : nodesIn ps ms = decide (ms.getD (ms.length - 1) 0 < ps.length) := by
  obtain ⟨_, h0, hr⟩ := okG_all h
  have hb := risB_in hr
  have ha := risB_asc hr
  rw [Bool.eq_iff_iff, decide_eq_true_eq]
  constructor
  · intro hx
    have := (List.all_eq_true.1 hx) (ms.length - 1) (List.mem_range.2 (by omega))
    exact (isNode_iff'.1 this).2
  · intro hl
    refine allTo (fun i hi => isNode_iff'.2 ⟨by have := hb i hi; omega, ?_⟩)
    by_cases e : i = ms.length - 1
    · subst e; exact hl
    · have := asc_lt ha (i := i) (j := ms.length - 1) (by omega) (by omega)
      omega
theorem dis_rows {w w' : World} {base base' e e' k k' n m : Nat} {v : Value} {cs ds : List Value} {p' : Option Addr} {c' : Nat} (h : w.ownsRow base e k v n cs) (h' : w'.ownsRow base' e' k' (.slice p' m c') m ds) (hb : w.heap.size ≤ base') :
    ∀ j, v.ownBlock = some j → ∀ a, p' = some a → a.block ≠ j := fun j hj a ha => by
  have h1 := (own_row h j hj).2
  subst ha
  have h2 := (own_row h' a.block (by obtain ⟨-, ⟨h, -⟩ | ⟨g, cap, cur, h, -⟩⟩ := h' <;> cases h; rfl)).1
  omega
theorem impl_NodesFor (ps : List Int) (s : ByteArray) (ms : List Int) (v u : Value) (w : World) (h : Rd w 1 v ps.length (vInts ps)) (k : Rd w 1 u ms.length (vInts ms)) (h2 : ps.length ≤ 1048576) (hs : s.size ≤ 1048576) (k2 : ms.length ≤ 1048576) :
    Calls Tryz.prog 6 #[.agg #[v], .agg #[.string s, u]] w fun e w' => ∃ r, e = .returned (.tuple #[r, .bool (nfB ps s ms)]) ∧ w'.ownsRow w.heap.size 3 1 r (nfL ps s ms).length (vInts (nfL ps s ms)) ∧ Ext w w' := by
  have Hr := hid h
  have Kr := hid k
  obtain ⟨-, yp, yc, rfl, m4⟩ := k
  have M4 := hid m4
  clear h m4
  have hg : Hid (∀ (w : World), Rd w 1 (.slice yp ms.length yc) ms.length (vInts ms) → Calls Tryz.prog 25 #[.agg #[.string s, .slice yp ms.length yc]] w fun e w' => e = .returned (.bool (okG s ms)) ∧ Ext w w') :=
    fun w k => impl_isGroup s ms _ w hs k k2
  have hn : Hid (∀ (w : World), Rd w 1 v ps.length (vInts ps) → Rd w 1 (.slice yp ms.length yc) ms.length (vInts ms) → Calls Tryz.prog 26 #[.agg #[v], .slice yp ms.length yc] w fun e w' => e = .returned (.bool (goodT ps && nodesIn ps ms)) ∧ Ext w w') :=
    fun w h k => impl_hasNodes ps ms v _ w h k h2 k2
  have XB : Ext w ((w.alloc (.cells #[v] 26)).alloc (.cells #[.string s, .slice yp ms.length yc] 28)) := (by repeat' (first | exact Ext.refl _ | assumption | refine Ext.alloc ?_ _ | refine Ext.ext ?_ _ | refine Ext.drew ?_ | refine Ext.drewN ?_ _))
  have b0 : ((w.alloc (.cells #[v] 26)).alloc (.cells #[.string s, .slice yp ms.length yc] 28)).cell? ⟨w.heap.size, 0, none⟩ = some v := by rw [cell_of_row _ _ 0 _ _ (0, 0) (heap_old (heap_at _ rfl) _)]; rfl
  have b1 : ((w.alloc (.cells #[v] 26)).alloc (.cells #[.string s, .slice yp ms.length yc] 28)).cell? ⟨w.heap.size + 1, 0, none⟩ = some (.string s) := by rw [cell_of_row _ _ 0 _ _ (0, 0) (heap_at _ (by simp))]; rfl
  have b2 : ((w.alloc (.cells #[v] 26)).alloc (.cells #[.string s, .slice yp ms.length yc] 28)).cell? ⟨w.heap.size + 1, 1, none⟩ = some (.slice yp ms.length yc) := by rw [cell_of_row _ _ 1 _ _ (0, 0) (heap_at _ (by simp))]; rfl
  generalize hw0 : ((w.alloc (.cells #[v] 26)).alloc (.cells #[.string s, .slice yp ms.length yc] 28)) = w0 at *
  have Hw0 := hid hw0
  have Bx := hid (And.intro b0 (And.intro b1 b2))
  clear hw0 b0 b1 b2
  cases e1 : okG s ms
  · have hno : nfB ps s ms = false := by rw [nfB, e1]; rfl
    rw [nfL_no hno, hno]
    rw [e1] at hg
    clear hno e1 hn
    go_enter Tryz.func6, Tryz.ntmps6
    go_wp2_with fail
    rw [Hw0.out]
    obtain ⟨b0, b1, b2⟩ := Bx.out
    clear Hw0
    go_wp2_with (go_at_call 25; (with_reducible refine (hg.out _ (Kr.out.ext (XB.trans (by repeat' (first | exact Ext.refl _ | assumption | refine Ext.alloc ?_ _ | refine Ext.ext ?_ _ | refine Ext.drew ?_ | refine Ext.drewN ?_ _))))).mono ?_); rintro e w' ⟨rfl, z1, rfl⟩)
    go_ret2
    exact ⟨_, rfl, World.ownsRow_nil _ _ _ _, XB.trans (by repeat' (first | exact Ext.refl _ | assumption | refine Ext.alloc ?_ _ | refine Ext.ext ?_ _ | refine Ext.drew ?_ | refine Ext.drewN ?_ _))⟩
  rw [e1] at hg
  cases e2 : (goodT ps && nodesIn ps ms)
  · have hno : nfB ps s ms = false := by rw [nfB, e1, e2]; rfl
    rw [nfL_no hno, hno]
    rw [e2] at hn
    clear hno e1 e2
    go_enter Tryz.func6, Tryz.ntmps6
    go_wp2_with fail
    rw [Hw0.out]
    obtain ⟨b0, b1, b2⟩ := Bx.out
    clear Hw0
    go_wp2_with (first | (go_at_call 25; (with_reducible refine (hg.out _ (Kr.out.ext (XB.trans (by repeat' (first | exact Ext.refl _ | assumption | refine Ext.alloc ?_ _ | refine Ext.ext ?_ _ | refine Ext.drew ?_ | refine Ext.drewN ?_ _))))).mono ?_); rintro e w' ⟨rfl, z1, rfl⟩) | (go_at_call 26; (with_reducible refine (hn.out _ (Hr.out.ext (XB.trans (by repeat' (first | exact Ext.refl _ | assumption | refine Ext.alloc ?_ _ | refine Ext.ext ?_ _ | refine Ext.drew ?_ | refine Ext.drewN ?_ _)))) (Kr.out.ext (XB.trans (by repeat' (first | exact Ext.refl _ | assumption | refine Ext.alloc ?_ _ | refine Ext.ext ?_ _ | refine Ext.drew ?_ | refine Ext.drewN ?_ _))))).mono ?_); rintro e w' ⟨rfl, z2, rfl⟩))
    go_ret2
    exact ⟨_, rfl, World.ownsRow_nil _ _ _ _, XB.trans (by repeat' (first | exact Ext.refl _ | assumption | refine Ext.alloc ?_ _ | refine Ext.ext ?_ _ | refine Ext.drew ?_ | refine Ext.drewN ?_ _))⟩
  rw [e2] at hn
  have hyes : nfB ps s ms = true := by rw [nfB, e1, e2]; rfl
  rw [nfL_yes hyes, hyes]
  obtain ⟨_, hT, g4⟩ := nfB_all hyes
  have hlen := goodT_len hT
  have hpp := fun x w h (hx : 0 ≤ x ∧ x < (ps.length : Int)) => impl_path ps v x w h hT (by omega) hx.2
  have Hpp := hid hpp
  have G4 := hid g4
  have HT := hid hT
  clear hyes e1 e2 hpp g4 hT
  go_enter Tryz.func6, Tryz.ntmps6
  go_wp2_with fail
  rw [Hw0.out]
  obtain ⟨b0, b1, b2⟩ := Bx.out
  clear Hw0
  go_wp2_with (first | (go_at_call 25; (with_reducible refine (hg.out _ (Kr.out.ext (XB.trans (by repeat' (first | exact Ext.refl _ | assumption | refine Ext.alloc ?_ _ | refine Ext.ext ?_ _ | refine Ext.drew ?_ | refine Ext.drewN ?_ _))))).mono ?_); rintro e w' ⟨rfl, z1, rfl⟩) | (go_at_call 26; (with_reducible refine (hn.out _ (Hr.out.ext (XB.trans (by repeat' (first | exact Ext.refl _ | assumption | refine Ext.alloc ?_ _ | refine Ext.ext ?_ _ | refine Ext.drew ?_ | refine Ext.drewN ?_ _)))) (Kr.out.ext (XB.trans (by repeat' (first | exact Ext.refl _ | assumption | refine Ext.alloc ?_ _ | refine Ext.ext ?_ _ | refine Ext.drew ?_ | refine Ext.drewN ?_ _))))).mono ?_); rintro e w' ⟨rfl, z2, rfl⟩))
  have HX := hid (show Ext w0 ((w0.ext z1).ext z2) from (by repeat' (first | exact Ext.refl _ | assumption | refine Ext.alloc ?_ _ | refine Ext.ext ?_ _ | refine Ext.drew ?_ | refine Ext.drewN ?_ _)))
  generalize (w0.ext z1).ext z2 = W at *
  clear b0 b1 b2
  go_loopw [24, 6] (fun v24 v6 wr => ∃ k : Nat, k ≤ ms.length ∧ v24 = .int .i64 k ∧ wr.ownsRow W.heap.size 3 1 v6 (fan (path ps) (ms.take k)).length (vInts (fan (path ps) (ms.take k))) ∧ Ext W wr) (fun v24 _ _ => ms.length - (intOf v24).toNat)
  case atStart => exact ⟨0, Nat.zero_le _, rfl, World.ownsRow_nil _ _ _ _, Ext.refl _⟩
  case round =>
    obtain ⟨k, hk, rfl, hown, hx⟩ := hrel
    obtain ⟨wo, rfl⟩ : ∃ wo : World, wo = wr := ⟨_, rfl⟩
    have b0 := hx.cell (HX.out.cell Bx.out.1)
    have b1 := hx.cell (HX.out.cell Bx.out.2.1)
    have b2 := hx.cell (HX.out.cell Bx.out.2.2)
    have XO := XB.trans (HX.out.trans hx)
    by_cases hlt : k < ms.length
    · obtain ⟨b, off, rfl, h6⟩ := M4.out.resolve_left (by omega)
      have c0 := XO.cell (elem1 (Value.int .i64) 0 ms h6 k hlt)
      have hxo := G4.out _ (mem_getD hlt)
      have hsn := fan_snoc (path ps) ms k hlt
      have hlin := fan_nodes HT.out (mem_take_in G4.out (k + 1))
      rw [hsn] at hlin
      have hasc := fan_asc (path ps) (ms.take k)
      generalize ms.getD k 0 = x at c0 hxo hsn hlin
      have hp := fun w h => Hpp.out x w h hxo
      have hpl := path_len HT.out hxo.2
      generalize path ps x = R at hsn hlin hp hpl
      generalize fan (path ps) (ms.take k) = L at *
      have hll : ∀ j, (putAll L (R.take j)).length ≤ 8 := fun j => by
        refine Nat.le_trans (asc_len (n := ps.length) _ 0 (putAll_asc _ _ hasc) (fun y hy => ?_)) (by omega)
        rcases (putAll_mem _ _ _).1 hy with h | h
        · have := hlin y ((putAll_mem _ _ _).2 (.inl h)); omega
        · have := hlin y ((putAll_mem _ _ _).2 (.inr (List.mem_of_mem_take h))); omega
      have Hsn := hid hsn
      have Hasc := hid hasc
      have Hp := hid hp
      have Hll := hid hll
      have Ho := hid hown
      clear hsn hasc hp hlin hown h6 hll
      go_wp2_with fail
      go_at_call 27
      refine (Hp.out _ (Hr.out.ext XO)).mono ?_
      rintro e w1 ⟨r, rfl, ho1, hx1⟩
      have b0 := hx1.cell b0
      have b1 := hx1.cell b1
      have b2 := hx1.cell b2
      have X1 := hid (hx.trans hx1)
      have Ho1 := hid (own_ext Ho.out hx1)
      have Hrt := hid (Rd.own ho1)
      obtain ⟨p', c', rfl⟩ := own_shape ho1
      have Hdis := hid (dis_rows Ho.out ho1 (Nat.le_refl _))
      clear ho1 hx hx1 XO
      go_wp2
      clear b0 b1 b2
      go_loopw [32, 6] (fun v32 v6 wr => ∃ j : Nat, j ≤ R.length ∧ v32 = .int .i64 j ∧ wr.ownsRow W.heap.size 3 1 v6 (putAll L (R.take j)).length (vInts (putAll L (R.take j))) ∧ Ext W wr ∧ Hid (Rd wr 1 (.slice p' R.length c') R.length (vInts R) ∧ (∀ j, v6.ownBlock = some j → ∀ a, p' = some a → a.block ≠ j))) (fun v32 _ _ => R.length - (intOf v32).toNat)
      case atStart => exact ⟨0, Nat.zero_le _, rfl, Ho1.out, X1.out, ⟨Hrt.out, Hdis.out⟩⟩
      case round =>
        obtain ⟨j, hj, rfl, hown2, hx2, hrd⟩ := hrel
        by_cases hlt2 : j < R.length
        · obtain ⟨-, p4, c4, e4, q4⟩ := hrd.out.1
          cases e4
          obtain ⟨b4, off4, rfl, q6⟩ := q4.resolve_left (by omega)
          have d0 := elem1 (Value.int .i64) 0 R q6 j hlt2
          have hblk := World.block_lt_of_cell? _ _ d0
          have hps := putAll_snoc L R j hlt2
          have hpa := putAll_asc (R.take j) L Hasc.out
          have hpl := Hll.out j
          generalize R.getD j 0 = q at d0 hps
          generalize putAll L (R.take j) = M at *
          have Hps := hid hps
          have Hpa := hid hpa
          have Hx2 := hid hx2
          have Ho2 := hid hown2
          clear hps hpa hx2 hown2 q4 q6
          go_wp2_with fail
          go_at_call 28
          refine (impl_withNode M _ q W.heap.size _ Ho2.out Hpa.out Hx2.out.size (by omega)).mono ?_
          rintro e w3 ⟨r3, rfl, ho3, hg3, hj3⟩
          have hx3 := hid (Ext.grown Hx2.out hg3 (fun j hj => (own_row Ho2.out j hj).1))
          have hr3 := hid (rd_grown hrd.out.1 hg3 (fun e => hrd.out.2 _ e.symm _ rfl rfl))
          have hd3 := hid (show ∀ j, r3.ownBlock = some j → ∀ a, some (⟨b4, off4, none⟩ : Addr) = some a → a.block ≠ j from fun j hj a ha => by
            cases ha
            rcases hj3 j hj with h | h
            · exact hrd.out.2 j h _ rfl
            · dsimp only at hblk ⊢; omega)
          have ho3' := hid ho3
          clear hg3 hj3 ho3 d0
          go_wp2
          go_roundw
          case rel => exact ⟨j + 1, by omega, by go_num, by rw [Hps.out]; exact ho3'.out, hx3.out, ⟨hr3.out, hd3.out⟩⟩
          case measure => simp [intOf]; omega
        · obtain rfl : j = R.length := by omega
          rw [List.take_length] at hown2
          have K := hid (And.intro hown2 hx2)
          clear hown2 hx2
          go_wp2
          go_roundw
          case rel => exact ⟨k + 1, by omega, by go_num, by rw [Hsn.out]; exact K.out.1, K.out.2⟩
          case measure => simp [intOf]; omega
    · obtain rfl : k = ms.length := by omega
      rw [List.take_length] at hown
      have Ho := hid hown
      clear hown hx hlt
      go_wp2
      go_ret2
      exact ⟨_, rfl, own_mono Ho.out (XB.trans HX.out).size, XO⟩
end Go.Proofs.YtlaochpkelbchaaGreatDoor
