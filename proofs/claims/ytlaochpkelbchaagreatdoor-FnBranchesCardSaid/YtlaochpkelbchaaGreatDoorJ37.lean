/- Delays. Delays to nodes. Worlds in which a span of blocks may have turned, and no other. -/
import Derived.Test.YtlaochpkelbchaaGreatDoorKWAsc
import Derived.Test.YtlaochpkelbchaaGreatDoorJ33
import Derived.Test.YtlaochpkelbchaaGreatDoorJ2
namespace Go.Proofs.YtlaochpkelbchaaGreatDoor
open Go.RowKit
set_option maxHeartbeats 400000
def delF (ds : List Int) (L : List Int) : Int := (L.map (fun y => ds.getD y.toNat 0)).sum
def del (ps ds : List Int) (x : Int) : Int := delF ds (path ps x)
theorem delF_snoc (ds L : List Int) (k : Nat) (h : k < L.length) : delF ds (L.take (k + 1)) = delF ds (L.take k) + ds.getD (L.getD k 0).toNat 0 := by
  rw [take_snoc L 0 k h]; simp [delF]
theorem cost_ds {ps ls ds : List Int} (h : goodC ps ls ds = true) (y : Int) (h0 : 0 ≤ y) (h1 : y < ps.length) : 0 ≤ ds.getD y.toNat 0 ∧ ds.getD y.toNat 0 ≤ 1000 := by
  have h4 := (goodC_all h).2.2.2.1
  have h5 := (List.all_eq_true.1 h4) y.toNat (List.mem_range.2 (by omega))
  rw [costOk, Bool.and_eq_true, inB_iff, inB_iff] at h5
  exact h5.2
theorem cost_ls {ps ls ds : List Int} (h : goodC ps ls ds = true) (y : Int) (h0 : 0 ≤ y) (h1 : y < ps.length) : 0 ≤ ls.getD y.toNat 0 ∧ ls.getD y.toNat 0 ≤ 100 := by
  have h4 := (goodC_all h).2.2.2.1
  have h5 := (List.all_eq_true.1 h4) y.toNat (List.mem_range.2 (by omega))
  rw [costOk, Bool.and_eq_true, inB_iff, inB_iff] at h5
  exact h5.1
theorem delF_bd {ps ls ds L : List Int} (h : goodC ps ls ds = true) (hL : ∀ y ∈ L, 0 ≤ y ∧ y < ps.length) : ∀ k, k ≤ L.length → 0 ≤ delF ds (L.take k) ∧ delF ds (L.take k) ≤ 1000 * k
  | 0, _ => by simp [delF]
  | k + 1, hk => by
    have h1 := delF_bd h hL k (by omega)
    have h2 := hL _ (mem_getD (L := L) (k := k) (by omega))
    have h3 := cost_ds h _ h2.1 h2.2
    rw [delF_snoc ds L k (by omega)]
    omega
theorem del_bd {ps ls ds : List Int} (h : goodC ps ls ds = true) {x : Int} (hx : x < ps.length) : 0 ≤ del ps ds x ∧ del ps ds x ≤ 8000 := by
  have hT := (goodC_all h).1
  have h1 := delF_bd h (path_mem hT hx) (path ps x).length (Nat.le_refl _)
  have h2 := path_len hT hx
  rw [List.take_length] at h1
  unfold del; omega
theorem spec_l6Node (ps : List Int) (v : Value) (x : Int) (w : World) (h : Rd w 1 v ps.length (vInts ps)) (h2 : ps.length ≤ 1048576) :
    Calls Tryz.prog 35 #[.agg #[v], .int .i64 x] w fun e w' => e = .returned (.bool (goodT ps && isNode ps.length x)) ∧ Ext w w' := by
  have hr := h
  obtain ⟨h1, p, cap, rfl, h4⟩ := h
  have Hr := hid hr
  clear h1 h4 hr
  cases hg : goodT ps
  · have Hg := hid hg
    go_enter Tryz.func35, Tryz.ntmps35
    go_wp2_with (go_at_call 60; refine (spec_l6Good ps _ _ (Hr.out.ext (by repeat' (first | exact Ext.refl _ | assumption | refine Ext.alloc ?_ _ | refine Ext.ext ?_ _ | refine Ext.drew ?_ | refine Ext.drewN ?_ _))) h2).mono ?_; rintro e w' ⟨rfl, z1, rfl⟩)
    go_ret
    exact ⟨by simp, (by repeat' (first | exact Ext.refl _ | assumption | refine Ext.alloc ?_ _ | refine Ext.ext ?_ _ | refine Ext.drew ?_ | refine Ext.drewN ?_ _))⟩
  · have Hg := hid hg
    go_enter Tryz.func35, Tryz.ntmps35
    go_wp2_with (first | (go_at_call 60; refine (spec_l6Good ps _ _ (Hr.out.ext (by repeat' (first | exact Ext.refl _ | assumption | refine Ext.alloc ?_ _ | refine Ext.ext ?_ _ | refine Ext.drew ?_ | refine Ext.drewN ?_ _))) h2).mono ?_; rintro e w' ⟨rfl, z1, rfl⟩) | (go_at_call 65; refine (spec_l1In _ _ _ _).mono ?_; rintro e w' ⟨rfl, rfl⟩))
    go_ret
    exact ⟨by simp [isNode], (by repeat' (first | exact Ext.refl _ | assumption | refine Ext.alloc ?_ _ | refine Ext.ext ?_ _ | refine Ext.drew ?_ | refine Ext.drewN ?_ _))⟩
end Go.Proofs.YtlaochpkelbchaaGreatDoor
namespace Go.Proofs.YtlaochpkelbchaaGreatDoor
open Go.RowKit
set_option maxHeartbeats 400000
def hasC (ps ls ds : List Int) (x : Int) : Bool := goodC ps ls ds && isNode ps.length x
theorem hasC_iff {ps ls ds : List Int} {x : Int} (h : hasC ps ls ds x = true) : goodC ps ls ds = true ∧ 0 ≤ x ∧ x < ps.length := by
  rw [hasC, Bool.and_eq_true, isNode, inB_iff] at h
  exact ⟨h.1, by omega, by omega⟩
theorem nodesIn_one (ps : List Int) (x : Int) : nodesIn ps [x] = isNode ps.length x := by simp [nodesIn, allG]
def delayTo (ps ls ds : List Int) (x : Int) : Int := if hasC ps ls ds x then del ps ds x else 0
theorem delayTo_no {ps ls ds : List Int} {x : Int} (h : hasC ps ls ds x = false) : delayTo ps ls ds x = 0 := by simp [delayTo, h]
theorem delayTo_yes {ps ls ds : List Int} {x : Int} (h : hasC ps ls ds x = true) : delayTo ps ls ds x = del ps ds x := by simp [delayTo, h]
end Go.Proofs.YtlaochpkelbchaaGreatDoor
namespace Go.RowKit
/-- w' is w with further blocks, and only blocks from lo to hi of w's may have turned. -/
def Turn (lo hi : Nat) (w w' : World) : Prop :=
  w'.os = w.os ∧ w'.tape = w.tape ∧ w'.output = w.output ∧ w.heap.size ≤ w'.heap.size ∧ ∀ k, k < w.heap.size → ¬ (lo ≤ k ∧ k < hi) → w'.heap[k]? = w.heap[k]?
theorem Turn.refl (lo hi : Nat) (w : World) : Turn lo hi w w := ⟨rfl, rfl, rfl, Nat.le_refl _, fun _ _ _ => rfl⟩
theorem Turn.trans {lo hi : Nat} {a b c : World} (h : Turn lo hi a b) (k : Turn lo hi b c) : Turn lo hi a c :=
  ⟨k.1.trans h.1, k.2.1.trans h.2.1, k.2.2.1.trans h.2.2.1, Nat.le_trans h.2.2.2.1 k.2.2.2.1, fun i hi hn => (k.2.2.2.2 i (Nat.lt_of_lt_of_le hi h.2.2.2.1) hn).trans (h.2.2.2.2 i hi hn)⟩
theorem Turn.size {lo hi : Nat} {a b : World} (h : Turn lo hi a b) : a.heap.size ≤ b.heap.size := h.2.2.2.1
theorem Turn.block {lo hi : Nat} {a b : World} (h : Turn lo hi a b) {k : Nat} (hk : k < a.heap.size) (hn : ¬ (lo ≤ k ∧ k < hi)) : b.heap[k]? = a.heap[k]? := h.2.2.2.2 k hk hn
theorem Turn.grown {lo hi : Nat} {a b c : World} {row : Option Nat} (h : Turn lo hi a b) (hg : b.grownBy c row) (hr : ∀ k, row = some k → lo ≤ k ∧ k < hi) : Turn lo hi a c :=
  h.trans ⟨hg.os, hg.tape, hg.output, hg.size, fun k hk hn => hg.block k hk (fun e => hn (hr k e.symm))⟩
theorem Turn.ext {lo hi : Nat} {a b c : World} (h : Turn lo hi a b) (hx : Ext b c) : Turn lo hi a c := h.grown (hx.grownBy none) (fun _ e => by cases e)
theorem Turn.wide {lo hi lo' hi' : Nat} {a b : World} (h : Turn lo hi a b) (h1 : lo' ≤ lo) (h2 : hi ≤ hi') : Turn lo' hi' a b :=
  ⟨h.1, h.2.1, h.2.2.1, h.2.2.2.1, fun k hk hn => h.2.2.2.2 k hk (fun e => hn ⟨by omega, by omega⟩)⟩
theorem Ext.turned {lo hi : Nat} {a b c : World} (h : Ext a b) (ht : Turn lo hi b c) (hl : a.heap.size ≤ lo) : Ext a c := by
  refine Below.ext ?_
  obtain ⟨h1, h2, h3, h4, h5⟩ := h.below
  exact ⟨ht.1.trans h1, ht.2.1.trans h2, ht.2.2.1.trans h3, Nat.le_trans h4 ht.size, fun k hk => (ht.block (Nat.lt_of_lt_of_le hk h4) (fun e => by omega)).trans (h5 k hk)⟩
theorem own_block {w w' : World} {base e k n : Nat} {v : Value} {cs : List Value} (h : w.ownsRow base e k v n cs) (hb : ∀ j, v.ownBlock = some j → w'.heap[j]? = w.heap[j]?) : w'.ownsRow base e k v n cs := by
  refine ⟨h.1, ?_⟩
  rcases h.2 with hn | ⟨g, cap, cur, rfl, h1, h2, h3⟩
  · exact .inl hn
  · refine .inr ⟨g, cap, cur, rfl, h1, ?_, h3⟩
    rw [hb g rfl]
    exact h2
theorem own_turned {lo hi : Nat} {w w' : World} {base e k n : Nat} {v : Value} {cs : List Value} (h : w.ownsRow base e k v n cs) (ht : Turn lo hi w w') (hd : ∀ j, v.ownBlock = some j → ¬ (lo ≤ j ∧ j < hi)) : w'.ownsRow base e k v n cs :=
  own_block h (fun j hj => ht.block (h.lt j hj).2 (hd j hj))
theorem Turn.cell {lo hi : Nat} {w w' : World} (ht : Turn lo hi w w') {p : Addr} {u : Value} (h : w.cell? p = some u) (hd : ¬ (lo ≤ p.block ∧ p.block < hi)) : w'.cell? p = some u := by
  rw [World.cell?_of_block (ht.block (World.block_lt_of_cell? w p h) hd)]; exact h
/-- What lies from lo up to w's end is in w' as it was. -/
def Keep (lo : Nat) (w w' : World) : Prop := w.heap.size ≤ w'.heap.size ∧ ∀ k, lo ≤ k → k < w.heap.size → w'.heap[k]? = w.heap[k]?
theorem Keep.refl (lo : Nat) (w : World) : Keep lo w w := ⟨Nat.le_refl _, fun _ _ _ => rfl⟩
theorem Keep.grown {lo : Nat} {a b c : World} {row : Option Nat} (h : Keep lo a b) (hg : b.grownBy c row) (hr : ∀ k, row = some k → k < lo ∨ a.heap.size ≤ k) : Keep lo a c :=
  ⟨Nat.le_trans h.1 hg.size, fun k h1 h2 => (hg.block k (Nat.lt_of_lt_of_le h2 h.1) (fun e => by have := hr k e.symm; omega)).trans (h.2 k h1 h2)⟩
theorem Keep.ext {lo : Nat} {a b c : World} (h : Keep lo a b) (hx : Ext b c) : Keep lo a c := h.grown (hx.grownBy none) (fun _ e => by cases e)
theorem Keep.own {lo base e k n : Nat} {w w' : World} {v : Value} {cs : List Value} (hk : Keep lo w w') (h : w.ownsRow base e k v n cs) (hl : lo ≤ base) : w'.ownsRow base e k v n cs :=
  own_block h (fun j hj => hk.2 j (Nat.le_trans hl (h.lt j hj).1) (h.lt j hj).2)
/-- A row's block is before lo or behind hi. -/
def Far (lo hi : Nat) (v : Value) : Prop := ∀ j, v.ownBlock = some j → j < lo ∨ hi ≤ j
theorem Far.app {lo hi : Nat} {v v' : Value} {w : World} (h : Far lo hi v) (hs : hi ≤ w.heap.size) (hat : v'.ownBlock = v.ownBlock ∨ v'.ownBlock = some w.heap.size) : Far lo hi v' := fun j hj => by
  rcases hat with e | e
  · exact h j (by rw [← e]; exact hj)
  · rw [hj] at e; cases e; exact .inr hs
end Go.RowKit
