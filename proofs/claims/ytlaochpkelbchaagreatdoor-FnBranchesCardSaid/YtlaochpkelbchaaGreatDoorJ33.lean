/- Costs: which are valid. Which nodes a tree has. -/
import Derived.Test.YtlaochpkelbchaaGreatDoorJ19
import Derived.Test.YtlaochpkelbchaaGreatDoorKWPath
namespace Go.Proofs.YtlaochpkelbchaaGreatDoor
open Go.RowKit
set_option maxHeartbeats 400000
def costOk (ls ds : List Int) (i : Nat) : Bool := inB (ls.getD i 0) 0 100 && inB (ds.getD i 0) 0 1000
def costsOk (n : Nat) (ls ds : List Int) : Bool := (List.range n).all (costOk ls ds)
def goodC (ps ls ds : List Int) : Bool :=
  goodT ps && ((ls.length : Int) == ps.length) && ((ds.length : Int) == ps.length) && costsOk ps.length ls ds && (ls.getD 0 0 == 0) && (ds.getD 0 0 == 0)
theorem goodC_all {ps ls ds : List Int} (h : goodC ps ls ds = true) : goodT ps = true ∧ ls.length = ps.length ∧ ds.length = ps.length ∧ costsOk ps.length ls ds = true ∧ ls.getD 0 0 = 0 ∧ ds.getD 0 0 = 0 := by
  unfold goodC at h
  simp only [Bool.and_eq_true, beq_iff_eq] at h
  obtain ⟨⟨⟨⟨⟨a, b⟩, c⟩, d⟩, e⟩, f⟩ := h
  exact ⟨a, by omega, by omega, d, e, f⟩
theorem goodC_no {ps ls ds : List Int} (h : goodT ps = false ∨ ¬ ls.length = ps.length ∨ ¬ ds.length = ps.length ∨ costsOk ps.length ls ds = false ∨ ¬ ls.getD 0 0 = 0 ∨ ¬ ds.getD 0 0 = 0) : goodC ps ls ds = false := by
  rw [← Bool.not_eq_true]
  intro hg
  obtain ⟨a, b, c, d, e, f⟩ := goodC_all hg
  rcases h with h | h | h | h | h | h <;> simp_all
theorem goodC_yes {ps ls ds : List Int} (h1 : goodT ps = true) (h2 : ls.length = ps.length) (h3 : ds.length = ps.length) (h4 : costsOk ps.length ls ds = true) (h5 : ls.getD 0 0 = 0) (h6 : ds.getD 0 0 = 0) : goodC ps ls ds = true := by
  simp [goodC, h1, h2, h3, h4]
  exact ⟨by simpa using h5, by simpa using h6⟩
end Go.Proofs.YtlaochpkelbchaaGreatDoor
namespace Go.Proofs.YtlaochpkelbchaaGreatDoor
open Go.RowKit
set_option maxHeartbeats 400000
def allG (q : Int → Bool) (xs : List Int) : Bool := (List.range xs.length).all (fun i => q (xs.getD i 0))
def firstNot (q : Int → Bool) (xs : List Int) : Int := if allG q xs then -1 else (xs.findIdx (fun n => !q n) : Int)
theorem firstNot_ge (q : Int → Bool) (xs : List Int) : decide (0 ≤ firstNot q xs) = !allG q xs := by
  unfold firstNot
  cases allG q xs <;> simp
theorem firstNot_at {q : Int → Bool} {xs : List Int} {k : Nat} (hk : k < xs.length) (hall : ∀ i, i < k → q (xs.getD i 0) = true) (hx : q (xs.getD k 0) = false) : firstNot q xs = k := by
  unfold firstNot
  have h0 : allG q xs = false := allUpto hk hx
  rw [h0]
  have : xs.findIdx (fun n => !q n) = k := by
    rw [List.findIdx_eq hk]
    constructor
    · rw [List.getD_eq_getElem?_getD, List.getElem?_eq_getElem hk] at hx
      simpa using hx
    · intro j hj
      have := hall j hj
      rw [List.getD_eq_getElem?_getD, List.getElem?_eq_getElem (by omega)] at this
      simpa using this
  simp [this]
/-- x is a node of a tree of n nodes. -/
def isNode (n : Nat) (x : Int) : Bool := inB x 0 ((n : Int) - 1)
def nodesIn (ps ns : List Int) : Bool := allG (isNode ps.length) ns
theorem impl_hasNodes_1 (n : Nat) (x : Int) (B : Nat) (p : Option Addr) (cap : Nat) (w : World) (hb : w.cell? ⟨B, 0, none⟩ = some (.slice p n cap)) (hn : n ≤ 1048576) :
    Calls Tryz.prog 55 #[.int .i64 x, .pointer (some ⟨B, 0, none⟩)] w fun e w' => e = .returned (.bool (!isNode n x)) ∧ Ext w w' := by
  have hnot : ∀ (x : Bool) (w : World), (Op.unary .not (.bool x)).run Tryz.prog w = .ok (.bool (!x)) w := fun _ _ => rfl
  go_enter Tryz.func55, Tryz.ntmps55
  go_wp2_with (go_at_call 56; refine (impl_within _ _ _ _).mono ?_; rintro e w' ⟨rfl, rfl⟩)
  go_ret
  exact ⟨rfl, (by repeat' (first | exact Ext.refl _ | assumption | refine Ext.alloc ?_ _ | refine Ext.ext ?_ _ | refine Ext.drew ?_ | refine Ext.drewN ?_ _))⟩
theorem impl_IndexFunc (ns : List Int) (v : Value) (n B : Nat) (p : Option Addr) (cap : Nat) (w : World) (h : Rd w 1 v ns.length (vInts ns)) (h2 : ns.length ≤ 1048576) (hb : w.cell? ⟨B, 0, none⟩ = some (.slice p n cap)) (hn : n ≤ 1048576) :
    Calls Tryz.prog 63 #[v, .func (.func 55) #[] #[.pointer (some ⟨B, 0, none⟩)]] w fun e w' => e = .returned (.int .i64 (firstNot (isNode n) ns)) ∧ Ext w w' := by
  obtain ⟨h1, p', cap', rfl, h4⟩ := h
  have H1 := hid h1; clear h1
  have H4 := hid h4; clear h4
  have Hb := hid hb; clear hb
  go_enter Tryz.func63, Tryz.ntmps63
  go_wp2
  go_loopw [8] (fun v8 wr => ∃ k : Nat, k ≤ ns.length ∧ v8 = .int .i64 k ∧ (∀ i, i < k → isNode n (ns.getD i 0) = true) ∧ Ext w wr) (fun v8 _ => ns.length - (intOf v8).toNat)
  case atStart => exact ⟨0, Nat.zero_le _, rfl, fun _ h => absurd h (Nat.not_lt_zero _), Ext.refl _⟩
  case round =>
    obtain ⟨k, hk, rfl, hall, z, rfl⟩ := hrel
    by_cases hlt : k < ns.length
    · obtain ⟨b, off, rfl, h6⟩ := H4.out.resolve_left (by omega)
      have c0 := elem1 (Value.int .i64) 0 ns h6 k hlt
      have H6 := hid h6; clear h6 H4
      have next : isNode n (ns.getD k 0) = true → ∀ i, i < k + 1 → isNode n (ns.getD i 0) = true := fun h => upTo_succ hall h
      have bad : isNode n (ns.getD k 0) = false → firstNot (isNode n) ns = k := fun h => firstNot_at hlt hall h
      clear hall
      generalize ns.getD k 0 = x at c0 next bad
      have Next := hid next; clear next
      have Bad := hid bad; clear bad
      cases hx : isNode n x
      · have Hx := hid hx
        go_wp2_with (go_at_call 55; refine (impl_hasNodes_1 n _ _ _ _ _ ((Ext.refl w |>.ext z).cell Hb.out) hn).mono ?_; rintro e w' ⟨rfl, z1, rfl⟩)
        go_ret
        exact ⟨by rw [Bad.out Hx.out]; rfl, (by repeat' (first | exact Ext.refl _ | assumption | refine Ext.alloc ?_ _ | refine Ext.ext ?_ _ | refine Ext.drew ?_ | refine Ext.drewN ?_ _))⟩
      · have Hx := hid hx
        go_wp2_with (go_at_call 55; refine (impl_hasNodes_1 n _ _ _ _ _ ((Ext.refl w |>.ext z).cell Hb.out) hn).mono ?_; rintro e w' ⟨rfl, z1, rfl⟩)
        go_roundw
        case rel => exact ⟨k + 1, by omega, by go_num, Next.out Hx.out, (by repeat' (first | exact Ext.refl _ | assumption | refine Ext.alloc ?_ _ | refine Ext.ext ?_ _ | refine Ext.drew ?_ | refine Ext.drewN ?_ _))⟩
        case measure => simp [intOf]; omega
    · have hf : allG (isNode n) ns = true := allTo (fun i hi => hall i (by omega))
      have Hf := hid hf; clear hf hall
      go_wp2
      go_ret
      exact ⟨by rw [firstNot, Hf.out]; rfl, (by repeat' (first | exact Ext.refl _ | assumption | refine Ext.alloc ?_ _ | refine Ext.ext ?_ _ | refine Ext.drew ?_ | refine Ext.drewN ?_ _))⟩
theorem impl_ContainsFunc (ns : List Int) (v : Value) (n B : Nat) (p : Option Addr) (cap : Nat) (w : World) (h : Rd w 1 v ns.length (vInts ns)) (h2 : ns.length ≤ 1048576) (hb : w.cell? ⟨B, 0, none⟩ = some (.slice p n cap)) (hn : n ≤ 1048576) :
    Calls Tryz.prog 54 #[v, .func (.func 55) #[] #[.pointer (some ⟨B, 0, none⟩)]] w fun e w' => e = .returned (.bool (!allG (isNode n) ns)) ∧ Ext w w' := by
  have Hr := hid h; clear h
  have Hb := hid hb; clear hb
  have hg := firstNot_ge (isNode n) ns
  have hi := fun v w h hb => impl_IndexFunc ns v n B p cap w h h2 hb hn
  generalize firstNot (isNode n) ns = r at hg hi
  have Hg := hid hg; clear hg
  have Hi := hid hi; clear hi
  go_enter Tryz.func54, Tryz.ntmps54
  go_wp2_with (go_at_call 63; refine (Hi.out _ _ Hr.out Hb.out).mono ?_; rintro e w' ⟨rfl, z1, rfl⟩)
  go_ret
  exact ⟨by rw [← Hg.out]; rfl, (by repeat' (first | exact Ext.refl _ | assumption | refine Ext.alloc ?_ _ | refine Ext.ext ?_ _ | refine Ext.drew ?_ | refine Ext.drewN ?_ _))⟩
theorem impl_hasNodes (ps ns : List Int) (v u : Value) (w : World) (h : Rd w 1 v ps.length (vInts ps)) (k : Rd w 1 u ns.length (vInts ns)) (h2 : ps.length ≤ 1048576) (k2 : ns.length ≤ 1048576) :
    Calls Tryz.prog 26 #[.agg #[v], u] w fun e w' => e = .returned (.bool (goodT ps && nodesIn ps ns)) ∧ Ext w w' := by
  have hnot : ∀ (x : Bool) (w : World), (Op.unary .not (.bool x)).run Tryz.prog w = .ok (.bool (!x)) w := fun _ _ => rfl
  have hmf : ∀ (fn : Fn) (first cap : Array Value) (w : World), (Instr.makeFunc fn first cap).run Tryz.prog w = .ok (.func fn first cap) w := fun _ _ _ _ => rfl
  have hr := h
  obtain ⟨h1, p, cap, rfl, h4⟩ := h
  have Hr := hid hr
  have Kr := hid k
  have hb : (w.alloc (.cells #[.slice p ps.length cap] 26)).cell? ⟨w.heap.size, 0, none⟩ = some (.slice p ps.length cap) := by rw [cell_of_row _ _ 0 _ _ (0, 0) (heap_at _ rfl)]; rfl
  have Hb := hid hb
  clear h1 h4 hr k hb
  cases hg : goodT ps
  · have Hg := hid hg
    go_enter Tryz.func26, Tryz.ntmps26
    go_wp2_with (go_at_call 53; refine (impl_IsValidTree ps _ _ (Hr.out.ext (by repeat' (first | exact Ext.refl _ | assumption | refine Ext.alloc ?_ _ | refine Ext.ext ?_ _ | refine Ext.drew ?_ | refine Ext.drewN ?_ _))) h2).mono ?_; rintro e w' ⟨rfl, z1, rfl⟩)
    go_ret
    exact ⟨by simp, (by repeat' (first | exact Ext.refl _ | assumption | refine Ext.alloc ?_ _ | refine Ext.ext ?_ _ | refine Ext.drew ?_ | refine Ext.drewN ?_ _))⟩
  · have Hg := hid hg
    go_enter Tryz.func26, Tryz.ntmps26
    go_wp2_with (first | (go_at_call 53; refine (impl_IsValidTree ps _ _ (Hr.out.ext (by repeat' (first | exact Ext.refl _ | assumption | refine Ext.alloc ?_ _ | refine Ext.ext ?_ _ | refine Ext.drew ?_ | refine Ext.drewN ?_ _))) h2).mono ?_; rintro e w' ⟨rfl, z1, rfl⟩) | (go_at_call 54; refine (impl_ContainsFunc ns _ ps.length _ _ _ _ (Kr.out.ext (by repeat' (first | exact Ext.refl _ | assumption | refine Ext.alloc ?_ _ | refine Ext.ext ?_ _ | refine Ext.drew ?_ | refine Ext.drewN ?_ _))) k2 (Ext.cell ⟨_, rfl⟩ Hb.out) h2).mono ?_; rintro e w' ⟨rfl, z1, rfl⟩))
    go_ret
    exact ⟨by simp [nodesIn], (by repeat' (first | exact Ext.refl _ | assumption | refine Ext.alloc ?_ _ | refine Ext.ext ?_ _ | refine Ext.drew ?_ | refine Ext.drewN ?_ _))⟩
end Go.Proofs.YtlaochpkelbchaaGreatDoor
