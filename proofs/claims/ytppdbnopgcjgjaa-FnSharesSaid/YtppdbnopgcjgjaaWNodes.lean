/- Which nodes a tree has. -/
import Derived.Test.YtppdbnopgcjgjaaWPath
import Derived.Test.YtppdbnopgcjgjaaWCost
namespace Go.Proofs.Ytppdbnopgcjgjaa
open Go.RowKit
set_option maxHeartbeats 400000
def allG (q : Int → Bool) (xs : List Int) : Bool := (List.range xs.length).all (fun i => q (xs.getD i 0))
def firstNot (q : Int → Bool) (xs : List Int) : Int := if allG q xs then -1 else (xs.findIdx (fun n => !q n) : Int)
theorem firstNot_ge (q : Int → Bool) (xs : List Int) : decide (0 ≤ firstNot q xs) = !allG q xs := by
  unfold firstNot
  cases allG q xs <;> simp
theorem firstNot_at {q : Int → Bool} {xs : List Int} {k : Nat} (hk : k < xs.length) (hall : ∀ i, i < k → q (xs.getD i 0) = true) (hx : q (xs.getD k 0) = false) : firstNot q xs = k := by
  unfold firstNot
  have h0 : allG q xs = false := allUpto hk hx
  rw [h0]
  have : xs.findIdx (fun n => !q n) = k := by
    rw [List.findIdx_eq hk]
    constructor
    · rw [List.getD_eq_getElem?_getD, List.getElem?_eq_getElem hk] at hx
      simpa using hx
    · intro j hj
      have := hall j hj
      rw [List.getD_eq_getElem?_getD, List.getElem?_eq_getElem (by omega)] at this
      simpa using this
  simp [this]
/-- x is a node of a tree of n nodes. -/
def isNode (n : Nat) (x : Int) : Bool := inB x 0 ((n : Int) - 1)
def nodesIn (ps ns : List Int) : Bool := allG (isNode ps.length) ns
theorem impl_hasNodes_1 (n : Nat) (x : Int) (B : Nat) (p : Option Addr) (cap : Nat) (w : World) (hb : w.cell? ⟨B, 0, none⟩ = some (.slice p n cap)) (hn : n ≤ 1048576) :
    Calls Try.prog 94 #[.int .i64 x, .pointer (some ⟨B, 0, none⟩)] w fun e w' => e = .returned (.bool (!isNode n x)) ∧ Ext w w' := by
  have hnot : ∀ (x : Bool) (w : World), (Op.unary .not (.bool x)).run Try.prog w = .ok (.bool (!x)) w := fun _ _ => rfl
  go_enter Try.func94, Try.ntmps94
  go_wp2_with (go_at_call 70; refine (impl_within _ _ _ _).mono ?_; rintro e w' ⟨rfl, rfl⟩)
  go_ret
  exact ⟨rfl, (by repeat' (first | exact Ext.refl _ | assumption | refine Ext.alloc ?_ _ | refine Ext.ext ?_ _ | refine Ext.drew ?_ | refine Ext.drewN ?_ _))⟩
theorem impl_IndexFunc (ns : List Int) (v : Value) (n B : Nat) (p : Option Addr) (cap : Nat) (w : World) (h : Rd w 1 v ns.length (vInts ns)) (h2 : ns.length ≤ 1048576) (hb : w.cell? ⟨B, 0, none⟩ = some (.slice p n cap)) (hn : n ≤ 1048576) :
    Calls Try.prog 92 #[v, .func (.func 94) #[] #[.pointer (some ⟨B, 0, none⟩)]] w fun e w' => e = .returned (.int .i64 (firstNot (isNode n) ns)) ∧ Ext w w' := by
  obtain ⟨h1, p', cap', rfl, h4⟩ := h
  have H1 := hid h1; clear h1
  have H4 := hid h4; clear h4
  have Hb := hid hb; clear hb
  go_enter Try.func92, Try.ntmps92
  go_wp2
  go_loopw [8] (fun v8 wr => ∃ k : Nat, k ≤ ns.length ∧ v8 = .int .i64 k ∧ (∀ i, i < k → isNode n (ns.getD i 0) = true) ∧ Ext w wr) (fun v8 _ => ns.length - (intOf v8).toNat)
  case atStart => exact ⟨0, Nat.zero_le _, rfl, fun _ h => absurd h (Nat.not_lt_zero _), Ext.refl _⟩
  case round =>
    obtain ⟨k, hk, rfl, hall, z, rfl⟩ := hrel
    by_cases hlt : k < ns.length
    · obtain ⟨b, off, rfl, h6⟩ := H4.out.resolve_left (by omega)
      have c0 := elem1 (Value.int .i64) 0 ns h6 k hlt
      have H6 := hid h6; clear h6 H4
      have next : isNode n (ns.getD k 0) = true → ∀ i, i < k + 1 → isNode n (ns.getD i 0) = true := fun h => upTo_succ hall h
      have bad : isNode n (ns.getD k 0) = false → firstNot (isNode n) ns = k := fun h => firstNot_at hlt hall h
      clear hall
      generalize ns.getD k 0 = x at c0 next bad
      have Next := hid next; clear next
      have Bad := hid bad; clear bad
      cases hx : isNode n x
      · have Hx := hid hx
        go_wp2_with (go_at_call 94; refine (impl_hasNodes_1 n _ _ _ _ _ ((Ext.refl w |>.ext z).cell Hb.out) hn).mono ?_; rintro e w' ⟨rfl, z1, rfl⟩)
        go_ret
        exact ⟨by rw [Bad.out Hx.out]; rfl, (by repeat' (first | exact Ext.refl _ | assumption | refine Ext.alloc ?_ _ | refine Ext.ext ?_ _ | refine Ext.drew ?_ | refine Ext.drewN ?_ _))⟩
      · have Hx := hid hx
        go_wp2_with (go_at_call 94; refine (impl_hasNodes_1 n _ _ _ _ _ ((Ext.refl w |>.ext z).cell Hb.out) hn).mono ?_; rintro e w' ⟨rfl, z1, rfl⟩)
        go_roundw
        case rel => exact ⟨k + 1, by omega, by go_num, Next.out Hx.out, (by repeat' (first | exact Ext.refl _ | assumption | refine Ext.alloc ?_ _ | refine Ext.ext ?_ _ | refine Ext.drew ?_ | refine Ext.drewN ?_ _))⟩
        case measure => simp [intOf]; omega
    · have hf : allG (isNode n) ns = true := allTo (fun i hi => hall i (by omega))
      have Hf := hid hf; clear hf hall
      go_wp2
      go_ret
      exact ⟨by rw [firstNot, Hf.out]; rfl, (by repeat' (first | exact Ext.refl _ | assumption | refine Ext.alloc ?_ _ | refine Ext.ext ?_ _ | refine Ext.drew ?_ | refine Ext.drewN ?_ _))⟩
theorem impl_ContainsFunc (ns : List Int) (v : Value) (n B : Nat) (p : Option Addr) (cap : Nat) (w : World) (h : Rd w 1 v ns.length (vInts ns)) (h2 : ns.length ≤ 1048576) (hb : w.cell? ⟨B, 0, none⟩ = some (.slice p n cap)) (hn : n ≤ 1048576) :
    Calls Try.prog 93 #[v, .func (.func 94) #[] #[.pointer (some ⟨B, 0, none⟩)]] w fun e w' => e = .returned (.bool (!allG (isNode n) ns)) ∧ Ext w w' := by
  have Hr := hid h; clear h
  have Hb := hid hb; clear hb
  have hg := firstNot_ge (isNode n) ns
  have hi := fun v w h hb => impl_IndexFunc ns v n B p cap w h h2 hb hn
  generalize firstNot (isNode n) ns = r at hg hi
  have Hg := hid hg; clear hg
  have Hi := hid hi; clear hi
  go_enter Try.func93, Try.ntmps93
  go_wp2_with (go_at_call 92; refine (Hi.out _ _ Hr.out Hb.out).mono ?_; rintro e w' ⟨rfl, z1, rfl⟩)
  go_ret
  exact ⟨by rw [← Hg.out]; rfl, (by repeat' (first | exact Ext.refl _ | assumption | refine Ext.alloc ?_ _ | refine Ext.ext ?_ _ | refine Ext.drew ?_ | refine Ext.drewN ?_ _))⟩
theorem impl_hasNodes (ps ns : List Int) (v u : Value) (w : World) (h : Rd w 1 v ps.length (vInts ps)) (k : Rd w 1 u ns.length (vInts ns)) (h2 : ps.length ≤ 1048576) (k2 : ns.length ≤ 1048576) :
    Calls Try.prog 79 #[.agg #[v], u] w fun e w' => e = .returned (.bool (goodT ps && nodesIn ps ns)) ∧ Ext w w' := by
  have hnot : ∀ (x : Bool) (w : World), (Op.unary .not (.bool x)).run Try.prog w = .ok (.bool (!x)) w := fun _ _ => rfl
  have hmf : ∀ (fn : Fn) (first cap : Array Value) (w : World), (Instr.makeFunc fn first cap).run Try.prog w = .ok (.func fn first cap) w := fun _ _ _ _ => rfl
  have hr := h
  obtain ⟨h1, p, cap, rfl, h4⟩ := h
  have Hr := hid hr
  have Kr := hid k
  have hb : (w.alloc (.cells #[.slice p ps.length cap] 26)).cell? ⟨w.heap.size, 0, none⟩ = some (.slice p ps.length cap) := by rw [cell_of_row _ _ 0 _ _ (0, 0) (heap_at _ rfl)]; rfl
  have Hb := hid hb
  clear h1 h4 hr k hb
  cases hg : goodT ps
  · have Hg := hid hg
    go_enter Try.func79, Try.ntmps79
    go_wp2_with (go_at_call 58; refine (impl_IsValidTree ps _ _ (Hr.out.ext (by repeat' (first | exact Ext.refl _ | assumption | refine Ext.alloc ?_ _ | refine Ext.ext ?_ _ | refine Ext.drew ?_ | refine Ext.drewN ?_ _))) h2).mono ?_; rintro e w' ⟨rfl, z1, rfl⟩)
    go_ret
    exact ⟨by simp, (by repeat' (first | exact Ext.refl _ | assumption | refine Ext.alloc ?_ _ | refine Ext.ext ?_ _ | refine Ext.drew ?_ | refine Ext.drewN ?_ _))⟩
  · have Hg := hid hg
    go_enter Try.func79, Try.ntmps79
    go_wp2_with (first | (go_at_call 58; refine (impl_IsValidTree ps _ _ (Hr.out.ext (by repeat' (first | exact Ext.refl _ | assumption | refine Ext.alloc ?_ _ | refine Ext.ext ?_ _ | refine Ext.drew ?_ | refine Ext.drewN ?_ _))) h2).mono ?_; rintro e w' ⟨rfl, z1, rfl⟩) | (go_at_call 93; refine (impl_ContainsFunc ns _ ps.length _ _ _ _ (Kr.out.ext (by repeat' (first | exact Ext.refl _ | assumption | refine Ext.alloc ?_ _ | refine Ext.ext ?_ _ | refine Ext.drew ?_ | refine Ext.drewN ?_ _))) k2 (Ext.cell ⟨_, rfl⟩ Hb.out) h2).mono ?_; rintro e w' ⟨rfl, z1, rfl⟩))
    go_ret
    exact ⟨by simp [nodesIn], (by repeat' (first | exact Ext.refl _ | assumption | refine Ext.alloc ?_ _ | refine Ext.ext ?_ _ | refine Ext.drew ?_ | refine Ext.drewN ?_ _))⟩
theorem impl_hasCosts (ps ls ds ns : List Int) (v u u' y : Value) (w : World) (h : Rd w 1 v ps.length (vInts ps)) (k : Rd w 1 u ls.length (vInts ls)) (l : Rd w 1 u' ds.length (vInts ds)) (m : Rd w 1 y ns.length (vInts ns))
    (h2 : ps.length ≤ 1048576) (k2 : ls.length ≤ 1048576) (l2 : ds.length ≤ 1048576) (m2 : ns.length ≤ 1048576) :
    Calls Try.prog 41 #[.agg #[v], .agg #[u, u'], y] w fun e w' => e = .returned (.bool (goodC ps ls ds && nodesIn ps ns)) ∧ Ext w w' := by
  have Hr := hid h
  have Kr := hid k
  have Lr := hid l
  have Mr := hid m
  clear h k l m
  cases hg : goodC ps ls ds
  · have Hg := hid hg
    go_enter Try.func41, Try.ntmps41
    go_wp2_with (go_at_call 29; refine (impl_IsValidCosts ps ls ds _ _ _ _ (Hr.out.ext (by repeat' (first | exact Ext.refl _ | assumption | refine Ext.alloc ?_ _ | refine Ext.ext ?_ _ | refine Ext.drew ?_ | refine Ext.drewN ?_ _))) (Kr.out.ext (by repeat' (first | exact Ext.refl _ | assumption | refine Ext.alloc ?_ _ | refine Ext.ext ?_ _ | refine Ext.drew ?_ | refine Ext.drewN ?_ _))) (Lr.out.ext (by repeat' (first | exact Ext.refl _ | assumption | refine Ext.alloc ?_ _ | refine Ext.ext ?_ _ | refine Ext.drew ?_ | refine Ext.drewN ?_ _))) h2 k2 l2).mono ?_; rintro e w' ⟨rfl, z1, rfl⟩)
    go_ret
    exact ⟨by simp, (by repeat' (first | exact Ext.refl _ | assumption | refine Ext.alloc ?_ _ | refine Ext.ext ?_ _ | refine Ext.drew ?_ | refine Ext.drewN ?_ _))⟩
  · have Hg := hid hg
    have hT := (goodC_all hg).1
    have hN := fun v u w h k => impl_hasNodes ps ns v u w h k h2 m2
    rw [hT] at hN
    have HN := hid hN; clear hN hT
    go_enter Try.func41, Try.ntmps41
    go_wp2_with (first | (go_at_call 29; refine (impl_IsValidCosts ps ls ds _ _ _ _ (Hr.out.ext (by repeat' (first | exact Ext.refl _ | assumption | refine Ext.alloc ?_ _ | refine Ext.ext ?_ _ | refine Ext.drew ?_ | refine Ext.drewN ?_ _))) (Kr.out.ext (by repeat' (first | exact Ext.refl _ | assumption | refine Ext.alloc ?_ _ | refine Ext.ext ?_ _ | refine Ext.drew ?_ | refine Ext.drewN ?_ _))) (Lr.out.ext (by repeat' (first | exact Ext.refl _ | assumption | refine Ext.alloc ?_ _ | refine Ext.ext ?_ _ | refine Ext.drew ?_ | refine Ext.drewN ?_ _))) h2 k2 l2).mono ?_; rintro e w' ⟨rfl, z1, rfl⟩) | (go_at_call 79; refine (HN.out _ _ _ (Hr.out.ext (by repeat' (first | exact Ext.refl _ | assumption | refine Ext.alloc ?_ _ | refine Ext.ext ?_ _ | refine Ext.drew ?_ | refine Ext.drewN ?_ _))) (Mr.out.ext (by repeat' (first | exact Ext.refl _ | assumption | refine Ext.alloc ?_ _ | refine Ext.ext ?_ _ | refine Ext.drew ?_ | refine Ext.drewN ?_ _)))).mono ?_; rintro e w' ⟨rfl, z1, rfl⟩))
    go_ret
    exact ⟨by simp, (by repeat' (first | exact Ext.refl _ | assumption | refine Ext.alloc ?_ _ | refine Ext.ext ?_ _ | refine Ext.drew ?_ | refine Ext.drewN ?_ _))⟩
end Go.Proofs.Ytppdbnopgcjgjaa
