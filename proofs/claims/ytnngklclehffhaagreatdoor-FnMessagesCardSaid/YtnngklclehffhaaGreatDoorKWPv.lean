/- Valid pendings: the program's side. -/
import Derived.Test.YtnngklclehffhaaGreatDoorKWPnL
import Derived.Test.YtnngklclehffhaaGreatDoorJ27
import Derived.Laws.Cover1
namespace Go.Proofs.YtnngklclehffhaaGreatDoor
open Go.RowKit
set_option maxHeartbeats 400000
set_option maxRecDepth 100000
theorem slices_Index_bool (xs : List Bool) (v : Value) (x : Bool) (w : World) (h : Rd w 1 v xs.length (vBools xs)) (h2 : xs.length ≤ 1048576) :
    Calls Tryz.prog 55 #[v, .bool x] w fun e w' => e = .returned (.int .i64 (hitG (fun y => y == x) xs)) ∧ Ext w w' := by
  obtain ⟨h1, p, cap, rfl, h4⟩ := h
  have H4 := hid h4
  clear h1 h4
  go_enter Tryz.func55, Tryz.ntmps55
  go_wp2
  go_loopw [8] (fun v8 wr => ∃ k : Nat, k ≤ xs.length ∧ v8 = .int .i64 k ∧ Hid (∀ i, i < k → (xs.getD i false == x) = false) ∧ Ext w wr) (fun v8 _ => xs.length - (intOf v8).toNat)
  case atStart => exact ⟨0, Nat.zero_le _, rfl, fun _ h => absurd h (Nat.not_lt_zero _), Ext.refl _⟩
  case round =>
    obtain ⟨k, hk, rfl, hall, z, rfl⟩ := hrel
    by_cases hlt : k < xs.length
    · obtain ⟨b, off, rfl, h6⟩ := H4.out.resolve_left (by omega)
      have c0 := elem1 Value.bool false xs h6 k hlt
      have next := hid (fun h => upTo_succ (p := fun i => (xs.getD i false == x) = false) hall.out (k := k) h)
      have yes := hid (fun h => hitG_at (p := fun y => y == x) (z := false) hlt hall.out h)
      clear h6 hall
      generalize xs.getD k false = y at *
      cases hy : (y == x)
      · have hy' : (x == y) = false := by cases x <;> cases y <;> simp_all
        have Hn := hid (next.out hy)
        clear next yes
        go_wp2
        go_roundw
        case rel => exact ⟨k + 1, by omega, by go_num, Hn, (by repeat' (first | exact Ext.refl _ | assumption | refine Ext.alloc ?_ _ | refine Ext.ext ?_ _ | refine Ext.drew ?_ | refine Ext.drewN ?_ _))⟩
        case measure => simp [intOf]; omega
      · have hy' : (x == y) = true := by cases x <;> cases y <;> simp_all
        have Hy := hid (yes.out hy)
        clear next yes
        go_wp2
        go_ret
        exact ⟨by rw [Hy.out]; rfl, (by repeat' (first | exact Ext.refl _ | assumption | refine Ext.alloc ?_ _ | refine Ext.ext ?_ _ | refine Ext.drew ?_ | refine Ext.drewN ?_ _))⟩
    · have hf := hitG_no (p := fun y => y == x) (z := false) (l := xs) (fun i hi => hall.out i (by omega))
      have Hf := hid hf
      clear hf hall
      go_wp2
      go_ret
      exact ⟨by rw [Hf.out]; rfl, (by repeat' (first | exact Ext.refl _ | assumption | refine Ext.alloc ?_ _ | refine Ext.ext ?_ _ | refine Ext.drew ?_ | refine Ext.drewN ?_ _))⟩
theorem hitG_has (xs : List Bool) (x : Bool) : decide (0 ≤ hitG (fun y => y == x) xs) = xs.contains x := by
  rw [Bool.eq_iff_iff, decide_eq_true_eq, List.contains_iff_mem]
  rcases hitG_cases (fun y => y == x) xs false with ⟨h1, h2⟩ | ⟨k, h0, h1, h2, -⟩
  · rw [h1]
    refine ⟨fun h => by omega, fun h => ?_⟩
    obtain ⟨i, hi, rfl⟩ := List.mem_iff_getElem.1 h
    have := h2 i hi
    rw [List.getD_eq_getElem?_getD, List.getElem?_eq_getElem hi] at this
    simp at this
  · rw [h1]
    refine ⟨fun _ => ?_, fun _ => by omega⟩
    have e : xs.getD k false = x := by simpa using h2
    rw [← e]
    exact getD_mem' h0
theorem slices_Contains_bool (xs : List Bool) (v : Value) (x : Bool) (w : World) (h : Rd w 1 v xs.length (vBools xs)) (h2 : xs.length ≤ 1048576) :
    Calls Tryz.prog 29 #[v, .bool x] w fun e w' => e = .returned (.bool (xs.contains x)) ∧ Ext w w' := by
  have hc := hid (slices_Index_bool xs v x w h h2)
  rw [← hitG_has xs x]
  generalize hitG (fun y => y == x) xs = q at *
  clear h
  go_enter Tryz.func29, Tryz.ntmps29
  go_wp2_with (go_at_call 55; refine (hc.out).mono ?_; rintro e w' ⟨rfl, z1, rfl⟩)
  go_ret
  exact ⟨rfl, (by repeat' (first | exact Ext.refl _ | assumption | refine Ext.alloc ?_ _ | refine Ext.ext ?_ _ | refine Ext.drew ?_ | refine Ext.drewN ?_ _))⟩
theorem slices_IndexFunc_pnd (ps : List Pnd) (es : List Pe) (p : Int → Bool) (g : Nat) (lb : Array Value) (eg : ∀ args w, (callFunc g args).run Tryz.prog w = .ok (.enter g args) w) (v : Value) (w0 w : World) (h : PRd w v ps es) (hx0 : Ext w0 w) (h2 : ps.length ≤ 1048576)
    (hF : ∀ n a b w', Ext w0 w' → Calls Tryz.prog g (#[.agg #[.int .i64 n, a, b]] ++ lb) w' fun e w'' => e = .returned (.bool (p n)) ∧ Ext w' w'') :
    Calls Tryz.prog 59 #[v, .func (.func g) #[] lb] w fun e w' => e = .returned (.int .i64 (hitG (fun q : Pnd => p q.n) ps)) ∧ Ext w w' := by
  have Hv := hid h
  obtain ⟨q, cap, rfl, h4⟩ := h.form
  have H4 := hid h4
  have HF := hid hF
  clear h4 h hF
  go_enter Tryz.func59, Tryz.ntmps59
  go_wp2
  go_loopw [8] (fun v8 wr => ∃ k : Nat, k ≤ ps.length ∧ v8 = .int .i64 k ∧ Hid (∀ i, i < k → p (ps.getD i .z).n = false) ∧ Ext w wr) (fun v8 _ => ps.length - (intOf v8).toNat)
  case atStart => exact ⟨0, Nat.zero_le _, rfl, fun _ h => absurd h (Nat.not_lt_zero _), Ext.refl _⟩
  case round =>
    obtain ⟨k, hk, rfl, hall, z, rfl⟩ := hrel
    by_cases hlt : k < ps.length
    · obtain ⟨b, off, rfl⟩ := H4.out.resolve_left (by omega)
      obtain ⟨⟨c0, c1, c2⟩, -⟩ := Hv.out.at k hlt
      have next := hid (fun h => upTo_succ (p := fun i => p (ps.getD i .z).n = false) hall.out (k := k) h)
      have bad := hid (fun h => hitG_at (p := fun q : Pnd => p q.n) (z := .z) hlt hall.out h)
      clear hall
      generalize (ps.getD k .z).n = n at *
      generalize (es.getD k .z).u = x1 at *
      generalize (es.getD k .z).v = x2 at *
      have hf := HF.out n x1 x2 (w.ext z) (hx0.trans ⟨z, rfl⟩)
      cases hx : p n
      · rw [hx] at hf
        have Hf := hid hf
        have Nx := hid (next.out hx)
        clear hx hf next bad
        go_wp2_with (go_at_fn g; refine (Hf.out).mono ?_; rintro e w' ⟨rfl, z1, rfl⟩)
        go_roundw
        case rel => exact ⟨k + 1, by omega, by go_num, Nx, (by repeat' (first | exact Ext.refl _ | assumption | refine Ext.alloc ?_ _ | refine Ext.ext ?_ _ | refine Ext.drew ?_ | refine Ext.drewN ?_ _))⟩
        case measure => simp [intOf]; omega
      · rw [hx] at hf
        have Hf := hid hf
        have Bd := hid (bad.out hx)
        clear hx hf next bad
        go_wp2_with (go_at_fn g; refine (Hf.out).mono ?_; rintro e w' ⟨rfl, z1, rfl⟩)
        go_ret
        exact ⟨by rw [Bd.out]; rfl, (by repeat' (first | exact Ext.refl _ | assumption | refine Ext.alloc ?_ _ | refine Ext.ext ?_ _ | refine Ext.drew ?_ | refine Ext.drewN ?_ _))⟩
    · have hf := hitG_no (p := fun q : Pnd => p q.n) (z := .z) (l := ps) (fun i hi => hall.out i (by omega))
      have Hf := hid hf
      clear hf hall
      go_wp2
      go_ret
      exact ⟨by rw [Hf.out]; rfl, (by repeat' (first | exact Ext.refl _ | assumption | refine Ext.alloc ?_ _ | refine Ext.ext ?_ _ | refine Ext.drew ?_ | refine Ext.drewN ?_ _))⟩
theorem impl_findPending_1 (n x : Int) (a b : Value) (B : Nat) (w : World) (hB : w.cell? ⟨B, 0, none⟩ = some (.int .i64 x)) :
    Calls Tryz.prog 60 (#[.agg #[.int .i64 n, a, b]] ++ #[.pointer (some ⟨B, 0, none⟩)]) w fun e w' => e = .returned (.bool (n == x)) ∧ Ext w w' := by
  go_enter Tryz.func60, Tryz.ntmps60
  repeat (first | (go_wp2_with (fail); refine wp_region_ext (by kernel_rfl) (by kernel_rfl) ?_; (repeat (go_big_quiet_step (fail))); refine wpQuiet_nil ?_; rintro _ ⟨zq, rfl⟩))
  go_wp2_with (fail)
  go_ret
  exact ⟨rfl, (by repeat' (first | exact Ext.refl _ | assumption | refine Ext.alloc ?_ _ | refine Ext.ext ?_ _ | refine Ext.drew ?_ | refine Ext.drewN ?_ _))⟩
theorem impl_findPending (ps : List Pnd) (es : List Pe) (v : Value) (x : Int) (w : World) (h : PRd w v ps es) (h2 : ps.length ≤ 1048576) :
    Calls Tryz.prog 32 #[v, .int .i64 x] w fun e w' => e = .returned (.int .i64 (fndP ps x)) ∧ Ext w w' := by
  have hmf : ∀ (fn : Fn) (first cap : Array Value) (w : World), (Instr.makeFunc fn first cap).run Tryz.prog w = .ok (.func fn first cap) w := fun _ _ _ _ => rfl
  have hb : (w.alloc (.cells #[.int .i64 x] 3)).cell? ⟨w.heap.size, 0, none⟩ = some (.int .i64 x) := by rw [cell_of_row _ _ 0 _ _ (0, 0) (heap_at _ rfl)]; rfl
  have XB : Ext w (w.alloc (.cells #[.int .i64 x] 3)) := (by repeat' (first | exact Ext.refl _ | assumption | refine Ext.alloc ?_ _ | refine Ext.ext ?_ _ | refine Ext.drew ?_ | refine Ext.drewN ?_ _))
  have hi := hid (slices_IndexFunc_pnd ps es (fun n => n == x) 60 #[.pointer (some ⟨w.heap.size, 0, none⟩)] (enters_of Tryz.func60 (by kernel_rfl) rfl) v _ _ (h.ext XB) (Ext.refl _) h2
    (fun n a b w' hx => impl_findPending_1 n x a b w.heap.size w' (hx.cell hb)))
  have hd : hitG (fun q : Pnd => q.n == x) ps = fndP ps x := rfl
  rw [hd] at hi
  generalize fndP ps x = F at *
  clear h hd
  go_enter Tryz.func32, Tryz.ntmps32
  go_wp2_with (go_at_call 59; refine (hi.out).mono ?_; rintro e w' ⟨rfl, z1, rfl⟩)
  go_ret
  exact ⟨rfl, (by repeat' (first | exact Ext.refl _ | assumption | refine Ext.alloc ?_ _ | refine Ext.ext ?_ _ | refine Ext.drew ?_ | refine Ext.drewN ?_ _))⟩
end Go.Proofs.YtnngklclehffhaaGreatDoor
