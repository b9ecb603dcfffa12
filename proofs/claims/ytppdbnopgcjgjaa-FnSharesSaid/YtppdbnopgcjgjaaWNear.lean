/- The nearest holder, both sides. -/
import Derived.Test.YtppdbnopgcjgjaaWBtw
import Derived.Test.YtppdbnopgcjgjaaWFn
import Derived.Test.YtppdbnopgcjgjaaWRis
namespace Go.Proofs.Ytppdbnopgcjgjaa
open Go.RowKit
set_option maxHeartbeats 400000
set_option maxRecDepth 100000
theorem risB_eq (xs : List Int) (n : Nat) : risB xs 0 ((n : Int) - 1) = (allG (isNode n) xs && ascB xs) := by
  unfold risB allG ascB
  exact all_and
/-- The nearest of holders: what is asked, and which it is. -/
def nearB (ps ls ds ns : List Int) (x : Int) : Bool := goodC ps ls ds && isNode ps.length x && !(ns.length == 0) && risB ns 0 ((ps.length : Int) - 1)
def nearest (ps ds ns : List Int) (x : Int) : Int := bestI (fun a b => btw ps ds a x - btw ps ds b x) ns (ns.length - 1)
def nearN (ps ls ds ns : List Int) (x : Int) : Int := if nearB ps ls ds ns x then nearest ps ds ns x else 0
theorem near_no {ps ls ds ns : List Int} {x : Int} (h : nearB ps ls ds ns x = false) : nearN ps ls ds ns x = 0 := by simp [nearN, h]
theorem near_yes {ps ls ds ns : List Int} {x : Int} (h : nearB ps ls ds ns x = true) : nearN ps ls ds ns x = nearest ps ds ns x := by simp [nearN, h]
theorem allG_mem {q : Int → Bool} {xs : List Int} (h : allG q xs = true) (y : Int) (hy : y ∈ xs) : q y = true := by
  obtain ⟨i, hi, rfl⟩ := List.mem_iff_getElem.1 hy
  have := (List.all_eq_true.1 h) i (List.mem_range.2 hi)
  rwa [List.getD_eq_getElem?_getD, List.getElem?_eq_getElem hi] at this
theorem nearB_iff {ps ls ds ns : List Int} {x : Int} (h : nearB ps ls ds ns x = true) : goodC ps ls ds = true ∧ (0 ≤ x ∧ x < ps.length) ∧ ¬ ns.length = 0 ∧ (∀ y ∈ ns, 0 ≤ y ∧ y < ps.length) ∧ allG (isNode ps.length) ns = true ∧ ascB ns = true := by
  simp only [nearB, Bool.and_eq_true, risB_eq] at h
  obtain ⟨⟨⟨h1, h2⟩, h3⟩, h4, h5⟩ := h
  exact ⟨h1, isNode_iff.1 h2, by simpa using h3, fun y hy => isNode_iff.1 (allG_mem h4 y hy), h4, h5⟩
theorem impl_NearestHolder_1 (ps ls ds : List Int) (v u u' : Value) (Bt Bc Bx : Nat) (x a b : Int) (w : World) (h : Rd w 1 v ps.length (vInts ps)) (k : Rd w 1 u' ds.length (vInts ds)) (hg : goodC ps ls ds = true) (ha : 0 ≤ a ∧ a < ps.length) (hb : 0 ≤ b ∧ b < ps.length) (hx : 0 ≤ x ∧ x < ps.length)
    (c0 : w.cell? ⟨Bt, 0, none⟩ = some v) (c1 : w.cell? ⟨Bc, 0, none⟩ = some u) (c2 : w.cell? ⟨Bc, 1, none⟩ = some u') (c3 : w.cell? ⟨Bx, 0, none⟩ = some (.int .i64 x)) :
    Calls Try.prog 50 #[.int .i64 a, .int .i64 b, .pointer (some ⟨Bc, 0, none⟩), .pointer (some ⟨Bt, 0, none⟩), .pointer (some ⟨Bx, 0, none⟩)] w fun e w' => e = .returned (.int .i64 (btw ps ds a x - btw ps ds b x)) ∧ Ext w w' := by
  have ba := btw_bd hg ha hx
  have bb := btw_bd hg hb hx
  have hd := fun a w' (ha : 0 ≤ a ∧ a < (ps.length : Int)) (e : Ext w w') => impl_delayBetween ps ls ds v u u' a x w' (h.ext e) (k.ext e) hg ha hx
  have Hd := hid hd
  clear hd h k hg
  go_enter Try.func50, Try.ntmps50
  go_wp2
  refine wp_region_ext (by kernel_rfl) (by kernel_rfl) ?_
  repeat (go_big_quiet_step ((first | (go_at_call 42; exact Calls.quiet_ext (Hd.out _ _ (by first | exact ha | exact hb) ⟨_, rfl⟩)))))
  refine wpQuiet_nil ?_
  rintro _ ⟨zq, rfl⟩
  go_wp2
  go_ret
  exact ⟨rfl, (by repeat' (first | exact Ext.refl _ | assumption | refine Ext.alloc ?_ _ | refine Ext.ext ?_ _ | refine Ext.drew ?_ | refine Ext.drewN ?_ _))⟩
theorem impl_NearestHolder (ps ls ds ns : List Int) (v u u' y : Value) (x : Int) (w : World) (h : Rd w 1 v ps.length (vInts ps)) (k : Rd w 1 u ls.length (vInts ls)) (l : Rd w 1 u' ds.length (vInts ds)) (m : Rd w 1 y ns.length (vInts ns))
    (h2 : ps.length ≤ 1048576) (k2 : ls.length ≤ 1048576) (l2 : ds.length ≤ 1048576) (m2 : ns.length ≤ 1048576) :
    Calls Try.prog 11 #[.agg #[v], .agg #[u, u'], .int .i64 x, y] w fun e w' => e = .returned (.tuple #[.int .i64 (nearN ps ls ds ns x), .bool (nearB ps ls ds ns x)]) ∧ Ext w w' := by
  have Hr := hid h
  have Kr := hid k
  have Lr := hid l
  have Mr := hid m
  obtain ⟨-, yp, yc, rfl, -⟩ := m
  clear h k l
  have hmf : ∀ (fn : Fn) (first cap : Array Value) (w : World), (Instr.makeFunc fn first cap).run Try.prog w = .ok (.func fn first cap) w := fun _ _ _ _ => rfl
  have hc1 : Hid (∀ (v u u' y : Value) (w : World), Rd w 1 v ps.length (vInts ps) → Rd w 1 u ls.length (vInts ls) → Rd w 1 u' ds.length (vInts ds) → Rd w 1 y 1 [.int .i64 x] →
      Calls Try.prog 41 #[.agg #[v], .agg #[u, u'], y] w fun e w' => e = .returned (.bool (hasC ps ls ds x)) ∧ Ext w w') :=
    fun v u u' y w h k l m => impl_hasCosts_one ps ls ds v u u' y x w h k l m h2 k2 l2
  have hc2 : Hid (∀ (w : World), Rd w 1 v ps.length (vInts ps) → Rd w 1 u ls.length (vInts ls) → Rd w 1 u' ds.length (vInts ds) → Rd w 1 (.slice yp ns.length yc) ns.length (vInts ns) →
      Calls Try.prog 41 #[.agg #[v], .agg #[u, u'], .slice yp ns.length yc] w fun e w' => e = .returned (.bool (goodC ps ls ds && nodesIn ps ns)) ∧ Ext w w') :=
    fun w h k l m => impl_hasCosts ps ls ds ns v u u' _ w h k l m h2 k2 l2 m2
  have ha : Hid (∀ (w : World), Rd w 1 (.slice yp ns.length yc) ns.length (vInts ns) → Calls Try.prog 48 #[.slice yp ns.length yc] w fun e w' => e = .returned (.bool (ascB ns)) ∧ Ext w w') :=
    fun w m => impl_isAscending ns _ w m m2
  have XB : Ext w (((w.alloc (.cells #[v] 26)).alloc (.cells #[u, u'] 28)).alloc (.cells #[.int .i64 x] 3)) := (by repeat' (first | exact Ext.refl _ | assumption | refine Ext.alloc ?_ _ | refine Ext.ext ?_ _ | refine Ext.drew ?_ | refine Ext.drewN ?_ _))
  have b0 : (((w.alloc (.cells #[v] 26)).alloc (.cells #[u, u'] 28)).alloc (.cells #[.int .i64 x] 3)).cell? ⟨w.heap.size, 0, none⟩ = some v := by rw [cell_of_row _ _ 0 _ _ (0, 0) (heap_old (heap_old (heap_at _ rfl) _) _)]; rfl
  have b1 : (((w.alloc (.cells #[v] 26)).alloc (.cells #[u, u'] 28)).alloc (.cells #[.int .i64 x] 3)).cell? ⟨w.heap.size + 1, 0, none⟩ = some u := by rw [cell_of_row _ _ 0 _ _ (0, 0) (heap_old (heap_at _ (by simp)) _)]; rfl
  have b2 : (((w.alloc (.cells #[v] 26)).alloc (.cells #[u, u'] 28)).alloc (.cells #[.int .i64 x] 3)).cell? ⟨w.heap.size + 1, 1, none⟩ = some u' := by rw [cell_of_row _ _ 1 _ _ (0, 0) (heap_old (heap_at _ (by simp)) _)]; rfl
  have b3 : (((w.alloc (.cells #[v] 26)).alloc (.cells #[u, u'] 28)).alloc (.cells #[.int .i64 x] 3)).cell? ⟨w.heap.size + 1 + 1, 0, none⟩ = some (.int .i64 x) := by rw [cell_of_row _ _ 0 _ _ (0, 0) (heap_at _ (by simp))]; rfl
  have hlit : Rd ((((w.alloc (.cells #[v] 26)).alloc (.cells #[u, u'] 28)).alloc (.cells #[.int .i64 x] 3)).alloc (.cells #[.int .i64 x] 3)) 1 (.slice (some ⟨w.heap.size + 1 + 1 + 1, 0, none⟩) 1 1) 1 [.int .i64 x] := by simpa using rd_lit (((w.alloc (.cells #[v] 26)).alloc (.cells #[u, u'] 28)).alloc (.cells #[.int .i64 x] 3)) #[.int .i64 x]
  generalize hw0 : (((w.alloc (.cells #[v] 26)).alloc (.cells #[u, u'] 28)).alloc (.cells #[.int .i64 x] 3)) = w0 at *
  have Hlit := hid hlit
  have Hw0 := hid hw0
  have Bx := hid (And.intro b0 (And.intro b1 (And.intro b2 b3)))
  clear hlit hw0 b0 b1 b2 b3
  cases e1 : hasC ps ls ds x
  · have hno : nearB ps ls ds ns x = false := by
      have : (goodC ps ls ds && isNode ps.length x) = false := e1
      simp [nearB, this]
    rw [near_no hno, hno]
    rw [e1] at hc1
    clear hno e1
    go_enter Try.func11, Try.ntmps11
    go_wp2_with fail
    rw [Hw0.out]
    obtain ⟨b0, b1, b2, b3⟩ := Bx.out
    clear Hw0
    go_wp2_with (first | (go_at_call 41; (with_reducible refine (hc1.out _ _ _ _ _ (Hr.out.ext (XB.trans (by repeat' (first | exact Ext.refl _ | assumption | refine Ext.alloc ?_ _ | refine Ext.ext ?_ _ | refine Ext.drew ?_ | refine Ext.drewN ?_ _)))) (Kr.out.ext (XB.trans (by repeat' (first | exact Ext.refl _ | assumption | refine Ext.alloc ?_ _ | refine Ext.ext ?_ _ | refine Ext.drew ?_ | refine Ext.drewN ?_ _)))) (Lr.out.ext (XB.trans (by repeat' (first | exact Ext.refl _ | assumption | refine Ext.alloc ?_ _ | refine Ext.ext ?_ _ | refine Ext.drew ?_ | refine Ext.drewN ?_ _)))) Hlit.out).mono ?_); rintro e w' ⟨rfl, z1, rfl⟩))
    go_ret2
    exact ⟨rfl, XB.trans (by repeat' (first | exact Ext.refl _ | assumption | refine Ext.alloc ?_ _ | refine Ext.ext ?_ _ | refine Ext.drew ?_ | refine Ext.drewN ?_ _))⟩
  · have hC := hasC_iff e1
    rw [e1] at hc1
    rw [hC.1] at hc2
    cases e2 : nodesIn ps ns
    · have hno : nearB ps ls ds ns x = false := by simp [nearB, risB_eq, show allG (isNode ps.length) ns = false from e2]
      rw [near_no hno, hno]
      rw [e2] at hc2
      clear hno e1 e2 hC
      go_enter Try.func11, Try.ntmps11
      go_wp2_with fail
      rw [Hw0.out]
      obtain ⟨b0, b1, b2, b3⟩ := Bx.out
      clear Hw0
      go_wp2_with (first | (go_at_call 41; (with_reducible refine (hc1.out _ _ _ _ _ (Hr.out.ext (XB.trans (by repeat' (first | exact Ext.refl _ | assumption | refine Ext.alloc ?_ _ | refine Ext.ext ?_ _ | refine Ext.drew ?_ | refine Ext.drewN ?_ _)))) (Kr.out.ext (XB.trans (by repeat' (first | exact Ext.refl _ | assumption | refine Ext.alloc ?_ _ | refine Ext.ext ?_ _ | refine Ext.drew ?_ | refine Ext.drewN ?_ _)))) (Lr.out.ext (XB.trans (by repeat' (first | exact Ext.refl _ | assumption | refine Ext.alloc ?_ _ | refine Ext.ext ?_ _ | refine Ext.drew ?_ | refine Ext.drewN ?_ _)))) Hlit.out).mono ?_); rintro e w' ⟨rfl, z1, rfl⟩) | (go_at_call 41; (with_reducible refine (hc2.out _ (Hr.out.ext (XB.trans (by repeat' (first | exact Ext.refl _ | assumption | refine Ext.alloc ?_ _ | refine Ext.ext ?_ _ | refine Ext.drew ?_ | refine Ext.drewN ?_ _)))) (Kr.out.ext (XB.trans (by repeat' (first | exact Ext.refl _ | assumption | refine Ext.alloc ?_ _ | refine Ext.ext ?_ _ | refine Ext.drew ?_ | refine Ext.drewN ?_ _)))) (Lr.out.ext (XB.trans (by repeat' (first | exact Ext.refl _ | assumption | refine Ext.alloc ?_ _ | refine Ext.ext ?_ _ | refine Ext.drew ?_ | refine Ext.drewN ?_ _)))) (Mr.out.ext (XB.trans (by repeat' (first | exact Ext.refl _ | assumption | refine Ext.alloc ?_ _ | refine Ext.ext ?_ _ | refine Ext.drew ?_ | refine Ext.drewN ?_ _))))).mono ?_); rintro e w' ⟨rfl, z2, rfl⟩))
      go_ret2
      exact ⟨rfl, XB.trans (by repeat' (first | exact Ext.refl _ | assumption | refine Ext.alloc ?_ _ | refine Ext.ext ?_ _ | refine Ext.drew ?_ | refine Ext.drewN ?_ _))⟩
    · rw [e2] at hc2
      by_cases e3 : ns.length = 0
      · have hno : nearB ps ls ds ns x = false := by simp [nearB, e3]
        rw [near_no hno, hno]
        have t0 : ((ns.length : Int) == 0) = true := by simp [e3]
        clear hno e1 e2 hC e3
        go_enter Try.func11, Try.ntmps11
        go_wp2_with fail
        rw [Hw0.out]
        obtain ⟨b0, b1, b2, b3⟩ := Bx.out
        clear Hw0
        go_wp2_with (first | (go_at_call 41; (with_reducible refine (hc1.out _ _ _ _ _ (Hr.out.ext (XB.trans (by repeat' (first | exact Ext.refl _ | assumption | refine Ext.alloc ?_ _ | refine Ext.ext ?_ _ | refine Ext.drew ?_ | refine Ext.drewN ?_ _)))) (Kr.out.ext (XB.trans (by repeat' (first | exact Ext.refl _ | assumption | refine Ext.alloc ?_ _ | refine Ext.ext ?_ _ | refine Ext.drew ?_ | refine Ext.drewN ?_ _)))) (Lr.out.ext (XB.trans (by repeat' (first | exact Ext.refl _ | assumption | refine Ext.alloc ?_ _ | refine Ext.ext ?_ _ | refine Ext.drew ?_ | refine Ext.drewN ?_ _)))) Hlit.out).mono ?_); rintro e w' ⟨rfl, z1, rfl⟩) | (go_at_call 41; (with_reducible refine (hc2.out _ (Hr.out.ext (XB.trans (by repeat' (first | exact Ext.refl _ | assumption | refine Ext.alloc ?_ _ | refine Ext.ext ?_ _ | refine Ext.drew ?_ | refine Ext.drewN ?_ _)))) (Kr.out.ext (XB.trans (by repeat' (first | exact Ext.refl _ | assumption | refine Ext.alloc ?_ _ | refine Ext.ext ?_ _ | refine Ext.drew ?_ | refine Ext.drewN ?_ _)))) (Lr.out.ext (XB.trans (by repeat' (first | exact Ext.refl _ | assumption | refine Ext.alloc ?_ _ | refine Ext.ext ?_ _ | refine Ext.drew ?_ | refine Ext.drewN ?_ _)))) (Mr.out.ext (XB.trans (by repeat' (first | exact Ext.refl _ | assumption | refine Ext.alloc ?_ _ | refine Ext.ext ?_ _ | refine Ext.drew ?_ | refine Ext.drewN ?_ _))))).mono ?_); rintro e w' ⟨rfl, z2, rfl⟩))
        go_ret2
        exact ⟨rfl, XB.trans (by repeat' (first | exact Ext.refl _ | assumption | refine Ext.alloc ?_ _ | refine Ext.ext ?_ _ | refine Ext.drew ?_ | refine Ext.drewN ?_ _))⟩
      · have t0 : ((ns.length : Int) == 0) = false := by rw [beq_eq_false_iff_ne]; omega
        cases e4 : ascB ns
        · have hno : nearB ps ls ds ns x = false := by simp [nearB, risB_eq, e4]
          rw [near_no hno, hno]
          rw [e4] at ha
          clear hno e1 e2 hC e3 e4
          go_enter Try.func11, Try.ntmps11
          go_wp2_with fail
          rw [Hw0.out]
          obtain ⟨b0, b1, b2, b3⟩ := Bx.out
          clear Hw0
          go_wp2_with (first | (go_at_call 41; (with_reducible refine (hc1.out _ _ _ _ _ (Hr.out.ext (XB.trans (by repeat' (first | exact Ext.refl _ | assumption | refine Ext.alloc ?_ _ | refine Ext.ext ?_ _ | refine Ext.drew ?_ | refine Ext.drewN ?_ _)))) (Kr.out.ext (XB.trans (by repeat' (first | exact Ext.refl _ | assumption | refine Ext.alloc ?_ _ | refine Ext.ext ?_ _ | refine Ext.drew ?_ | refine Ext.drewN ?_ _)))) (Lr.out.ext (XB.trans (by repeat' (first | exact Ext.refl _ | assumption | refine Ext.alloc ?_ _ | refine Ext.ext ?_ _ | refine Ext.drew ?_ | refine Ext.drewN ?_ _)))) Hlit.out).mono ?_); rintro e w' ⟨rfl, z1, rfl⟩) | (go_at_call 41; (with_reducible refine (hc2.out _ (Hr.out.ext (XB.trans (by repeat' (first | exact Ext.refl _ | assumption | refine Ext.alloc ?_ _ | refine Ext.ext ?_ _ | refine Ext.drew ?_ | refine Ext.drewN ?_ _)))) (Kr.out.ext (XB.trans (by repeat' (first | exact Ext.refl _ | assumption | refine Ext.alloc ?_ _ | refine Ext.ext ?_ _ | refine Ext.drew ?_ | refine Ext.drewN ?_ _)))) (Lr.out.ext (XB.trans (by repeat' (first | exact Ext.refl _ | assumption | refine Ext.alloc ?_ _ | refine Ext.ext ?_ _ | refine Ext.drew ?_ | refine Ext.drewN ?_ _)))) (Mr.out.ext (XB.trans (by repeat' (first | exact Ext.refl _ | assumption | refine Ext.alloc ?_ _ | refine Ext.ext ?_ _ | refine Ext.drew ?_ | refine Ext.drewN ?_ _))))).mono ?_); rintro e w' ⟨rfl, z2, rfl⟩) | (go_at_call 48; (with_reducible refine (ha.out _ (Mr.out.ext (XB.trans (by repeat' (first | exact Ext.refl _ | assumption | refine Ext.alloc ?_ _ | refine Ext.ext ?_ _ | refine Ext.drew ?_ | refine Ext.drewN ?_ _))))).mono ?_); rintro e w' ⟨rfl, z3, rfl⟩))
          go_ret2
          exact ⟨rfl, XB.trans (by repeat' (first | exact Ext.refl _ | assumption | refine Ext.alloc ?_ _ | refine Ext.ext ?_ _ | refine Ext.drew ?_ | refine Ext.drewN ?_ _))⟩
        · have hyes : nearB ps ls ds ns x = true := by
            have h1 : (goodC ps ls ds && isNode ps.length x) = true := e1
            have h2 : allG (isNode ps.length) ns = true := e2
            simp [nearB, h1, risB_eq, h2, e3, e4]
          obtain ⟨g1, g2, g3, g4, -, -⟩ := nearB_iff hyes
          rw [near_yes hyes, hyes]
          rw [e4] at ha
          have hm : ∀ w', Ext w0 w' → Calls Try.prog 49 #[.slice yp ns.length yc, .func (.func 50) #[] #[.pointer (some ⟨w.heap.size + 1, 0, none⟩), .pointer (some ⟨w.heap.size, 0, none⟩), .pointer (some ⟨w.heap.size + 1 + 1, 0, none⟩)]] w' fun e w'' => e = .returned (.int .i64 (nearest ps ds ns x)) ∧ Ext w' w'' := fun w' e =>
            slices_MinFunc_int ns (fun a b => btw ps ds a x - btw ps ds b x) 50 #[.pointer (some ⟨w.heap.size + 1, 0, none⟩), .pointer (some ⟨w.heap.size, 0, none⟩), .pointer (some ⟨w.heap.size + 1 + 1, 0, none⟩)] (enters_of Try.func50 (by kernel_rfl) rfl) _ w' (Mr.out.ext (XB.trans e)) g3 m2
              (fun a b w'' ha hb e' => impl_NearestHolder_1 ps ls ds v u u' _ _ _ x a b w'' (Hr.out.ext (XB.trans (e.trans e'))) (Lr.out.ext (XB.trans (e.trans e'))) g1 (g4 a ha) (g4 b hb) g2 ((e.trans e').cell Bx.out.1) ((e.trans e').cell Bx.out.2.1) ((e.trans e').cell Bx.out.2.2.1) ((e.trans e').cell Bx.out.2.2.2))
          have Hm := hid hm
          clear hyes e1 e2 hC e3 e4 g1 g2 g3 g4 hm
          go_enter Try.func11, Try.ntmps11
          go_wp2_with fail
          rw [Hw0.out]
          obtain ⟨b0, b1, b2, b3⟩ := Bx.out
          clear Hw0
          go_wp2_with (first | (go_at_call 41; (with_reducible refine (hc1.out _ _ _ _ _ (Hr.out.ext (XB.trans (by repeat' (first | exact Ext.refl _ | assumption | refine Ext.alloc ?_ _ | refine Ext.ext ?_ _ | refine Ext.drew ?_ | refine Ext.drewN ?_ _)))) (Kr.out.ext (XB.trans (by repeat' (first | exact Ext.refl _ | assumption | refine Ext.alloc ?_ _ | refine Ext.ext ?_ _ | refine Ext.drew ?_ | refine Ext.drewN ?_ _)))) (Lr.out.ext (XB.trans (by repeat' (first | exact Ext.refl _ | assumption | refine Ext.alloc ?_ _ | refine Ext.ext ?_ _ | refine Ext.drew ?_ | refine Ext.drewN ?_ _)))) Hlit.out).mono ?_); rintro e w' ⟨rfl, z1, rfl⟩) | (go_at_call 41; (with_reducible refine (hc2.out _ (Hr.out.ext (XB.trans (by repeat' (first | exact Ext.refl _ | assumption | refine Ext.alloc ?_ _ | refine Ext.ext ?_ _ | refine Ext.drew ?_ | refine Ext.drewN ?_ _)))) (Kr.out.ext (XB.trans (by repeat' (first | exact Ext.refl _ | assumption | refine Ext.alloc ?_ _ | refine Ext.ext ?_ _ | refine Ext.drew ?_ | refine Ext.drewN ?_ _)))) (Lr.out.ext (XB.trans (by repeat' (first | exact Ext.refl _ | assumption | refine Ext.alloc ?_ _ | refine Ext.ext ?_ _ | refine Ext.drew ?_ | refine Ext.drewN ?_ _)))) (Mr.out.ext (XB.trans (by repeat' (first | exact Ext.refl _ | assumption | refine Ext.alloc ?_ _ | refine Ext.ext ?_ _ | refine Ext.drew ?_ | refine Ext.drewN ?_ _))))).mono ?_); rintro e w' ⟨rfl, z2, rfl⟩) | (go_at_call 48; (with_reducible refine (ha.out _ (Mr.out.ext (XB.trans (by repeat' (first | exact Ext.refl _ | assumption | refine Ext.alloc ?_ _ | refine Ext.ext ?_ _ | refine Ext.drew ?_ | refine Ext.drewN ?_ _))))).mono ?_); rintro e w' ⟨rfl, z3, rfl⟩) | (go_at_call 49; (with_reducible refine (Hm.out _ (by repeat' (first | exact Ext.refl _ | assumption | refine Ext.alloc ?_ _ | refine Ext.ext ?_ _ | refine Ext.drew ?_ | refine Ext.drewN ?_ _))).mono ?_); rintro e w' ⟨rfl, z4, rfl⟩))
          go_ret2
          exact ⟨rfl, XB.trans (by repeat' (first | exact Ext.refl _ | assumption | refine Ext.alloc ?_ _ | refine Ext.ext ?_ _ | refine Ext.drew ?_ | refine Ext.drewN ?_ _))⟩
theorem spec_NearestHolder (ps ls ds ns : List Int) (v u u' y : Value) (x : Int) (w : World) (h : Rd w 1 v ps.length (vInts ps)) (k : Rd w 1 u ls.length (vInts ls)) (l : Rd w 1 u' ds.length (vInts ds)) (m : Rd w 1 y ns.length (vInts ns))
    (h2 : ps.length ≤ 1048576) (k2 : ls.length ≤ 1048576) (l2 : ds.length ≤ 1048576) (m2 : ns.length ≤ 1048576) :
    Calls Try.prog 12 #[.agg #[v], .agg #[u, u'], .int .i64 x, y] w fun e w' => e = .returned (.tuple #[.int .i64 (nearN ps ls ds ns x), .bool (nearB ps ls ds ns x)]) ∧ Ext w w' := by
  have Hr := hid h
  have Kr := hid k
  have Lr := hid l
  have Mr := hid m
  obtain ⟨-, tp, tc, rfl, -⟩ := h
  obtain ⟨-, yp, yc, rfl, m4⟩ := m
  have M4 := hid m4
  clear k l m4
  have hc : Hid (∀ (w : World), Rd w 1 (.slice tp ps.length tc) ps.length (vInts ps) → Rd w 1 u ls.length (vInts ls) → Rd w 1 u' ds.length (vInts ds) →
      Calls Try.prog 43 #[.agg #[.slice tp ps.length tc], .agg #[u, u'], .int .i64 x] w fun e w' => e = .returned (.bool (goodC ps ls ds && isNode ps.length x)) ∧ Ext w w') :=
    fun w h k l => spec_l22Node ps ls ds _ u u' x w h k l h2 k2 l2
  have hr : Hid (∀ (w : World), Rd w 1 (.slice yp ns.length yc) ns.length (vInts ns) → Calls Try.prog 51 #[.slice yp ns.length yc, .int .i64 0, .int .i64 ((ps.length : Int) - 1)] w fun e w' => e = .returned (.bool (risB ns 0 ((ps.length : Int) - 1))) ∧ Ext w w') :=
    fun w m => spec_l1Rising ns _ _ _ w m m2
  have XB : Ext w ((w.alloc (.cells #[.slice tp ps.length tc] 26)).alloc (.cells #[u, u'] 28)) := (by repeat' (first | exact Ext.refl _ | assumption | refine Ext.alloc ?_ _ | refine Ext.ext ?_ _ | refine Ext.drew ?_ | refine Ext.drewN ?_ _))
  have b0 : ((w.alloc (.cells #[.slice tp ps.length tc] 26)).alloc (.cells #[u, u'] 28)).cell? ⟨w.heap.size, 0, none⟩ = some (.slice tp ps.length tc) := by rw [cell_of_row _ _ 0 _ _ (0, 0) (heap_old (heap_at _ rfl) _)]; rfl
  have b1 : ((w.alloc (.cells #[.slice tp ps.length tc] 26)).alloc (.cells #[u, u'] 28)).cell? ⟨w.heap.size + 1, 0, none⟩ = some u := by rw [cell_of_row _ _ 0 _ _ (0, 0) (heap_at _ (by simp))]; rfl
  have b2 : ((w.alloc (.cells #[.slice tp ps.length tc] 26)).alloc (.cells #[u, u'] 28)).cell? ⟨w.heap.size + 1, 1, none⟩ = some u' := by rw [cell_of_row _ _ 1 _ _ (0, 0) (heap_at _ (by simp))]; rfl
  generalize hw0 : ((w.alloc (.cells #[.slice tp ps.length tc] 26)).alloc (.cells #[u, u'] 28)) = w0 at *
  have Hw0 := hid hw0
  have Bx := hid (And.intro b0 (And.intro b1 b2))
  clear hw0 b0 b1 b2
  cases e1 : (goodC ps ls ds && isNode ps.length x)
  · have hno : nearB ps ls ds ns x = false := by simp [nearB, e1]
    rw [near_no hno, hno]
    rw [e1] at hc
    clear hno e1
    go_enter Try.func12, Try.ntmps12
    go_wp2_with fail
    rw [Hw0.out]
    obtain ⟨b0, b1, b2⟩ := Bx.out
    clear Hw0
    go_wp2_with (first | (go_at_call 43; (with_reducible refine (hc.out _ (Hr.out.ext (XB.trans (by repeat' (first | exact Ext.refl _ | assumption | refine Ext.alloc ?_ _ | refine Ext.ext ?_ _ | refine Ext.drew ?_ | refine Ext.drewN ?_ _)))) (Kr.out.ext (XB.trans (by repeat' (first | exact Ext.refl _ | assumption | refine Ext.alloc ?_ _ | refine Ext.ext ?_ _ | refine Ext.drew ?_ | refine Ext.drewN ?_ _)))) (Lr.out.ext (XB.trans (by repeat' (first | exact Ext.refl _ | assumption | refine Ext.alloc ?_ _ | refine Ext.ext ?_ _ | refine Ext.drew ?_ | refine Ext.drewN ?_ _))))).mono ?_); rintro e w' ⟨rfl, z1, rfl⟩))
    go_ret2
    exact ⟨rfl, XB.trans (by repeat' (first | exact Ext.refl _ | assumption | refine Ext.alloc ?_ _ | refine Ext.ext ?_ _ | refine Ext.drew ?_ | refine Ext.drewN ?_ _))⟩
  · rw [e1] at hc
    by_cases e3 : ns.length = 0
    · have hno : nearB ps ls ds ns x = false := by simp [nearB, e3]
      rw [near_no hno, hno]
      have t0 : ((ns.length : Int) == 0) = true := by simp [e3]
      clear hno e1 e3
      go_enter Try.func12, Try.ntmps12
      go_wp2_with fail
      rw [Hw0.out]
      obtain ⟨b0, b1, b2⟩ := Bx.out
      clear Hw0
      go_wp2_with (first | (go_at_call 43; (with_reducible refine (hc.out _ (Hr.out.ext (XB.trans (by repeat' (first | exact Ext.refl _ | assumption | refine Ext.alloc ?_ _ | refine Ext.ext ?_ _ | refine Ext.drew ?_ | refine Ext.drewN ?_ _)))) (Kr.out.ext (XB.trans (by repeat' (first | exact Ext.refl _ | assumption | refine Ext.alloc ?_ _ | refine Ext.ext ?_ _ | refine Ext.drew ?_ | refine Ext.drewN ?_ _)))) (Lr.out.ext (XB.trans (by repeat' (first | exact Ext.refl _ | assumption | refine Ext.alloc ?_ _ | refine Ext.ext ?_ _ | refine Ext.drew ?_ | refine Ext.drewN ?_ _))))).mono ?_); rintro e w' ⟨rfl, z1, rfl⟩))
      go_ret2
      exact ⟨rfl, XB.trans (by repeat' (first | exact Ext.refl _ | assumption | refine Ext.alloc ?_ _ | refine Ext.ext ?_ _ | refine Ext.drew ?_ | refine Ext.drewN ?_ _))⟩
    · have t0 : ((ns.length : Int) == 0) = false := by rw [beq_eq_false_iff_ne]; omega
      cases e4 : risB ns 0 ((ps.length : Int) - 1)
      · have hno : nearB ps ls ds ns x = false := by simp [nearB, e4]
        rw [near_no hno, hno]
        rw [e4] at hr
        clear hno e1 e3 e4
        go_enter Try.func12, Try.ntmps12
        go_wp2_with fail
        rw [Hw0.out]
        obtain ⟨b0, b1, b2⟩ := Bx.out
        clear Hw0
        go_wp2_with (first | (go_at_call 43; (with_reducible refine (hc.out _ (Hr.out.ext (XB.trans (by repeat' (first | exact Ext.refl _ | assumption | refine Ext.alloc ?_ _ | refine Ext.ext ?_ _ | refine Ext.drew ?_ | refine Ext.drewN ?_ _)))) (Kr.out.ext (XB.trans (by repeat' (first | exact Ext.refl _ | assumption | refine Ext.alloc ?_ _ | refine Ext.ext ?_ _ | refine Ext.drew ?_ | refine Ext.drewN ?_ _)))) (Lr.out.ext (XB.trans (by repeat' (first | exact Ext.refl _ | assumption | refine Ext.alloc ?_ _ | refine Ext.ext ?_ _ | refine Ext.drew ?_ | refine Ext.drewN ?_ _))))).mono ?_); rintro e w' ⟨rfl, z1, rfl⟩) | (go_at_call 51; (with_reducible refine (hr.out _ (Mr.out.ext (XB.trans (by repeat' (first | exact Ext.refl _ | assumption | refine Ext.alloc ?_ _ | refine Ext.ext ?_ _ | refine Ext.drew ?_ | refine Ext.drewN ?_ _))))).mono ?_); rintro e w' ⟨rfl, z2, rfl⟩))
        go_ret2
        exact ⟨rfl, XB.trans (by repeat' (first | exact Ext.refl _ | assumption | refine Ext.alloc ?_ _ | refine Ext.ext ?_ _ | refine Ext.drew ?_ | refine Ext.drewN ?_ _))⟩
      · have hyes : nearB ps ls ds ns x = true := by simp [nearB, e1, e3, e4]
        obtain ⟨g1, g2, g3, g4, -, -⟩ := nearB_iff hyes
        have hT := (goodC_all g1).1
        rw [near_yes hyes, hyes]
        rw [e4] at hr
        have hnr : nearest ps ds ns x = bestI (fun a b => btw ps ds a x - btw ps ds b x) ns (ns.length - 1) := rfl
        have hbm := bestI_mem (fun a b => btw ps ds a x - btw ps ds b x) ns
        have hb0 : bestI (fun a b => btw ps ds a x - btw ps ds b x) ns 0 = ns.getD 0 0 := rfl
        obtain ⟨bb, off, rfl, m6⟩ := M4.out.resolve_left g3
        have a0 := XB.cell (elem1 (Value.int .i64) 0 ns m6 0 (by omega))
        simp only [Nat.add_zero] at a0
        have hpos : 0 < ns.length := by omega
        have hd := fun a w' (ha : 0 ≤ a ∧ a < (ps.length : Int)) (e : Ext w0 w') => spec_l22Between ps ls ds _ u u' x a w' (Hr.out.ext (XB.trans e)) (Lr.out.ext (XB.trans e)) g1 g2 ha
        have hbtc := fun a (ha : 0 ≤ a ∧ a < (ps.length : Int)) => btw_comm (ds := ds) hT g2 ha
        have Hbtc := hid hbtc
        have Hd := hid hd
        have Hnr := hid hnr
        have Hbm := hid hbm
        have M6 := hid m6
        have G4 := hid g4
        generalize ns.getD 0 0 = d9 at a0 hb0
        have Hb0 := hid hb0
        clear hyes e1 e3 e4 g1 g2 g3 g4 hT hnr hbm hb0 m6 hd hbtc M4
        go_enter Try.func12, Try.ntmps12
        go_wp2_with fail
        rw [Hw0.out]
        obtain ⟨b0, b1, b2⟩ := Bx.out
        clear Hw0
        go_wp2_with (first | (go_at_call 43; (with_reducible refine (hc.out _ (Hr.out.ext (XB.trans (by repeat' (first | exact Ext.refl _ | assumption | refine Ext.alloc ?_ _ | refine Ext.ext ?_ _ | refine Ext.drew ?_ | refine Ext.drewN ?_ _)))) (Kr.out.ext (XB.trans (by repeat' (first | exact Ext.refl _ | assumption | refine Ext.alloc ?_ _ | refine Ext.ext ?_ _ | refine Ext.drew ?_ | refine Ext.drewN ?_ _)))) (Lr.out.ext (XB.trans (by repeat' (first | exact Ext.refl _ | assumption | refine Ext.alloc ?_ _ | refine Ext.ext ?_ _ | refine Ext.drew ?_ | refine Ext.drewN ?_ _))))).mono ?_); rintro e w' ⟨rfl, z1, rfl⟩) | (go_at_call 51; (with_reducible refine (hr.out _ (Mr.out.ext (XB.trans (by repeat' (first | exact Ext.refl _ | assumption | refine Ext.alloc ?_ _ | refine Ext.ext ?_ _ | refine Ext.drew ?_ | refine Ext.drewN ?_ _))))).mono ?_); rintro e w' ⟨rfl, z2, rfl⟩))
        have HX := hid (show Ext w0 ((w0.ext z1).ext z2) from (by repeat' (first | exact Ext.refl _ | assumption | refine Ext.alloc ?_ _ | refine Ext.ext ?_ _ | refine Ext.drew ?_ | refine Ext.drewN ?_ _)))
        generalize (w0.ext z1).ext z2 = W at *
        clear b0 b1 b2
        go_loopw [11, 10] (fun v11 v10 wr => ∃ k : Nat, k < ns.length ∧ v11 = .int .i64 (k + 1) ∧ v10 = .int .i64 (bestI (fun a b => btw ps ds a x - btw ps ds b x) ns k) ∧ Ext W wr) (fun v11 _ _ => ns.length - (intOf v11).toNat)
        case atStart => exact ⟨0, hpos, rfl, by rw [Hb0.out], Ext.refl _⟩
        case round =>
          obtain ⟨k, hk, rfl, rfl, z, rfl⟩ := hrel
          have hmo := G4.out _ (Hbm.out k hk)
          have b0 := HX.out.cell Bx.out.1
          have b1 := HX.out.cell Bx.out.2.1
          have b2 := HX.out.cell Bx.out.2.2
          by_cases hlt : k + 1 < ns.length
          · have hbest : bestI (fun a b => btw ps ds a x - btw ps ds b x) ns (k + 1) = if decide (btw ps ds (ns.getD (k + 1) 0) x - btw ps ds (bestI (fun a b => btw ps ds a x - btw ps ds b x) ns k) x < 0) then ns.getD (k + 1) 0 else bestI (fun a b => btw ps ds a x - btw ps ds b x) ns k := rfl
            have a1 := HX.out.cell (XB.cell (elem1 (Value.int .i64) 0 ns M6.out (k + 1) hlt))
            have hxo := G4.out _ (mem_getD (L := ns) hlt)
            generalize ns.getD (k + 1) 0 = q at a1 hbest hxo
            generalize bestI (fun a b => btw ps ds a x - btw ps ds b x) ns k = p at *
            rw [← Hbtc.out q hxo, ← Hbtc.out p hmo] at hbest
            have TT : Hid (decide (btw ps ds x q - btw ps ds x p < 0) = decide (btw ps ds x q < btw ps ds x p)) := decide_eq_decide.2 (by omega)
            have Hbest := hid hbest
            clear hbest
            cases t1 : decide (btw ps ds x q < btw ps ds x p)
            all_goals
              have T1 := hid t1
              go_wp2
              refine wp_region_ext (by kernel_rfl) (by kernel_rfl) ?_
              repeat (go_big_quiet_step ((first | (go_at_call 45; exact Calls.quiet_ext (Hd.out _ _ (by first | exact hxo | exact hmo) (HX.out.trans (by repeat' (first | exact Ext.refl _ | assumption | refine Ext.alloc ?_ _ | refine Ext.ext ?_ _ | refine Ext.drew ?_ | refine Ext.drewN ?_ _))))))))
              refine wpQuiet_nil ?_
              rintro _ ⟨zq, rfl⟩
              go_wp2
              go_roundw
              case rel => exact ⟨k + 1, hlt, by go_num, by rw [Hbest.out, TT.out, T1.out]; rfl, (by repeat' (first | exact Ext.refl _ | assumption | refine Ext.alloc ?_ _ | refine Ext.ext ?_ _ | refine Ext.drew ?_ | refine Ext.drewN ?_ _))⟩
              case measure => simp [intOf]; omega
          · have hk1 : k = ns.length - 1 := by omega
            have hs : bestI (fun a b => btw ps ds a x - btw ps ds b x) ns k = nearest ps ds ns x := by rw [Hnr.out, ← hk1]
            rw [hs]
            clear hs hmo
            go_wp2
            go_ret2
            exact ⟨rfl, XB.trans (HX.out.trans (by repeat' (first | exact Ext.refl _ | assumption | refine Ext.alloc ?_ _ | refine Ext.ext ?_ _ | refine Ext.drew ?_ | refine Ext.drewN ?_ _)))⟩
end Go.Proofs.Ytppdbnopgcjgjaa
