/- The laws' own small words: their comparisons, and the bytes that come in. Tails of a function's code, and frames as letters: a long walk cut into declarations. FnCaptures: the walk behind its loops. -/
import Derived.Test.YtljknhocfjpolaaGreatDoorJ3
import Derived.Test.YtljknhocfjpolaaGreatDoorJ2
import Derived.Test.YtljknhocfjpolaaGreatDoorJ25
import Derived.Test.YtljknhocfjpolaaGreatDoorChecked
import Derived.Deep.DeepCutAuto
import Derived.Test.YtljknhocfjpolaaGreatDoorKWCurX6
import Derived.Test.YtljknhocfjpolaaGreatDoorJ29
import Derived.Test.YtljknhocfjpolaaGreatDoorJ34
import Derived.Test.YtljknhocfjpolaaGreatDoorKWJoinC
import Derived.Test.YtljknhocfjpolaaGreatDoorKWSel
import Derived.Test.YtljknhocfjpolaaGreatDoorKWSg
import Derived.Test.YtljknhocfjpolaaGreatDoorKWPr
namespace Go.Proofs.YtljknhocfjpolaaGreatDoor
open Go.RowKit
set_option maxHeartbeats 1000000
set_option maxRecDepth 100000
theorem laws_rInts (xs : List Int) (v u : Value) (w : World) (hv : Rd w 1 v xs.length (vInts xs)) (hu : Rd w 1 u xs.length (vInts xs)) (hn : xs.length ≤ 4294967296) :
    Calls Tryz.prog 30 #[v, u] w fun e w' => e = .returned (.bool true) ∧ Ext w w' := by
  obtain ⟨h1, p, cap, rfl, h4⟩ := hv
  obtain ⟨h1', p', cap', rfl, h4'⟩ := hu
  clear h1 h1'
  have H4 := hid h4; clear h4
  have H4' := hid h4'; clear h4'
  go_enter Tryz.func30, Tryz.ntmps30
  go_wp2
  go_loopw [5] (fun v5 wr => ∃ (k : Nat), k ≤ xs.length ∧ v5 = .int .i64 k ∧ Ext w wr) (fun v5 _ => xs.length - (intOf v5).toNat)
  case atStart => exact ⟨0, Nat.zero_le _, rfl, Ext.refl _⟩
  case round =>
    obtain ⟨k, hk, rfl, z, rfl⟩ := hrel
    by_cases hlt : k < xs.length
    · obtain ⟨b, off, rfl, h6⟩ := H4.out.resolve_left (by omega)
      obtain ⟨b', off', rfl, h6'⟩ := H4'.out.resolve_left (by omega)
      have c0 := elem1 (Value.int .i64) 0 xs h6 k hlt
      have c1 := elem1 (Value.int .i64) 0 xs h6' k hlt
      have H6 := hid h6; clear h6
      have H6' := hid h6'; clear h6'
      go_wp2
      refine wp_region_ext (by kernel_rfl) (by kernel_rfl) ?_
      repeat (go_big_quiet_step ((first | fail)))
      refine wpQuiet_nil ?_
      rintro _ ⟨zq, rfl⟩
      go_wp2
      go_roundw
      case rel => exact ⟨k + 1, by omega, by go_num, ((Ext.refl _).ext _).ext _⟩
      case measure => simp [intOf]; omega
    · go_wp2
      go_ret
      exact ⟨rfl, (Ext.refl _).ext _⟩
theorem laws_rHas (xs : List Int) (v : Value) (x : Int) (w : World) (h : Rd w 1 v xs.length (vInts xs)) (h2 : xs.length ≤ 1048576) :
    Calls Tryz.prog 31 #[v, .int .i64 x] w fun e w' => e = .returned (.bool (xs.contains x)) ∧ Ext w w' := by
  obtain ⟨h1, p, cap, rfl, h4⟩ := h
  have H1 := hid h1; clear h1
  have H4 := hid h4; clear h4
  go_enter Tryz.func31, Tryz.ntmps31
  go_wp2
  go_loopw [5] (fun v3 wr => ∃ k : Nat, k ≤ xs.length ∧ v3 = .int .i64 k ∧ (∀ i, i < k → ¬ xs.getD i 0 = x) ∧ Ext w wr) (fun v3 _ => xs.length - (intOf v3).toNat)
  case atStart => exact ⟨0, Nat.zero_le _, rfl, fun _ h => absurd h (Nat.not_lt_zero _), Ext.refl _⟩
  case round =>
    obtain ⟨k, hk, rfl, hall, z, rfl⟩ := hrel
    by_cases hlt : k < xs.length
    · obtain ⟨b, off, rfl, h6⟩ := H4.out.resolve_left (by omega)
      have c0 := elem1 (Value.int .i64) 0 xs h6 k hlt
      have H6 := hid h6; clear h6 H4
      have next : ¬ xs.getD k 0 = x → ∀ i, i < k + 1 → ¬ xs.getD i 0 = x := fun h => upTo_succ hall h
      have yes : xs.getD k 0 = x → xs.contains x = true := fun h => contains_at hlt x h
      generalize xs.getD k 0 = y at c0 next yes
      have Next := hid next
      have Yes := hid yes
      clear next yes hall
      cases t0 : (y == x)
      · have T0 := hid t0
        go_wp2
        go_roundw
        case rel => exact ⟨k + 1, by omega, by go_num, Next.out (by have := T0.out; simpa using this), (by repeat' (first | exact Ext.refl _ | assumption | refine Ext.alloc ?_ _ | refine Ext.ext ?_ _ | refine Ext.drew ?_ | refine Ext.drewN ?_ _))⟩
        case measure => simp [intOf]; omega
      · have T0 := hid t0
        go_wp2
        go_ret
        exact ⟨by rw [Yes.out (by have := T0.out; simpa using this)]; rfl, (by repeat' (first | exact Ext.refl _ | assumption | refine Ext.alloc ?_ _ | refine Ext.ext ?_ _ | refine Ext.drew ?_ | refine Ext.drewN ?_ _))⟩
    · have hf : xs.contains x = false := contains_no x (fun i hi => hall i (by omega))
      have Hf := hid hf; clear hf hall
      go_wp2
      go_ret
      exact ⟨by rw [Hf.out]; rfl, (by repeat' (first | exact Ext.refl _ | assumption | refine Ext.alloc ?_ _ | refine Ext.ext ?_ _ | refine Ext.drew ?_ | refine Ext.drewN ?_ _))⟩
theorem laws_rBig (n : Nat) (p : Option Addr) (cap : Nat) (w : World) : Calls Tryz.prog 11 #[.slice p n cap] w fun e w' => e = .returned (.bool (decide ((65536 : Int) < (n : Int)))) ∧ w = w' := by
  go_enter Tryz.func11, Tryz.ntmps11
  go_wp2
  go_ret
  simp
/-- The bytes that came in. -/
theorem opened_bytes {H : Type} {enc : TypeId × Value → H} {W : World} {v : Value} {d : DataW H} {ps : List MemPlace} {r : Reach} {b : Nat} (hval : Value.okWide Tryz.prog W r b 28 v)
    (h : DataW.Trod enc Tryz.prog W 0 (fun _ => true) true 28 v d ps) : ∃ xs : List Int, Rd W 1 v xs.length (vBytes xs) ∧ xs.length ≤ maxLen ∧ ∀ x ∈ xs, 0 ≤ x ∧ x ≤ 255 := by
  obtain ⟨fuel, h⟩ := h
  obtain ⟨a, len, cap, rfl⟩ := Go.WideShapes.okWide_slice Tryz.underlying28 hval
  obtain ⟨css, h1, h2, h3⟩ := rd_of_trod (d := 3) Tryz.underlying28 (ks := [.i .u8]) (by kernel_rfl) (by kernel_rfl) (by decide) h
  obtain ⟨xs, rfl, hx⟩ := exists_map (f := fun x => [Value.int .u8 x]) (ok := fun x => 0 ≤ x ∧ x ≤ 255) (l := css) (fun cs hcs => by
    obtain ⟨a, rfl, ⟨a, rfl, hw⟩⟩ := (h1 cs hcs).one
    exact ⟨a, rfl, bounds_u8 hw⟩)
  have e : vBytes xs = xs.flatMap (fun x => [Value.int .u8 x]) := by
    clear h1 h2 h3 hx
    unfold vBytes
    induction xs with
    | nil => rfl
    | cons x xs ih => rw [List.map_cons, List.flatMap_cons, ih]; rfl
  exact ⟨xs, by rw [e]; exact h2.map, by simpa using h3, hx⟩
end Go.Proofs.YtljknhocfjpolaaGreatDoor
namespace Go
/-- Does it begin with region n? -/
def Code.startsAt (n : Nat) : Code → Bool
  | .region i _ _ => i == n
  | .seq a _ => a.startsAt n
  | .scope a => a.startsAt n
  | _ => false
/-- What is left of the statements from region n on. -/
def Code.tailAt (n : Nat) : Code → Code
  | .seq a b => if a.startsAt n then .seq a b else b.tailAt n
  | .scope c => if c.startsAt n then .scope c else c.tailAt n
  | c => c
def letters (u : Nat → Value) : Nat → Nat → List Value
  | _, 0 => []
  | i, n + 1 => u i :: letters u (i + 1) n
theorem letters_get (u : Nat → Value) : ∀ (n i j : Nat), (letters u i n)[j]? = if j < n then some (u (i + j)) else none
  | 0, i, j => by simp [letters]
  | n + 1, i, 0 => by simp [letters]
  | n + 1, i, j + 1 => by
    rw [letters, List.getElem?_cons_succ, letters_get u n (i + 1) j]
    rw [show i + 1 + j = i + (j + 1) by omega]
    by_cases h : j < n
    · rw [if_pos h, if_pos (by omega)]
    · rw [if_neg h, if_neg (by omega)]
theorem frame_arg (a : Act) (n : Nat) (h1 : a.defers = []) (h2 : a.tmps.size = n + 1) (v : Value) (h3 : a.tmps.getD 0 undef = v) : a = ⟨(v :: letters (fun i => a.tmps.getD i undef) 1 n).toArray, []⟩ := by
  obtain ⟨tmps, d⟩ := a
  simp only at h1 h2 h3
  subst h1
  congr 1
  apply Array.ext_getElem?
  intro j
  refine Eq.trans ?_ (List.getElem?_toArray (xs := v :: letters _ 1 n) (i := j)).symm
  cases j with
  | zero =>
    rw [List.getElem?_cons_zero, ← h3, Array.getD_eq_getD_getElem?, Array.getElem?_eq_getElem (by omega)]
    rfl
  | succ j =>
    rw [List.getElem?_cons_succ, letters_get]
    split
    · rename_i h
      have hj : j + 1 < tmps.size := by omega
      show tmps[j + 1]? = some (tmps.getD (1 + j) undef)
      rw [show 1 + j = j + 1 by omega, Array.getD_eq_getD_getElem?, Array.getElem?_eq_getElem hj]
      rfl
    · exact Array.getElem?_eq_none (show tmps.size ≤ j + 1 by omega)
end Go
namespace Go.Proofs.YtljknhocfjpolaaGreatDoor
open Go.RowKit
set_option maxHeartbeats 4000000
set_option maxRecDepth 100000
theorem SmC.ofBs {xs : List Cap} (h : capB xs = true) : SmC xs := ⟨Nat.le_trans (cap_iff h).1 (by decide), fun x hx => Nat.le_trans (okC_size (cap_mem h x hx)) (by decide)⟩
theorem selD_le (xs : List Cap) (b : Bool) (p : Cap → Bool) : (selD xs b p).length ≤ xs.length := by
  unfold selD
  split
  · exact List.length_filter_le _ _
  · exact Nat.zero_le _
theorem jD_law (xs ys : List Cap) : jB xs ys = true → capB (jD xs ys) = true ∧ (jD xs ys).length = xs.length + ys.length := fun h => by
  have hj : jD xs ys = mg xs ys := by rw [jD, h]; rfl
  simp only [jB, Bool.and_eq_true, decide_eq_true_eq] at h
  rw [hj]
  exact ⟨capB_mg h.1 h.2.1 h.2.2, mg_len h.1 h.2.1⟩
theorem jD_le (xs ys : List Cap) : (jD xs ys).length ≤ 1048576 := by
  cases h : jB xs ys
  · have hj : jD xs ys = [] := by rw [jD, h]; rfl
    rw [hj]; exact Nat.zero_le _
  · exact (SmC.ofBs (jD_law xs ys h).1).len
theorem pcL_le (s : ByteArray) : (pcL (PC s)).length ≤ 10 := by
  cases h : PC s with
  | none => exact Nat.zero_le _
  | some xs => exact (cap_iff (PC_of h).1).1
theorem frame218 (a : Act) (v : Value) (h1 : a.defers = []) (h2 : a.tmps.size = 218) (h3 : a.tmps.getD 0 undef = v) : ∃ u : Nat → Value, a = ⟨#[v, u 1, u 2, u 3, u 4, u 5, u 6, u 7, u 8, u 9, u 10, u 11, u 12, u 13, u 14, u 15, u 16, u 17, u 18, u 19, u 20, u 21, u 22, u 23, u 24, u 25, u 26, u 27, u 28, u 29, u 30, u 31, u 32, u 33, u 34, u 35, u 36, u 37, u 38, u 39, u 40, u 41, u 42, u 43, u 44, u 45, u 46, u 47, u 48, u 49, u 50, u 51, u 52, u 53, u 54, u 55, u 56, u 57, u 58, u 59, u 60, u 61, u 62, u 63, u 64, u 65, u 66, u 67, u 68, u 69, u 70, u 71, u 72, u 73, u 74, u 75, u 76, u 77, u 78, u 79, u 80, u 81, u 82, u 83, u 84, u 85, u 86, u 87, u 88, u 89, u 90, u 91, u 92, u 93, u 94, u 95, u 96, u 97, u 98, u 99, u 100, u 101, u 102, u 103, u 104, u 105, u 106, u 107, u 108, u 109, u 110, u 111, u 112, u 113, u 114, u 115, u 116, u 117, u 118, u 119, u 120, u 121, u 122, u 123, u 124, u 125, u 126, u 127, u 128, u 129, u 130, u 131, u 132, u 133, u 134, u 135, u 136, u 137, u 138, u 139, u 140, u 141, u 142, u 143, u 144, u 145, u 146, u 147, u 148, u 149, u 150, u 151, u 152, u 153, u 154, u 155, u 156, u 157, u 158, u 159, u 160, u 161, u 162, u 163, u 164, u 165, u 166, u 167, u 168, u 169, u 170, u 171, u 172, u 173, u 174, u 175, u 176, u 177, u 178, u 179, u 180, u 181, u 182, u 183, u 184, u 185, u 186, u 187, u 188, u 189, u 190, u 191, u 192, u 193, u 194, u 195, u 196, u 197, u 198, u 199, u 200, u 201, u 202, u 203, u 204, u 205, u 206, u 207, u 208, u 209, u 210, u 211, u 212, u 213, u 214, u 215, u 216, u 217], []⟩ :=
  ⟨fun i => a.tmps.getD i undef, frame_arg a 217 h1 h2 v h3⟩
def CsPost (w : World) : Exit → Act → World → Prop := bodyPost Tryz.prog Tryz.f4 (fun e w' => e = .returned (.bool true) ∧ Ext w w')
noncomputable def csTl (n : Nat) : Code := (Tryz.f4.body.getD .skip).tailAt n
def CsTail (n : Nat) (p : Option Addr) (m cap : Nat) (w : World) : Prop := ∀ (a : Act) (wc : World), Ext w wc → a.defers = [] → a.tmps.size = 218 → a.tmps.getD 0 undef = .slice p m cap → Code.wp Tryz.prog (csTl n) (CsPost w) a wc
-- part 5
theorem csq_p5 {bs : List Int} (hb : Bts bs) {p : Option Addr} {cap : Nat} {w : World} (Hr : Hid (Rd w 1 (.slice p bs.length cap) bs.length (vBytes bs))) : CsTail 37 p bs.length cap w := by
  intro a wc hx h1 h2 h3
  obtain ⟨u, rfl⟩ := frame218 a _ h1 h2 h3
  clear h1 h2 h3
  have HY := hid hx
  clear hx
  have dd := hid (fun w h => spec_DrawJoinCaptures hb (v := .slice p bs.length cap) w h)
  clear hb
  unfold csTl CsPost
  conv => arg 2; whnf
  go_wp2_with fail
  go_at_call 24
  refine (dd.out _ (Hr.out.ext HY.out)).mono ?_
  rintro e w1 ⟨g, gc, xs, g', gc', ys, rfl, hA, hB, hx⟩
  have L0 := hid (And.intro (HY.out.trans hx) (And.intro hA hB))
  have cj := hid (fun W h k => impl_JoinCaptures xs ys (.slice (some ⟨g, 0, none⟩) xs.length gc) (.slice (some ⟨g', 0, none⟩) ys.length gc') W h k hA.1.2.len hB.1.2.len hA.1.2.chars hB.1.2.chars)
  have cs := hid (fun W h k => spec_JoinCaptures xs ys (.slice (some ⟨g, 0, none⟩) xs.length gc) (some ⟨g', 0, none⟩) gc' W h k hB.1.1 hA.1.2.len hB.1.2.len hA.1.2.chars hB.1.2.chars)
  have cr := hid (fun v u W h k => laws_rCaptures (jD xs ys) v u W h k (jD_le xs ys))
  have ci := hid (fun v W h h1 h2 => impl_IsCapture (jD xs ys) v W h h1 h2)
  have law := hid (jD_law xs ys)
  have hx12 := hA.1.2.1
  have hy12 := hB.1.2.1
  clear hA hB hx HY dd
  go_wp2_with fail
  go_at_call 25
  refine (cj.out _ L0.out.2.1.2 L0.out.2.2.2).mono ?_
  rintro e w2 ⟨r, rfl, ho, hx⟩
  obtain ⟨rp, rc, rfl⟩ := own_shape ho
  have L1 := hid (And.intro (L0.out.1.trans hx) (And.intro (And.intro (L0.out.2.1.ext hx) (L0.out.2.2.ext hx)) (Rd.own ho)))
  clear hx ho L0 cj
  go_wp2_with fail
  go_at_call 26
  refine (cs.out _ L1.out.2.1.1.2 L1.out.2.1.2.2).mono ?_
  rintro e w3 ⟨r2, rfl, ho, hx⟩
  obtain ⟨sp, sc, rfl⟩ := own_shape ho
  have L2 := hid (And.intro (L1.out.1.trans hx) (And.intro (L1.out.2.2.ext hx) (Rd.own ho)))
  clear hx ho L1 cs
  cases hB : jB xs ys
  · clear law ci hB
    generalize jD xs ys = J at *
    go_wp2_with fail
    go_at_call 16
    refine (cr.out _ _ _ L2.out.2.1 L2.out.2.2).mono ?_
    rintro e w4 ⟨rfl, hx⟩
    have L3 := hid (L2.out.1.trans hx)
    clear hx L2 cr
    go_wp2
    go_ret
    exact ⟨rfl, L3.out⟩
  · obtain ⟨l1, l2⟩ := law.out hB
    have z := hid (SmC.ofBs l1)
    have l3 : IntKind.i64.wrap ((xs.length : Int) + (ys.length : Int)) = ((jD xs ys).length : Int) := by rw [IntWalk.i64_in _ (by omega), l2]; omega
    rw [l1] at ci
    clear law hB l1 l2
    generalize jD xs ys = J at *
    go_wp2_with fail
    go_at_call 16
    refine (cr.out _ _ _ L2.out.2.1 L2.out.2.2).mono ?_
    rintro e w4 ⟨rfl, hx⟩
    have L3 := hid (And.intro (L2.out.1.trans hx) (L2.out.2.1.ext hx))
    clear hx L2 cr
    go_wp2_with fail
    go_at_call 15
    refine (ci.out _ _ L3.out.2 z.out.len z.out.chars).mono ?_
    rintro e w5 ⟨rfl, hx⟩
    have L4 := hid (L3.out.1.trans hx)
    clear hx L3 ci
    go_wp2
    go_ret
    exact ⟨rfl, L4.out⟩
-- part 4
theorem csq_p4 {bs : List Int} (hb : Bts bs) {p : Option Addr} {cap : Nat} {w : World} (Hr : Hid (Rd w 1 (.slice p bs.length cap) bs.length (vBytes bs))) (hn : Hid (CsTail 37 p bs.length cap w)) : CsTail 32 p bs.length cap w := by
  intro a wc hx h1 h2 h3
  obtain ⟨u, rfl⟩ := frame218 a _ h1 h2 h3
  clear h1 h2 h3
  have HY := hid hx
  clear hx
  have dd := hid (fun w h => spec_DrawOnLink hb (v := .slice p bs.length cap) w h)
  clear hb
  unfold csTl CsPost
  conv => arg 2; whnf
  go_wp2_with fail
  go_at_call 21
  refine (dd.out _ (Hr.out.ext HY.out)).mono ?_
  rintro e w1 ⟨g, gc, xs, q, rfl, hA, hx⟩
  have L0 := hid (And.intro (HY.out.trans hx) hA)
  have ci := hid (fun W h => impl_OnLink xs g 0 (qc := gc) q W h hA.1.2.len hA.1.2.chars)
  have cs := hid (fun W h => spec_OnLink xs (.slice (some ⟨g, 0, none⟩) xs.length gc) q W h hA.1.2.len hA.1.2.chars)
  have hle := Nat.le_trans (selD_le xs (inB q 1 7) (fun x : Cap => x.n == q)) hA.1.2.len
  have cr := hid (fun v u W h k => laws_rCaptures (selD xs (inB q 1 7) (fun x : Cap => x.n == q)) v u W h k hle)
  generalize selD xs (inB q 1 7) (fun x : Cap => x.n == q) = D at *
  generalize (capB xs && inB q 1 7) = B at *
  clear hA hx HY dd hle
  go_wp2_with fail
  go_at_call 22
  refine (ci.out _ L0.out.2.2).mono ?_
  rintro e w2 ⟨r, rfl, ho, hx⟩
  obtain ⟨rp, rc, rfl⟩ := own_shape ho
  have L1 := hid (And.intro (L0.out.1.trans hx) (And.intro (L0.out.2.ext hx) (Rd.own ho)))
  clear hx ho L0 ci
  go_wp2_with fail
  go_at_call 23
  refine (cs.out _ L1.out.2.1.2).mono ?_
  rintro e w3 ⟨r2, rfl, ho, hx⟩
  obtain ⟨sp, sc, rfl⟩ := own_shape ho
  have L2 := hid (And.intro (L1.out.1.trans hx) (And.intro (L1.out.2.2.ext hx) (Rd.own ho)))
  clear hx ho L1 cs
  go_wp2_with fail
  go_at_call 16
  refine (cr.out _ _ _ L2.out.2.1 L2.out.2.2).mono ?_
  rintro e w4 ⟨rfl, hx⟩
  have L3 := hid (L2.out.1.trans hx)
  clear hx L2 cr
  go_upto_if 174 with fail
  go_cut [] from 3 (fun wc => Ext w wc)
  case first =>
    cases B
    all_goals
      go_wp2_with fail
      go_meet
      exact L3.out
  case rest =>
    go_step
    exact hn.out _ _ hcut rfl rfl rfl
-- part 2
theorem csq_p2 {bs : List Int} (hb : Bts bs) {p : Option Addr} {cap : Nat} {w : World} (Hv : Hid (Vrs w)) (Ht : Hid (Tab w)) (Hr : Hid (Rd w 1 (.slice p bs.length cap) bs.length (vBytes bs))) (hn : Hid (CsTail 16 p bs.length cap w)) : CsTail 11 p bs.length cap w := by
  intro a wc hx h1 h2 h3
  obtain ⟨u, rfl⟩ := frame218 a _ h1 h2 h3
  clear h1 h2 h3
  have HY := hid hx
  clear hx
  have dd := hid (fun w h => spec_DrawParseCapture hb (v := .slice p bs.length cap) w h)
  clear hb
  unfold csTl CsPost
  conv => arg 2; whnf
  go_wp2_with fail
  go_at_call 17
  refine (dd.out _ (Hr.out.ext HY.out)).mono ?_
  rintro e w1 ⟨s, rfl, hs, hx⟩
  have L0 := hid (HY.out.trans hx)
  have ci := hid (fun W hv ht => impl_ParseCapture s W hv ht (by omega))
  have cs := hid (fun W => spec_ParseCapture s W (by omega))
  have hle := pcL_le s
  have cr := hid (fun v u W h k => laws_rCaptures (pcL (PC s)) v u W h k (by omega))
  generalize pcL (PC s) = D at *
  generalize (PC s).isSome = B at *
  clear hx HY dd hle
  go_wp2_with fail
  go_at_call 7
  refine (ci.out _ (Hv.out.ext L0.out) (Ht.out.ext L0.out)).mono ?_
  rintro e w2 ⟨r, rfl, ho, hx⟩
  obtain ⟨rp, rc, rfl⟩ := own_shape ho
  have L1 := hid (And.intro (L0.out.trans hx) (Rd.own ho))
  clear hx ho L0 ci
  go_wp2_with fail
  go_at_call 6
  refine (cs.out _).mono ?_
  rintro e w3 ⟨r2, rfl, ho, hx⟩
  obtain ⟨sp, sc, rfl⟩ := own_shape ho
  have L2 := hid (And.intro (L1.out.1.trans hx) (And.intro (L1.out.2.ext hx) (Rd.own ho)))
  clear hx ho L1 cs
  go_wp2_with fail
  go_at_call 16
  refine (cr.out _ _ _ L2.out.2.1 L2.out.2.2).mono ?_
  rintro e w4 ⟨rfl, hx⟩
  have L3 := hid (L2.out.1.trans hx)
  clear hx L2 cr
  go_upto_if 101 with fail
  go_cut [] from 3 (fun wc => Ext w wc)
  case first =>
    cases B
    all_goals
      go_wp2_with fail
      go_meet
      exact L3.out
  case rest =>
    go_step
    exact hn.out _ _ hcut rfl rfl rfl
end Go.Proofs.YtljknhocfjpolaaGreatDoor
