/- slices.DeleteFunc at ints, whatever the function value. -/
import Derived.Test.YtlaochpkelbchaaGreatDoorKWIns
import Derived.Lib.SliceRun
namespace Go.Proofs.YtlaochpkelbchaaGreatDoor
open Go.RowKit
set_option maxHeartbeats 400000
set_option maxRecDepth 100000
theorem own_trunc {w : World} {base e n g cap i : Nat} {cs : List Value} (h : w.ownsRow base e 1 (.slice (some ⟨g, 0, none⟩) n cap) n cs) (hi : i ≤ n) : w.ownsRow base e 1 (.slice (some ⟨g, 0, none⟩) i cap) i (cs.take i) := by
  obtain ⟨h1, ⟨h2, -⟩ | ⟨g', c, cur, h2, hB, hh, hn', hc, hs, ht⟩⟩ := h
  · cases h2
  · cases h2
    refine ⟨by simp [h1]; omega, .inr ⟨g, cap, cur, rfl, hB, hh, by omega, hc, hs, ?_⟩⟩
    rw [← ht, List.take_take]; congr 1; omega
/-- The first that is hit, or -1. -/
def firstHit (p : Int → Bool) (xs : List Int) : Int := if xs.any p then (xs.findIdx p : Int) else -1
theorem firstHit_at {p : Int → Bool} {xs : List Int} {k : Nat} (hk : k < xs.length) (hall : ∀ i, i < k → p (xs.getD i 0) = false) (hx : p (xs.getD k 0) = true) : firstHit p xs = k := by
  unfold firstHit
  have ha : xs.any p = true := List.any_eq_true.2 ⟨_, mem_getD hk, hx⟩
  rw [if_pos ha]
  have : xs.findIdx p = k := by
    rw [List.findIdx_eq hk]
    constructor
    · rw [List.getD_eq_getElem?_getD, List.getElem?_eq_getElem hk] at hx; exact hx
    · intro j hj
      have := hall j hj
      rwa [List.getD_eq_getElem?_getD, List.getElem?_eq_getElem (by omega)] at this
  rw [this]
theorem firstHit_no {p : Int → Bool} {xs : List Int} (hall : ∀ i, i < xs.length → p (xs.getD i 0) = false) : firstHit p xs = -1 := by
  unfold firstHit
  have ha : ¬ xs.any p = true := by
    rw [List.any_eq_true]
    rintro ⟨x, hx, hp⟩
    obtain ⟨i, hi, rfl⟩ := List.mem_iff_getElem.1 hx
    have := hall i hi
    rw [List.getD_eq_getElem?_getD, List.getElem?_eq_getElem hi] at this
    rw [Option.getD_some, hp] at this
    cases this
  rw [if_neg ha]
theorem slices_IndexFunc_int (xs : List Int) (p : Int → Bool) (g : Nat) (lb : Array Value) (eg : ∀ args w, (callFunc g args).run Tryz.prog w = .ok (.enter g args) w) (v : Value) (w0 w : World) (h : Rd w 1 v xs.length (vInts xs)) (hx0 : Ext w0 w) (h2 : xs.length ≤ 1048576)
    (hF : ∀ x w', x ∈ xs → Ext w0 w' → Calls Tryz.prog g (#[.int .i64 x] ++ lb) w' fun e w'' => e = .returned (.bool (p x)) ∧ Ext w' w'') :
    Calls Tryz.prog 63 #[v, .func (.func g) #[] lb] w fun e w' => e = .returned (.int .i64 (firstHit p xs)) ∧ Ext w w' := by
  obtain ⟨h1, p', cap', rfl, h4⟩ := h
  have H4 := hid h4
  have HF := hid hF
  clear h1 h4 hF
  go_enter Tryz.func63, Tryz.ntmps63
  go_wp2
  go_loopw [8] (fun v8 wr => ∃ k : Nat, k ≤ xs.length ∧ v8 = .int .i64 k ∧ (∀ i, i < k → p (xs.getD i 0) = false) ∧ Ext w wr) (fun v8 _ => xs.length - (intOf v8).toNat)
  case atStart => exact ⟨0, Nat.zero_le _, rfl, fun _ h => absurd h (Nat.not_lt_zero _), Ext.refl _⟩
  case round =>
    obtain ⟨k, hk, rfl, hall, z, rfl⟩ := hrel
    by_cases hlt : k < xs.length
    · obtain ⟨b, off, rfl, h6⟩ := H4.out.resolve_left (by omega)
      have c0 := elem1 (Value.int .i64) 0 xs h6 k hlt
      have hxo := mem_getD (L := xs) hlt
      have next : p (xs.getD k 0) = false → ∀ i, i < k + 1 → p (xs.getD i 0) = false := fun h => upTo_succ hall h
      have bad : p (xs.getD k 0) = true → firstHit p xs = k := fun h => firstHit_at hlt hall h
      have hf := HF.out (xs.getD k 0) (w.ext z) hxo (hx0.trans ⟨z, rfl⟩)
      clear hall h6 hxo
      generalize xs.getD k 0 = x at c0 next bad hf
      have Next := hid next
      have Bad := hid bad
      clear next bad
      cases hx : p x
      · rw [hx] at hf
        have Hx := hid hx
        have Hf := hid hf
        clear hx hf
        go_wp2_with (go_at_fn g; refine (Hf.out).mono ?_; rintro e w' ⟨rfl, z1, rfl⟩)
        go_roundw
        case rel => exact ⟨k + 1, by omega, by go_num, Next.out Hx.out, (by repeat' (first | exact Ext.refl _ | assumption | refine Ext.alloc ?_ _ | refine Ext.ext ?_ _ | refine Ext.drew ?_ | refine Ext.drewN ?_ _))⟩
        case measure => simp [intOf]; omega
      · rw [hx] at hf
        have Hx := hid hx
        have Hf := hid hf
        clear hx hf
        go_wp2_with (go_at_fn g; refine (Hf.out).mono ?_; rintro e w' ⟨rfl, z1, rfl⟩)
        go_ret
        exact ⟨by rw [Bad.out Hx.out]; rfl, (by repeat' (first | exact Ext.refl _ | assumption | refine Ext.alloc ?_ _ | refine Ext.ext ?_ _ | refine Ext.drew ?_ | refine Ext.drewN ?_ _))⟩
    · have hf : firstHit p xs = -1 := firstHit_no (fun i hi => hall i (by omega))
      have Hf := hid hf
      clear hf hall
      go_wp2
      go_ret
      exact ⟨by rw [Hf.out]; rfl, (by repeat' (first | exact Ext.refl _ | assumption | refine Ext.alloc ?_ _ | refine Ext.ext ?_ _ | refine Ext.drew ?_ | refine Ext.drewN ?_ _))⟩
/-- What stands in the row while it is thinned out: i kept of the first j. -/
def Thin (p : Int → Bool) (xs : List Int) (j i : Nat) (L : List Value) : Prop :=
  L.length = xs.length ∧ i = ((xs.take j).filter (fun x => !p x)).length ∧ L.take i = vInts ((xs.take j).filter (fun x => !p x)) ∧ L.drop j = (vInts xs).drop j
theorem Thin.lt {p xs j i L} (h : Thin p xs j i L) : i ≤ j := by
  rw [h.2.1]; exact Nat.le_trans (List.length_filter_le _ _) (by simp; omega)
theorem Thin.at_ {p xs j i L} (h : Thin p xs j i L) (hj : j < xs.length) : L[j]? = some (.int .i64 (xs.getD j 0)) := by
  have := congrArg (fun l => l[0]?) h.2.2.2
  simp only [List.getElem?_drop, Nat.add_zero] at this
  rw [this, vInts_get xs j hj]
theorem Thin.start {p xs k} (hk : k < xs.length) (hall : ∀ i, i < k → p (xs.getD i 0) = false) (hx : p (xs.getD k 0) = true) : Thin p xs (k + 1) k (vInts xs) := by
  have e1 : (xs.take k).filter (fun x => !p x) = xs.take k := by
    rw [List.filter_eq_self]
    intro x hxm
    obtain ⟨i, hi, rfl⟩ := List.mem_iff_getElem.1 hxm
    rw [List.length_take] at hi
    have := hall i (by omega)
    rw [List.getD_eq_getElem?_getD, List.getElem?_eq_getElem (by omega)] at this
    rw [List.getElem_take]
    simpa using this
  have e2 : (xs.take (k + 1)).filter (fun x => !p x) = xs.take k := by
    rw [take_snoc xs 0 k hk, List.filter_append, e1]
    simp only [List.filter_cons, hx]
    simp
  refine ⟨by simp [vInts], ?_, ?_, rfl⟩
  · rw [e2]; simp; omega
  · rw [e2]; simp [vInts, List.map_take]
theorem Thin.skip {p xs j i L} (h : Thin p xs j i L) (hj : j < xs.length) (hx : p (xs.getD j 0) = true) : Thin p xs (j + 1) i L := by
  have e : (xs.take (j + 1)).filter (fun x => !p x) = (xs.take j).filter (fun x => !p x) := by
    rw [take_snoc xs 0 j hj, List.filter_append]
    simp only [List.filter_cons, hx]
    simp
  refine ⟨h.1, by rw [e]; exact h.2.1, by rw [e]; exact h.2.2.1, ?_⟩
  have := congrArg (List.drop 1) h.2.2.2
  simpa [List.drop_drop] using this
theorem Thin.keep {p xs j i L} (h : Thin p xs j i L) (hj : j < xs.length) (hx : p (xs.getD j 0) = false) : Thin p xs (j + 1) (i + 1) (L.set i (.int .i64 (xs.getD j 0))) := by
  have e : (xs.take (j + 1)).filter (fun x => !p x) = (xs.take j).filter (fun x => !p x) ++ [xs.getD j 0] := by
    rw [take_snoc xs 0 j hj, List.filter_append]
    simp only [List.filter_cons, hx]
    simp
  have hlt := h.lt
  refine ⟨by rw [List.length_set]; exact h.1, by rw [e, List.length_append, ← h.2.1]; rfl, ?_, ?_⟩
  · rw [e, List.take_succ_eq_append_getElem (by rw [List.length_set, h.1]; omega), List.take_set, List.getElem_set_self, List.set_eq_of_length_le (by simp; omega), h.2.2.1]
    simp [vInts]
  · rw [List.drop_set_of_lt (by omega)]
    have := congrArg (List.drop 1) h.2.2.2
    simpa [List.drop_drop] using this
theorem Thin.done {p xs i L} (h : Thin p xs xs.length i L) : L.take i = vInts (xs.filter (fun x => !p x)) ∧ i = (xs.filter (fun x => !p x)).length := by
  have := h.2
  rw [List.take_length] at this
  exact ⟨this.2.1, this.1⟩
theorem slices_DeleteFunc_int (xs : List Int) (p : Int → Bool) (g : Nat) (lb : Array Value) (eg : ∀ args w, (callFunc g args).run Tryz.prog w = .ok (.enter g args) w) (v : Value) (w0 w : World) (ho : w.ownsRow w0.heap.size 3 1 v xs.length (vInts xs)) (hx0 : Ext w0 w) (h2 : xs.length ≤ 1048576)
    (hF : ∀ x w', x ∈ xs → Ext w0 w' → Calls Tryz.prog g (#[.int .i64 x] ++ lb) w' fun e w'' => e = .returned (.bool (p x)) ∧ Ext w' w'') :
    Calls Tryz.prog 31 #[v, .func (.func g) #[] lb] w fun e w' => ∃ r, e = .returned r ∧ w'.ownsRow w0.heap.size 3 1 r (xs.filter (fun x => !p x)).length (vInts (xs.filter (fun x => !p x))) ∧ Ext w0 w' := by
  have hI := slices_IndexFunc_int xs p g lb eg v w0 w (Rd.own ho) hx0 h2 hF
  by_cases hany : ∃ k, k < xs.length ∧ (∀ i, i < k → p (xs.getD i 0) = false) ∧ p (xs.getD k 0) = true
  · obtain ⟨k, hk, hall, hx⟩ := hany
    rw [firstHit_at hk hall hx] at hI
    obtain ⟨b, cap, rfl⟩ := own_form ho (by omega)
    obtain ⟨hnc, hcm, -⟩ := own_full ho
    have hth := Thin.start (p := p) hk hall hx
    have Hth := hid hth
    have HI := hid hI
    have HF := hid hF
    have Ho := hid ho
    have hml : maxLen = 9223372036854775807 := rfl
    have hne1 : ((k : Int) == -1) = false := by rw [beq_eq_false_iff_ne]; omega
    rw [hml] at hcm
    have hz0 : ∀ w, (zeroValue 3).run Tryz.prog w = .ok (.int .i64 0) w := fun w => by kernel_rfl
    clear hth hI hF ho hall hx hml
    go_enter Tryz.func31, Tryz.ntmps31
    go_wp2_with fail
    go_at_call 63
    refine (HI.out).mono ?_
    rintro e w1 ⟨rfl, hx1⟩
    have Hx1 := hid hx1
    clear hx1
    go_wp2
    go_loopw [5, 6] (fun v5 v6 wr => ∃ (i j : Nat) (L : List Value), v5 = .int .i64 i ∧ v6 = .int .i64 j ∧ j ≤ xs.length ∧ i < j ∧ Hid (Thin p xs j i L) ∧ wr.ownsRow w0.heap.size 3 1 (.slice (some ⟨b, 0, none⟩) xs.length cap) xs.length L ∧ Ext w0 wr) (fun _ v6 _ => xs.length - (intOf v6).toNat)
    case atStart => exact ⟨k, k + 1, _, rfl, by go_num, by omega, by omega, Hth, own_ext Ho.out Hx1.out, hx0.trans Hx1.out⟩
    case round =>
      obtain ⟨i, j, L, rfl, rfl, hj, hij, hT, hown, hx⟩ := hrel
      by_cases hlt : j < xs.length
      · have c0 := (hown.cellAt j (by omega)).trans (hT.out.at_ hlt)
        obtain ⟨⟨u, c1⟩, f1⟩ := own_cell hown i (by omega)
        have hf := HF.out (xs.getD j 0) wr (mem_getD hlt) hx
        have hsk := hT.out.skip hlt
        have hkp := hT.out.keep hlt
        generalize xs.getD j 0 = x at c0 hf hsk hkp
        have Ho1 := hid hown
        have Hx := hid hx
        have Hsk := hid hsk
        have Hkp := hid hkp
        have hbl := (own_size hown)
        clear hown hx hsk hkp
        cases hp : p x
        · rw [hp] at hf
          have Hp := hid hp
          have Hf := hid hf
          clear hp hf
          go_wp2_with (go_at_fn g; refine (Hf.out).mono ?_; rintro e w' ⟨rfl, z1, rfl⟩)
          go_roundw
          case rel =>
            have hst := World.ownsRow.stored (own_ext Ho1.out (show Ext wr (wr.ext z1) from ⟨z1, rfl⟩)) i (.int .i64 x)
            exact ⟨i + 1, j + 1, _, by go_num, by go_num, by omega, by omega, hid (Hkp.out Hp.out), hst.1, Ext.setCell (Hx.out.trans ⟨z1, rfl⟩) hbl.1 _⟩
          case measure => simp [intOf]; omega
        · rw [hp] at hf
          have Hp := hid hp
          have Hf := hid hf
          clear hp hf
          go_wp2_with (go_at_fn g; refine (Hf.out).mono ?_; rintro e w' ⟨rfl, z1, rfl⟩)
          go_roundw
          case rel => exact ⟨i, j + 1, L, rfl, by go_num, by omega, by omega, hid (Hsk.out Hp.out), own_ext Ho1.out ⟨z1, rfl⟩, Hx.out.trans ⟨z1, rfl⟩⟩
          case measure => simp [intOf]; omega
      · obtain rfl : j = xs.length := by omega
        have hil : i ≤ xs.length := by omega
        have hLl := hown.1
        have hcl : ∀ ty, (Builtin.clear_ #[24] ty #[.slice (some ⟨b, i, none⟩) (xs.length - i) (cap - i)]).run Tryz.prog wr = .ok (.tuple #[]) (wr.setCells b i (List.replicate (xs.length - i) (.int .i64 0))) :=
          fun ty => Lib.run_clear_slice wr _ _ ty _ Tryz.underlying24 hz0 rfl rfl b i _ _ (by omega) (fun t ht => by rw [hown.cellAt (i + t) (by omega), List.getElem?_eq_getElem (by rw [hLl]; omega)]; rfl) (fun t ht => hown.frozenAt _)
        have hput := own_put (o := i) (vs := List.replicate (xs.length - i) (Value.int .i64 0)) hown (by simp [hLl]; omega)
        have hbl := (own_size hown)
        have hc1 : ¬ cap = i := by omega
        have hc2 : ¬ cap = 0 := by omega
        have hd := hT.out.done
        have K := hid (And.intro hput (And.intro hx (And.intro hd hLl)))
        clear hput hx hown hd hLl
        go_wp2
        go_ret
        obtain ⟨⟨ho3, hg3⟩, hx3, ⟨hd1, hd2⟩, hLl⟩ := K.out
        refine ⟨_, rfl, ?_, Ext.grown hx3 hg3 (fun j hj => by cases hj; exact hbl.1)⟩
        have := own_trunc ho3 hil
        rw [List.append_assoc, List.take_append_of_le_length (by simp [hLl]; omega), List.take_take, Nat.min_self, hd1] at this
        rw [← hd2]
        exact this
  · have hall : ∀ i, i < xs.length → p (xs.getD i 0) = false := by
      intro i
      induction i using Nat.strongRecOn with
      | _ i ih =>
        intro hi
        cases hp : p (xs.getD i 0)
        · rfl
        · exact absurd ⟨i, hi, fun j hj => ih j hj (by omega), hp⟩ hany
    rw [firstHit_no hall] at hI
    have hfl : xs.filter (fun x => !p x) = xs := by
      rw [List.filter_eq_self]
      intro x hxm
      obtain ⟨i, hi, rfl⟩ := List.mem_iff_getElem.1 hxm
      have := hall i hi
      rw [List.getD_eq_getElem?_getD, List.getElem?_eq_getElem hi] at this
      simpa using this
    rw [hfl]
    have HI := hid hI
    have Ho := hid ho
    clear hany hall hI hfl ho hF
    go_enter Tryz.func31, Tryz.ntmps31
    go_wp2_with fail
    go_at_call 63
    refine (HI.out).mono ?_
    rintro e w1 ⟨rfl, hx1⟩
    have Hx1 := hid hx1
    clear hx1
    go_wp2
    go_ret
    exact ⟨_, rfl, own_ext Ho.out Hx1.out, hx0.trans Hx1.out⟩
end Go.Proofs.YtlaochpkelbchaaGreatDoor
