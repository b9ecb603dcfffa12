/- slices.DeleteFunc at ints: nothing but its row turns. -/
import Derived.Test.YtmblofcaiaeiaaaGreatDoorKWDel
namespace Go.Proofs.YtmblofcaiaeiaaaGreatDoor
open Go.RowKit
set_option maxHeartbeats 400000
set_option maxRecDepth 100000
theorem slices_DeleteFunc_in (xs : List Int) (p : Int → Bool) (g : Nat) (lb : Array Value) (eg : ∀ args w, (callFunc g args).run Tryz.prog w = .ok (.enter g args) w) (v : Value) (B : Nat) (w : World) (ho : w.ownsRow B 3 1 v xs.length (vInts xs)) (h2 : xs.length ≤ 1048576)
    (hF : ∀ x w', x ∈ xs → w.grownBy w' v.ownBlock → Calls Tryz.prog g (#[.int .i64 x] ++ lb) w' fun e w'' => e = .returned (.bool (p x)) ∧ Ext w' w'') :
    Calls Tryz.prog 40 #[v, .func (.func g) #[] lb] w fun e w' => ∃ r, e = .returned r ∧ w'.ownsRow B 3 1 r (xs.filter (fun x => !p x)).length (vInts (xs.filter (fun x => !p x))) ∧ w.grownBy w' v.ownBlock ∧ (∀ j, r.ownBlock = some j → v.ownBlock = some j) := by
  have hI := slices_IndexFunc_int xs p g lb eg v w w (Rd.own ho) (Ext.refl w) h2 (fun x w' hx he => hF x w' hx (he.grownBy _))
  by_cases hany : ∃ k, k < xs.length ∧ (∀ i, i < k → p (xs.getD i 0) = false) ∧ p (xs.getD k 0) = true
  · obtain ⟨k, hk, hall, hx⟩ := hany
    rw [firstHit_at hk hall hx] at hI
    obtain ⟨b, cap, rfl⟩ := own_form ho (by omega)
    obtain ⟨hnc, hcm, -⟩ := own_full ho
    have hth := Thin.start (p := p) hk hall hx
    have Hth := hid hth
    have HI := hid hI
    have HF := hid hF
    have Ho := hid ho
    have hml : maxLen = 9223372036854775807 := rfl
    have hne1 : ((k : Int) == -1) = false := by rw [beq_eq_false_iff_ne]; omega
    rw [hml] at hcm
    have hz0 : ∀ w, (zeroValue 3).run Tryz.prog w = .ok (.int .i64 0) w := fun w => by kernel_rfl
    clear hth hI hF ho hall hx hml
    go_enter Tryz.func40, Tryz.ntmps40
    go_wp2_with fail
    go_at_call 70
    refine (HI.out).mono ?_
    rintro e w1 ⟨rfl, hx1⟩
    have Hx1 := hid hx1
    clear hx1
    go_wp2
    go_loopw [5, 6] (fun v5 v6 wr => ∃ (i j : Nat) (L : List Value), v5 = .int .i64 i ∧ v6 = .int .i64 j ∧ j ≤ xs.length ∧ i < j ∧ Hid (Thin p xs j i L) ∧ wr.ownsRow B 3 1 (.slice (some ⟨b, 0, none⟩) xs.length cap) xs.length L ∧ w.grownBy wr (some b)) (fun _ v6 _ => xs.length - (intOf v6).toNat)
    case atStart => exact ⟨k, k + 1, _, rfl, by go_num, by omega, by omega, Hth, own_ext Ho.out Hx1.out, Hx1.out.grownBy _⟩
    case round =>
      obtain ⟨i, j, L, rfl, rfl, hj, hij, hT, hown, hx⟩ := hrel
      by_cases hlt : j < xs.length
      · have c0 := (hown.cellAt j (by omega)).trans (hT.out.at_ hlt)
        obtain ⟨⟨u, c1⟩, f1⟩ := own_cell hown i (by omega)
        have hf := HF.out (xs.getD j 0) wr (mem_getD hlt) hx
        have hsk := hT.out.skip hlt
        have hkp := hT.out.keep hlt
        generalize xs.getD j 0 = x at c0 hf hsk hkp
        have Ho1 := hid hown
        have Hx := hid hx
        have Hsk := hid hsk
        have Hkp := hid hkp
        have hbl := (own_size hown)
        clear hown hx hsk hkp
        cases hp : p x
        · rw [hp] at hf
          have Hp := hid hp
          have Hf := hid hf
          clear hp hf
          go_wp2_with (go_at_fn g; refine (Hf.out).mono ?_; rintro e w' ⟨rfl, z1, rfl⟩)
          go_roundw
          case rel =>
            have hst := World.ownsRow.stored (own_ext Ho1.out (show Ext wr (wr.ext z1) from ⟨z1, rfl⟩)) i (.int .i64 x)
            exact ⟨i + 1, j + 1, _, by go_num, by go_num, by omega, by omega, hid (Hkp.out Hp.out), hst.1, grownBy_trans (grownBy_trans Hx.out (Ext.grownBy (show Ext wr (wr.ext z1) from ⟨z1, rfl⟩) _)) hst.2⟩
          case measure => simp [intOf]; omega
        · rw [hp] at hf
          have Hp := hid hp
          have Hf := hid hf
          clear hp hf
          go_wp2_with (go_at_fn g; refine (Hf.out).mono ?_; rintro e w' ⟨rfl, z1, rfl⟩)
          go_roundw
          case rel => exact ⟨i, j + 1, L, rfl, by go_num, by omega, by omega, hid (Hsk.out Hp.out), own_ext Ho1.out ⟨z1, rfl⟩, grownBy_trans Hx.out (Ext.grownBy (show Ext wr (wr.ext z1) from ⟨z1, rfl⟩) _)⟩
          case measure => simp [intOf]; omega
      · obtain rfl : j = xs.length := by omega
        have hil : i ≤ xs.length := by omega
        have hLl := hown.1
        have hcl : ∀ ty, (Builtin.clear_ #[37] ty #[.slice (some ⟨b, i, none⟩) (xs.length - i) (cap - i)]).run Tryz.prog wr = .ok (.tuple #[]) (wr.setCells b i (List.replicate (xs.length - i) (.int .i64 0))) :=
          fun ty => Lib.run_clear_slice wr _ _ ty _ Tryz.underlying37 hz0 rfl rfl b i _ _ (by omega) (fun t ht => by rw [hown.cellAt (i + t) (by omega), List.getElem?_eq_getElem (by rw [hLl]; omega)]; rfl) (fun t ht => hown.frozenAt _)
        have hput := own_put (o := i) (vs := List.replicate (xs.length - i) (Value.int .i64 0)) hown (by simp [hLl]; omega)
        have hbl := (own_size hown)
        have hc1 : ¬ cap = i := by omega
        have hc2 : ¬ cap = 0 := by omega
        have hd := hT.out.done
        have K := hid (And.intro hput (And.intro hx (And.intro hd hLl)))
        clear hput hx hown hd hLl
        go_wp2
        go_ret
        obtain ⟨⟨ho3, hg3⟩, hx3, ⟨hd1, hd2⟩, hLl⟩ := K.out
        refine ⟨_, rfl, ?_, grownBy_trans hx3 hg3, fun j hj => hj⟩
        have := own_trunc ho3 hil
        rw [List.append_assoc, List.take_append_of_le_length (by simp [hLl]; omega), List.take_take, Nat.min_self, hd1] at this
        rw [← hd2]
        exact this
  · have hall : ∀ i, i < xs.length → p (xs.getD i 0) = false := by
      intro i
      induction i using Nat.strongRecOn with
      | _ i ih =>
        intro hi
        cases hp : p (xs.getD i 0)
        · rfl
        · exact absurd ⟨i, hi, fun j hj => ih j hj (by omega), hp⟩ hany
    rw [firstHit_no hall] at hI
    have hfl : xs.filter (fun x => !p x) = xs := by
      rw [List.filter_eq_self]
      intro x hxm
      obtain ⟨i, hi, rfl⟩ := List.mem_iff_getElem.1 hxm
      have := hall i hi
      rw [List.getD_eq_getElem?_getD, List.getElem?_eq_getElem hi] at this
      simpa using this
    rw [hfl]
    have HI := hid hI
    have Ho := hid ho
    clear hany hall hI hfl ho hF
    go_enter Tryz.func40, Tryz.ntmps40
    go_wp2_with fail
    go_at_call 70
    refine (HI.out).mono ?_
    rintro e w1 ⟨rfl, hx1⟩
    have Hx1 := hid hx1
    clear hx1
    go_wp2
    go_ret
    exact ⟨_, rfl, own_ext Ho.out Hx1.out, Hx1.out.grownBy _, fun j hj => hj⟩
end Go.Proofs.YtmblofcaiaeiaaaGreatDoor
