/- The reference's put. -/
import Derived.Test.YtljknhocfjpolaaGreatDoorKWPut
namespace Go.Proofs.YtljknhocfjpolaaGreatDoor
open Go.RowKit
set_option maxHeartbeats 400000
set_option maxRecDepth 100000
theorem asc_lt {L : List Int} (h : asc L) {i j : Nat} (hij : i < j) (hj : j < L.length) : L.getD i 0 < L.getD j 0 := by
  rw [List.getD_eq_getElem?_getD, List.getD_eq_getElem?_getD, List.getElem?_eq_getElem (by omega), List.getElem?_eq_getElem hj]
  exact (List.pairwise_iff_getElem.1 h) i j (by omega) hj hij
theorem pos_count {L : List Int} (h : asc L) {x : Int} {k : Nat} (hk : k ≤ L.length) (hlo : ∀ i, i < k → L.getD i 0 < x) (hhi : k < L.length → x ≤ L.getD k 0) : L.countP (fun y => decide (y < x)) = k := by
  have e : L = L.take k ++ L.drop k := (List.take_append_drop k L).symm
  rw [e, List.countP_append]
  have h1 : (L.take k).countP (fun y => decide (y < x)) = k := by
    rw [List.countP_eq_length.2, List.length_take, Nat.min_eq_left hk]
    intro y hy
    obtain ⟨i, hi, rfl⟩ := List.mem_iff_getElem.1 hy
    rw [List.length_take] at hi
    have := hlo i (by omega)
    rw [List.getElem_take]
    rw [List.getD_eq_getElem?_getD, List.getElem?_eq_getElem (by omega)] at this
    simpa using this
  have h2 : (L.drop k).countP (fun y => decide (y < x)) = 0 := by
    rw [List.countP_eq_zero]
    intro y hy
    obtain ⟨i, hi, rfl⟩ := List.mem_iff_getElem.1 hy
    rw [List.length_drop] at hi
    rw [List.getElem_drop]
    have h3 := hhi (by omega)
    have h4 : L[k + i] = L.getD (k + i) 0 := by rw [List.getD_eq_getElem?_getD, List.getElem?_eq_getElem (by omega)]; rfl
    rw [h4]
    by_cases hi0 : i = 0
    · subst hi0; intro hd; have := of_decide_eq_true hd; rw [Nat.add_zero] at this; omega
    · have := asc_lt h (show k < k + i by omega) (by omega)
      intro hd; have := of_decide_eq_true hd; omega
  rw [h1, h2]
  rfl
theorem pos_no {L : List Int} (h : asc L) {x : Int} {k : Nat} (hlo : ∀ i, i < k → L.getD i 0 < x) (hhi : k < L.length → x < L.getD k 0) : L.contains x = false := by
  rw [← Bool.not_eq_true, List.contains_iff_mem]
  intro hm
  obtain ⟨i, hi, e⟩ := List.mem_iff_getElem.1 hm
  have h4 : L[i] = L.getD i 0 := by rw [List.getD_eq_getElem?_getD, List.getElem?_eq_getElem hi]; rfl
  rw [h4] at e
  by_cases h1 : i < k
  · have := hlo i h1; omega
  · have := hhi (by omega)
    by_cases h2 : i = k
    · subst h2; omega
    · have := asc_lt h (show k < i by omega) hi; omega
theorem run_upto (a : Option Addr) (n k cap : Nat) (h : k ≤ cap) : ∀ w, (Instr.slice 41 (.slice a n cap) none (some (.int .i64 k)) none).run Tryz.prog w = .ok (.slice a k cap) w := fun w => by
  rw [run_slice_h (P := Tryz.prog) w 41 a n cap (by kernel_rfl) .i64 k (by omega) (by omega)]
  have e : (Go.sizeOf (Tryz.prog.elem 41)).run Tryz.prog w = .ok 1 w := by kernel_rfl
  rw [e]
  show Result.ok _ _ = _
  congr 1
  simp only [sliced, Int.toNat_natCast, Nat.sub_zero, Nat.zero_mul]
  cases a with
  | none => simp
  | some a => simp [Addr.add]
theorem run_from (a : Option Addr) (n k cap : Nat) (h : k ≤ n) : ∀ w, (Instr.slice 41 (.slice a n cap) (some (.int .i64 k)) none none).run Tryz.prog w = .ok (slc a k n cap) w := fun w => by
  rw [run_slice_l (P := Tryz.prog) w 41 a n cap (by kernel_rfl) .i64 k (by omega) (by omega)]
  have e : (Go.sizeOf (Tryz.prog.elem 41)).run Tryz.prog w = .ok 1 w := by kernel_rfl
  rw [e]
  rfl
theorem run_uptoAt (a : Option Addr) (n k cap : Nat) (h : k ≤ cap) : ∀ w, (Instr.sliceAt 41 (.slice a n cap) none (some (.int .i64 k)) none).run Tryz.prog w = .ok (.slice a k cap) w := fun w => by
  rw [run_sliceAt_slice (P := Tryz.prog) w 41 _ _ _ _ (by kernel_rfl)]
  exact run_upto a n k cap h w
theorem run_fromAt (a : Option Addr) (n k cap : Nat) (h : k ≤ n) : ∀ w, (Instr.sliceAt 41 (.slice a n cap) (some (.int .i64 k)) none none).run Tryz.prog w = .ok (slc a k n cap) w := fun w => by
  rw [run_sliceAt_slice (P := Tryz.prog) w 41 _ _ _ _ (by kernel_rfl)]
  exact run_from a n k cap h w
theorem rd_take {w : World} {p : Option Addr} {n cap : Nat} {cs : List Value} (h : Rd w 1 (.slice p n cap) n cs) (k : Nat) (hk : k ≤ n) : Rd w 1 (.slice p k cap) k (cs.take k) := by
  obtain ⟨h1, p', c, e, h4⟩ := h
  cases e
  refine ⟨by simp; omega, p, cap, rfl, ?_⟩
  rcases h4 with h4 | ⟨b, off, rfl, h6⟩
  · exact .inl (by omega)
  · refine .inr ⟨b, off, rfl, fun j hj => ?_⟩
    have : j < cs.length := by simp at hj; omega
    rw [h6 j this, List.getElem_take]
theorem rd_drop {w : World} {p : Option Addr} {n cap : Nat} {cs : List Value} (h : Rd w 1 (.slice p n cap) n cs) (hc : n ≤ cap) (k : Nat) (hk : k ≤ n) : Rd w 1 (slc p k n cap) (n - k) (cs.drop k) := by
  obtain ⟨h1, p', c, e, h4⟩ := h
  cases e
  refine ⟨by simp; omega, _, _, rfl, ?_⟩
  by_cases h0 : n - k = 0
  · exact .inl h0
  · obtain ⟨b, off, rfl, h6⟩ := h4.resolve_left (by omega)
    rw [if_neg (by omega)]
    refine .inr ⟨b, off + k, by simp [Addr.add_lit], fun j hj => ?_⟩
    have hj' : k + j < cs.length := by simp at hj; omega
    rw [Nat.add_assoc, h6 (k + j) hj', List.getElem_drop]
theorem one_sub {L : List Int} {M : List Value} (h : ∀ u ∈ M, u ∈ vInts L) : ∀ u ∈ M, u.oneCell' = true := fun u hu => one_ints L u (h u hu)
theorem rd_grown {w w' : World} {k n b off cap : Nat} {cs : List Value} {row : Option Nat} (h : Rd w k (.slice (some ⟨b, off, none⟩) n cap) n cs) (hg : w.grownBy w' row) (hr : some b = row → False) : Rd w' k (.slice (some ⟨b, off, none⟩) n cap) n cs := by
  obtain ⟨h1, p, c, e, h4⟩ := h
  cases e
  refine ⟨h1, _, _, rfl, ?_⟩
  rcases h4 with h4 | ⟨b', off', e, h6⟩
  · exact .inl h4
  · cases e
    exact .inr ⟨b, off, rfl, fun j hj => hg.cell (h6 j hj) hr⟩
theorem spec_l1Put (L : List Int) (v : Value) (x : Int) (B : Nat) (w : World) (ho : w.ownsRow B 3 1 v L.length (vInts L)) (ha : asc L) (hB : B ≤ w.heap.size) (h2 : L.length ≤ 1048576) :
    Calls Tryz.prog 72 #[v, .int .i64 x] w fun e w' => ∃ r, e = .returned r ∧ w'.ownsRow B 3 1 r (put L x).length (vInts (put L x)) ∧ Ext w w' := by
  have Ha := hid ha
  have Hr := hid (Rd.own ho)
  have hcap : ∀ p n c, v = .slice p n c → n ≤ c := by
    intro p n c e
    obtain ⟨-, ⟨e2, h0⟩ | ⟨g, cap, cur, e2, -, -, hn, -⟩⟩ := ho
    · rw [e2] at e; cases e; exact Nat.le_refl _
    · rw [e2] at e; cases e; exact hn
  have Hcap := hid hcap
  have Ho := hid ho
  obtain ⟨p, cap, rfl⟩ := own_shape ho
  have hc := hcap p L.length cap rfl
  obtain ⟨i0, hi, hz0, hz1, hz2⟩ := info_parts infoInt
  clear ho ha hcap
  go_enter Tryz.func72, Tryz.ntmps72
  go_wp2
  go_loopw [5] (fun v5 wr => ∃ k : Nat, k ≤ L.length ∧ v5 = .int .i64 k ∧ (∀ i, i < k → L.getD i 0 < x) ∧ Ext w wr) (fun v5 _ => L.length - (intOf v5).toNat)
  case atStart => exact ⟨0, Nat.zero_le _, rfl, fun i h => absurd h (Nat.not_lt_zero _), Ext.refl _⟩
  case round =>
    obtain ⟨k, hk, rfl, hall, z, rfl⟩ := hrel
    by_cases hlt : k < L.length
    · obtain ⟨-, p', c', e, h4⟩ := Hr.out
      cases e
      obtain ⟨b, off, rfl, h6⟩ := h4.resolve_left (by omega)
      have c0 := elem1 (Value.int .i64) 0 L h6 k hlt
      have next : L.getD k 0 < x → ∀ i, i < k + 1 → L.getD i 0 < x := fun h => upTo_succ hall h
      have hin : L.getD k 0 = x → put L x = L := fun e => put_in Ha.out (by rw [← e]; exact mem_getD hlt)
      have hno : x < L.getD k 0 → put L x = L.take k ++ x :: L.drop k := fun h => by
        have := put_out Ha.out (pos_no Ha.out hall (fun _ => h))
        rwa [pos_count Ha.out hk hall (fun _ => by omega)] at this
      clear h4 h6 hall
      generalize L.getD k 0 = y at c0 next hin hno
      have Next := hid next
      have Hin := hid hin
      have Hno := hid hno
      clear next hin hno
      by_cases hy : y < x
      · have Hy := hid hy
        have t0 : decide (y < x) = true := by simpa using hy
        clear hy
        go_wp2
        go_roundw
        case rel => exact ⟨k + 1, by omega, by go_num, Next.out Hy.out, (by repeat' (first | exact Ext.refl _ | assumption | refine Ext.alloc ?_ _ | refine Ext.ext ?_ _ | refine Ext.drew ?_ | refine Ext.drewN ?_ _))⟩
        case measure => simp [intOf]; omega
      · have t0 : decide (y < x) = false := by simpa using hy
        by_cases he : y = x
        · have t1 : (y == x) = true := by simpa using he
          have He := hid he
          clear he hy
          go_wp2
          go_ret
          refine ⟨_, rfl, ?_, (by repeat' (first | exact Ext.refl _ | assumption | refine Ext.alloc ?_ _ | refine Ext.ext ?_ _ | refine Ext.drew ?_ | refine Ext.drewN ?_ _))⟩
          rw [Hin.out He.out]
          exact own_ext Ho.out (by repeat' (first | exact Ext.refl _ | assumption | refine Ext.alloc ?_ _ | refine Ext.ext ?_ _ | refine Ext.drew ?_ | refine Ext.drewN ?_ _))
        · have t1 : (y == x) = false := by simpa using he
          have hp := Hno.out (by omega)
          have Hp := hid hp
          clear he hy hp
          go_wp2
          generalize hp' : some (⟨b, off, none⟩ : Addr) = p at *
          clear hp'
          have XW : Ext w (w.ext z) := ⟨z, rfl⟩
          generalize w.ext z = W at *
          have hl1 : (W.alloc (.cells #[] 3)).ownsRow w.heap.size 3 1 (.slice (some ⟨W.heap.size, 0, none⟩) 0 0) 0 [] := World.ownsRow_lit W #[] 0 XW.size (Nat.zero_le _) rfl
          have hl1' : ((W.alloc (.cells #[.int .i64 x] 3)).alloc (.cells #[] 3)).ownsRow w.heap.size 3 1 (.slice (some ⟨W.heap.size + 1, 0, none⟩) 0 0) 0 [] := by simpa using World.ownsRow_lit (base := w.heap.size) (e := 3) (size := 1) (W.alloc (.cells #[.int .i64 x] 3)) #[] 0 (by have := XW.size; simp; omega) (Nat.zero_le _) rfl
          have litB : Rd ((W.alloc (.cells #[] 3)).alloc (.cells #[.int .i64 x] 3)) 1 (.slice (some ⟨W.heap.size + 1, 0, none⟩) 1 1) 1 [.int .i64 x] := by simpa using rd_lit (W.alloc (.cells #[] 3)) #[.int .i64 x]
          have litC : Rd ((W.alloc (.cells #[.int .i64 x] 3)).alloc (.cells #[] 3)) 1 (.slice (some ⟨W.heap.size, 0, none⟩) 1 1) 1 [.int .i64 x] := (rd_lit W #[.int .i64 x]).ext (by repeat' (first | exact Ext.refl _ | assumption | refine Ext.alloc ?_ _ | refine Ext.ext ?_ _ | refine Ext.drew ?_ | refine Ext.drewN ?_ _))
          have r1 := run_upto p L.length k cap (by omega)
          have r2 := run_from p L.length k cap hk
          have r3 := run_uptoAt p L.length k cap (by omega)
          have r4 := run_fromAt p L.length k cap hk
          go_region_held3 (fun _ => True) (first | trivial)
            (first
              | (refine step_append_rd _ (by rfl) (.tmp 33) (.tmp 36) 41 (by rfl) w.heap.size 3 i0 (.int .i64 0) 1 8 Tryz.underlying41 hi hz0 hz1 hz2 (by rfl) (by decide) _ (0) ([]) (by rfl) ?_ _ (k) ((vInts L).take k) (by rfl) ?_ ?_ (by unfold maxLen; omega) (by omega) ?_ ?_; (exact own_ext hl1 (show Ext _ (W.alloc (.cells #[] 3)).drew from (by repeat' (first | exact Ext.refl _ | assumption | refine Ext.alloc ?_ _ | refine Ext.ext ?_ _ | refine Ext.drew ?_ | refine Ext.drewN ?_ _)))); (exact (rd_take Hr.out k hk).ext (XW.trans (by repeat' (first | exact Ext.refl _ | assumption | refine Ext.alloc ?_ _ | refine Ext.ext ?_ _ | refine Ext.drew ?_ | refine Ext.drewN ?_ _)))); (exact one_sub (L := L) (fun u hu => List.mem_of_mem_take hu)); (have := XW.size; simp; omega); intro v1 w1 ho1 hg1; have X1 := Ext.grown (XW.trans (by repeat' (first | exact Ext.refl _ | assumption | refine Ext.alloc ?_ _ | refine Ext.ext ?_ _ | refine Ext.drew ?_ | refine Ext.drewN ?_ _))) hg1 (fun j hj => (own_row (hl1) j hj).1); have lit2 := rd_lit w1 #[.int .i64 x])
              | (refine step_append_rd _ (by rfl) (.tmp 33) (.tmp 36) 41 (by rfl) w.heap.size 3 i0 (.int .i64 0) 1 8 Tryz.underlying41 hi hz0 hz1 hz2 (by rfl) (by decide) _ (0) ([]) (by rfl) ?_ _ (k) ((vInts L).take k) (by rfl) ?_ ?_ (by unfold maxLen; omega) (by omega) ?_ ?_; (exact own_ext hl1 (by repeat' (first | exact Ext.refl _ | assumption | refine Ext.alloc ?_ _ | refine Ext.ext ?_ _ | refine Ext.drew ?_ | refine Ext.drewN ?_ _))); (exact (rd_take Hr.out k hk).ext (XW.trans (by repeat' (first | exact Ext.refl _ | assumption | refine Ext.alloc ?_ _ | refine Ext.ext ?_ _ | refine Ext.drew ?_ | refine Ext.drewN ?_ _)))); (exact one_sub (L := L) (fun u hu => List.mem_of_mem_take hu)); (have := XW.size; simp; omega); intro v1 w1 ho1 hg1; have X1 := Ext.grown (XW.trans (by repeat' (first | exact Ext.refl _ | assumption | refine Ext.alloc ?_ _ | refine Ext.ext ?_ _ | refine Ext.drew ?_ | refine Ext.drewN ?_ _))) hg1 (fun j hj => (own_row (hl1) j hj).1); have lit2 := rd_grown (litB.ext (show Ext _ ((W.alloc (.cells #[] 3)).alloc (.cells #[.int .i64 x] 3)).drew from (by repeat' (first | exact Ext.refl _ | assumption | refine Ext.alloc ?_ _ | refine Ext.ext ?_ _ | refine Ext.drew ?_ | refine Ext.drewN ?_ _)))) hg1 (fun e => by have h9 := Option.some.inj e; dsimp only at h9; omega))
              | (refine step_append_rd _ (by rfl) (.tmp 33) (.tmp 36) 41 (by rfl) w.heap.size 3 i0 (.int .i64 0) 1 8 Tryz.underlying41 hi hz0 hz1 hz2 (by rfl) (by decide) _ (0) ([]) (by rfl) ?_ _ (k) ((vInts L).take k) (by rfl) ?_ ?_ (by unfold maxLen; omega) (by omega) ?_ ?_; (exact own_ext hl1' (by repeat' (first | exact Ext.refl _ | assumption | refine Ext.alloc ?_ _ | refine Ext.ext ?_ _ | refine Ext.drew ?_ | refine Ext.drewN ?_ _))); (exact (rd_take Hr.out k hk).ext (XW.trans (by repeat' (first | exact Ext.refl _ | assumption | refine Ext.alloc ?_ _ | refine Ext.ext ?_ _ | refine Ext.drew ?_ | refine Ext.drewN ?_ _)))); (exact one_sub (L := L) (fun u hu => List.mem_of_mem_take hu)); (have := XW.size; simp; omega); intro v1 w1 ho1 hg1; have X1 := Ext.grown (XW.trans (by repeat' (first | exact Ext.refl _ | assumption | refine Ext.alloc ?_ _ | refine Ext.ext ?_ _ | refine Ext.drew ?_ | refine Ext.drewN ?_ _))) hg1 (fun j hj => (own_row (hl1') j hj).1); have lit2 := rd_grown (litC.ext (show Ext _ ((W.alloc (.cells #[.int .i64 x] 3)).alloc (.cells #[] 3)).drew from (by repeat' (first | exact Ext.refl _ | assumption | refine Ext.alloc ?_ _ | refine Ext.ext ?_ _ | refine Ext.drew ?_ | refine Ext.drewN ?_ _)))) hg1 (fun e => by have h9 := Option.some.inj e; dsimp only at h9; omega))
              | (refine step_append_rd _ (by rfl) (.tmp 37) (.tmp 39) 41 (by rfl) w.heap.size 3 i0 (.int .i64 0) 1 8 Tryz.underlying41 hi hz0 hz1 hz2 (by rfl) (by decide) _ (0 + k) ([] ++ (vInts L).take k) (by rfl) ?_ _ (1) ([.int .i64 x]) (by rfl) ?_ ?_ (by unfold maxLen; omega) (by omega) ?_ ?_; (exact ho1.alloc _); (exact lit2); (intro u hu; simp at hu; subst hu; rfl); (have := X1.size; simp; omega); intro v2 w2 ho2 hg2; have X2 := Ext.grown (X1.trans (by repeat' (first | exact Ext.refl _ | assumption | refine Ext.alloc ?_ _ | refine Ext.ext ?_ _ | refine Ext.drew ?_ | refine Ext.drewN ?_ _))) hg2 (fun j hj => (own_row ho1 j hj).1))
              | (refine step_append_rd _ (by rfl) (.tmp 37) (.tmp 39) 41 (by rfl) w.heap.size 3 i0 (.int .i64 0) 1 8 Tryz.underlying41 hi hz0 hz1 hz2 (by rfl) (by decide) _ (0 + k) ([] ++ (vInts L).take k) (by rfl) ?_ _ (1) ([.int .i64 x]) (by rfl) ?_ ?_ (by unfold maxLen; omega) (by omega) ?_ ?_; (exact ho1); (exact lit2); (intro u hu; simp at hu; subst hu; rfl); (have := X1.size; simp; omega); intro v2 w2 ho2 hg2; have X2 := Ext.grown (X1.trans (by repeat' (first | exact Ext.refl _ | assumption | refine Ext.alloc ?_ _ | refine Ext.ext ?_ _ | refine Ext.drew ?_ | refine Ext.drewN ?_ _))) hg2 (fun j hj => (own_row ho1 j hj).1))
              | (refine step_append_rd _ (by rfl) (.tmp 40) (.tmp 43) 41 (by rfl) w.heap.size 3 i0 (.int .i64 0) 1 8 Tryz.underlying41 hi hz0 hz1 hz2 (by rfl) (by decide) _ (0 + k + 1) ([] ++ (vInts L).take k ++ [Value.int .i64 x]) (by rfl) ?_ _ (L.length - k) ((vInts L).drop k) (by rfl) ?_ ?_ (by unfold maxLen; omega) (by omega) ?_ ?_; (exact ho2); (exact (rd_drop Hr.out hc k hk).ext X2); (exact one_sub (L := L) (fun u hu => List.mem_of_mem_drop hu)); (have := X2.size; omega); intro v3 w3 ho3 hg3; have X3 := Ext.grown X2 hg3 (fun j hj => (own_row ho2 j hj).1)))
          all_goals
            have K := hid (And.intro ho3 X3)
            clear ho1 ho2 ho3 hg1 hg2 hg3 X1 X2 X3 lit2 hl1 hl1' litB litC
            go_wp2
            go_ret
            refine ⟨_, rfl, ?_, K.out.2⟩
            rw [Hp.out]
            have e1 : 0 + k + 1 + (L.length - k) = (L.take k ++ x :: L.drop k).length := by simp; omega
            have e2 : [] ++ (vInts L).take k ++ [Value.int .i64 x] ++ (vInts L).drop k = vInts (L.take k ++ x :: L.drop k) := by simp [vInts, List.map_take, List.map_drop]
            rw [← e1, ← e2]
            exact own_mono K.out.1 hB
    · have hp : put L x = L.take k ++ x :: L.drop k := by
        have := put_out Ha.out (pos_no Ha.out hall (fun h => absurd h hlt))
        rwa [pos_count Ha.out hk hall (fun h => absurd h hlt)] at this
      have Hp := hid hp
      clear hp hall
      go_wp2
      clear hlt
      have XW : Ext w (w.ext z) := ⟨z, rfl⟩
      generalize w.ext z = W at *
      have hl1 : (W.alloc (.cells #[] 3)).ownsRow w.heap.size 3 1 (.slice (some ⟨W.heap.size, 0, none⟩) 0 0) 0 [] := World.ownsRow_lit W #[] 0 XW.size (Nat.zero_le _) rfl
      have hl1' : ((W.alloc (.cells #[.int .i64 x] 3)).alloc (.cells #[] 3)).ownsRow w.heap.size 3 1 (.slice (some ⟨W.heap.size + 1, 0, none⟩) 0 0) 0 [] := by simpa using World.ownsRow_lit (base := w.heap.size) (e := 3) (size := 1) (W.alloc (.cells #[.int .i64 x] 3)) #[] 0 (by have := XW.size; simp; omega) (Nat.zero_le _) rfl
      have litB : Rd ((W.alloc (.cells #[] 3)).alloc (.cells #[.int .i64 x] 3)) 1 (.slice (some ⟨W.heap.size + 1, 0, none⟩) 1 1) 1 [.int .i64 x] := by simpa using rd_lit (W.alloc (.cells #[] 3)) #[.int .i64 x]
      have litC : Rd ((W.alloc (.cells #[.int .i64 x] 3)).alloc (.cells #[] 3)) 1 (.slice (some ⟨W.heap.size, 0, none⟩) 1 1) 1 [.int .i64 x] := (rd_lit W #[.int .i64 x]).ext (by repeat' (first | exact Ext.refl _ | assumption | refine Ext.alloc ?_ _ | refine Ext.ext ?_ _ | refine Ext.drew ?_ | refine Ext.drewN ?_ _))
      have r1 := run_upto p L.length k cap (by omega)
      have r2 := run_from p L.length k cap hk
      have r3 := run_uptoAt p L.length k cap (by omega)
      have r4 := run_fromAt p L.length k cap hk
      go_region_held3 (fun _ => True) (first | trivial)
        (first
          | (refine step_append_rd _ (by rfl) (.tmp 33) (.tmp 36) 41 (by rfl) w.heap.size 3 i0 (.int .i64 0) 1 8 Tryz.underlying41 hi hz0 hz1 hz2 (by rfl) (by decide) _ (0) ([]) (by rfl) ?_ _ (k) ((vInts L).take k) (by rfl) ?_ ?_ (by unfold maxLen; omega) (by omega) ?_ ?_; (exact own_ext hl1 (show Ext _ (W.alloc (.cells #[] 3)).drew from (by repeat' (first | exact Ext.refl _ | assumption | refine Ext.alloc ?_ _ | refine Ext.ext ?_ _ | refine Ext.drew ?_ | refine Ext.drewN ?_ _)))); (exact (rd_take Hr.out k hk).ext (XW.trans (by repeat' (first | exact Ext.refl _ | assumption | refine Ext.alloc ?_ _ | refine Ext.ext ?_ _ | refine Ext.drew ?_ | refine Ext.drewN ?_ _)))); (exact one_sub (L := L) (fun u hu => List.mem_of_mem_take hu)); (have := XW.size; simp; omega); intro v1 w1 ho1 hg1; have X1 := Ext.grown (XW.trans (by repeat' (first | exact Ext.refl _ | assumption | refine Ext.alloc ?_ _ | refine Ext.ext ?_ _ | refine Ext.drew ?_ | refine Ext.drewN ?_ _))) hg1 (fun j hj => (own_row (hl1) j hj).1); have lit2 := rd_lit w1 #[.int .i64 x])
          | (refine step_append_rd _ (by rfl) (.tmp 33) (.tmp 36) 41 (by rfl) w.heap.size 3 i0 (.int .i64 0) 1 8 Tryz.underlying41 hi hz0 hz1 hz2 (by rfl) (by decide) _ (0) ([]) (by rfl) ?_ _ (k) ((vInts L).take k) (by rfl) ?_ ?_ (by unfold maxLen; omega) (by omega) ?_ ?_; (exact own_ext hl1 (by repeat' (first | exact Ext.refl _ | assumption | refine Ext.alloc ?_ _ | refine Ext.ext ?_ _ | refine Ext.drew ?_ | refine Ext.drewN ?_ _))); (exact (rd_take Hr.out k hk).ext (XW.trans (by repeat' (first | exact Ext.refl _ | assumption | refine Ext.alloc ?_ _ | refine Ext.ext ?_ _ | refine Ext.drew ?_ | refine Ext.drewN ?_ _)))); (exact one_sub (L := L) (fun u hu => List.mem_of_mem_take hu)); (have := XW.size; simp; omega); intro v1 w1 ho1 hg1; have X1 := Ext.grown (XW.trans (by repeat' (first | exact Ext.refl _ | assumption | refine Ext.alloc ?_ _ | refine Ext.ext ?_ _ | refine Ext.drew ?_ | refine Ext.drewN ?_ _))) hg1 (fun j hj => (own_row (hl1) j hj).1); have lit2 := rd_grown (litB.ext (show Ext _ ((W.alloc (.cells #[] 3)).alloc (.cells #[.int .i64 x] 3)).drew from (by repeat' (first | exact Ext.refl _ | assumption | refine Ext.alloc ?_ _ | refine Ext.ext ?_ _ | refine Ext.drew ?_ | refine Ext.drewN ?_ _)))) hg1 (fun e => by have h9 := Option.some.inj e; dsimp only at h9; omega))
          | (refine step_append_rd _ (by rfl) (.tmp 33) (.tmp 36) 41 (by rfl) w.heap.size 3 i0 (.int .i64 0) 1 8 Tryz.underlying41 hi hz0 hz1 hz2 (by rfl) (by decide) _ (0) ([]) (by rfl) ?_ _ (k) ((vInts L).take k) (by rfl) ?_ ?_ (by unfold maxLen; omega) (by omega) ?_ ?_; (exact own_ext hl1' (by repeat' (first | exact Ext.refl _ | assumption | refine Ext.alloc ?_ _ | refine Ext.ext ?_ _ | refine Ext.drew ?_ | refine Ext.drewN ?_ _))); (exact (rd_take Hr.out k hk).ext (XW.trans (by repeat' (first | exact Ext.refl _ | assumption | refine Ext.alloc ?_ _ | refine Ext.ext ?_ _ | refine Ext.drew ?_ | refine Ext.drewN ?_ _)))); (exact one_sub (L := L) (fun u hu => List.mem_of_mem_take hu)); (have := XW.size; simp; omega); intro v1 w1 ho1 hg1; have X1 := Ext.grown (XW.trans (by repeat' (first | exact Ext.refl _ | assumption | refine Ext.alloc ?_ _ | refine Ext.ext ?_ _ | refine Ext.drew ?_ | refine Ext.drewN ?_ _))) hg1 (fun j hj => (own_row (hl1') j hj).1); have lit2 := rd_grown (litC.ext (show Ext _ ((W.alloc (.cells #[.int .i64 x] 3)).alloc (.cells #[] 3)).drew from (by repeat' (first | exact Ext.refl _ | assumption | refine Ext.alloc ?_ _ | refine Ext.ext ?_ _ | refine Ext.drew ?_ | refine Ext.drewN ?_ _)))) hg1 (fun e => by have h9 := Option.some.inj e; dsimp only at h9; omega))
          | (refine step_append_rd _ (by rfl) (.tmp 37) (.tmp 39) 41 (by rfl) w.heap.size 3 i0 (.int .i64 0) 1 8 Tryz.underlying41 hi hz0 hz1 hz2 (by rfl) (by decide) _ (0 + k) ([] ++ (vInts L).take k) (by rfl) ?_ _ (1) ([.int .i64 x]) (by rfl) ?_ ?_ (by unfold maxLen; omega) (by omega) ?_ ?_; (exact ho1.alloc _); (exact lit2); (intro u hu; simp at hu; subst hu; rfl); (have := X1.size; simp; omega); intro v2 w2 ho2 hg2; have X2 := Ext.grown (X1.trans (by repeat' (first | exact Ext.refl _ | assumption | refine Ext.alloc ?_ _ | refine Ext.ext ?_ _ | refine Ext.drew ?_ | refine Ext.drewN ?_ _))) hg2 (fun j hj => (own_row ho1 j hj).1))
          | (refine step_append_rd _ (by rfl) (.tmp 37) (.tmp 39) 41 (by rfl) w.heap.size 3 i0 (.int .i64 0) 1 8 Tryz.underlying41 hi hz0 hz1 hz2 (by rfl) (by decide) _ (0 + k) ([] ++ (vInts L).take k) (by rfl) ?_ _ (1) ([.int .i64 x]) (by rfl) ?_ ?_ (by unfold maxLen; omega) (by omega) ?_ ?_; (exact ho1); (exact lit2); (intro u hu; simp at hu; subst hu; rfl); (have := X1.size; simp; omega); intro v2 w2 ho2 hg2; have X2 := Ext.grown (X1.trans (by repeat' (first | exact Ext.refl _ | assumption | refine Ext.alloc ?_ _ | refine Ext.ext ?_ _ | refine Ext.drew ?_ | refine Ext.drewN ?_ _))) hg2 (fun j hj => (own_row ho1 j hj).1))
          | (refine step_append_rd _ (by rfl) (.tmp 40) (.tmp 43) 41 (by rfl) w.heap.size 3 i0 (.int .i64 0) 1 8 Tryz.underlying41 hi hz0 hz1 hz2 (by rfl) (by decide) _ (0 + k + 1) ([] ++ (vInts L).take k ++ [Value.int .i64 x]) (by rfl) ?_ _ (L.length - k) ((vInts L).drop k) (by rfl) ?_ ?_ (by unfold maxLen; omega) (by omega) ?_ ?_; (exact ho2); (exact (rd_drop Hr.out hc k hk).ext X2); (exact one_sub (L := L) (fun u hu => List.mem_of_mem_drop hu)); (have := X2.size; omega); intro v3 w3 ho3 hg3; have X3 := Ext.grown X2 hg3 (fun j hj => (own_row ho2 j hj).1)))
      all_goals
        have K := hid (And.intro ho3 X3)
        clear ho1 ho2 ho3 hg1 hg2 hg3 X1 X2 X3 lit2 hl1 hl1' litB litC
        go_wp2
        go_ret
        refine ⟨_, rfl, ?_, K.out.2⟩
        rw [Hp.out]
        have e1 : 0 + k + 1 + (L.length - k) = (L.take k ++ x :: L.drop k).length := by simp; omega
        have e2 : [] ++ (vInts L).take k ++ [Value.int .i64 x] ++ (vInts L).drop k = vInts (L.take k ++ x :: L.drop k) := by simp [vInts, List.map_take, List.map_drop]
        rw [← e1, ← e2]
        exact own_mono K.out.1 hB
end Go.Proofs.YtljknhocfjpolaaGreatDoor
