/- Messages, divided: both sides. -/
import Derived.Test.YtnngklclehffhaaGreatDoorKWFra2
import Derived.WalkLawsBesides
namespace Go.Proofs.YtnngklclehffhaaGreatDoor
open Go.RowKit
set_option maxHeartbeats 400000
set_option maxRecDepth 100000
theorem trim_is (s : ByteArray) (h : s.size ≤ 1048576) : ∃ T : ByteArray, T.data.toList.isEmpty = lets s.data.toList ∧ ∀ w, Calls Tryz.prog 18 #[.string s, .string az] w fun e w' => e = .returned (.string T) ∧ Ext w w' := by
  refine ⟨_, ?_, fun w => strings_Trim s w h⟩
  have hn := trim_nil s.data.toList
  cases hl : lets s.data.toList
  · cases hm : (Lib.trimS s.data.toList az.data.toList) with
    | nil => rw [hn.1 hm] at hl; cases hl
    | cons a b => simp
  · rw [hn.2 hl]; rfl
def partsN (n k : Nat) : Nat := max 1 ((n + k - 1) / k)
theorem parts_int (n k : Nat) (hk : 1 ≤ k) : max 1 (((n : Int) + k - 1) / k) = (partsN n k : Int) := by
  have : ((n : Int) + k - 1) / k = (((n + k - 1) / k : Nat) : Int) := by
    rw [Int.natCast_ediv]
    congr 1
    omega
  rw [this, partsN]
  omega
theorem parts_lt {n k i : Nat} (hk : 1 ≤ k) (hi : i < partsN n k) : i * k ≤ n := by
  unfold partsN at hi
  rcases Nat.eq_zero_or_pos i with h | h
  · subst h; simp
  · have h1 : i < (n + k - 1) / k := by omega
    have h2 := (Nat.lt_div_iff_mul_lt (by omega)).1 h1
    omega
def piece (n : Int) (s : ByteArray) (k P i : Nat) : Fra := ⟨n, (i : Int), (P : Int), s.extract (i * k) (min s.size ((i + 1) * k))⟩
def pieces (n : Int) (s : ByteArray) (k P m : Nat) : List Fra := (List.range m).map (piece n s k P)
theorem pieces_snoc (n : Int) (s : ByteArray) (k P m : Nat) : pieces n s k P (m + 1) = pieces n s k P m ++ [piece n s k P m] := by simp [pieces, List.range_succ]
theorem pieces_len (n : Int) (s : ByteArray) (k P m : Nat) : (pieces n s k P m).length = m := by simp [pieces]
def splB (n : Int) (s : ByteArray) (z : Int) : Bool := inB n 0 99 && (itm 40 s && (inB z 1 8 && decide (partsN s.size z.toNat ≤ 9)))
def splD (n : Int) (s : ByteArray) (z : Int) : List Fra := if splB n s z then pieces n s z.toNat (partsN s.size z.toNat) (partsN s.size z.toNat) else []
theorem spl_no {n : Int} {s : ByteArray} {z : Int} (h : splB n s z = false) : splD n s z = [] := by rw [splD, h]; rfl
theorem spl_yes {n : Int} {s : ByteArray} {z : Int} (h : splB n s z = true) : splD n s z = pieces n s z.toNat (partsN s.size z.toNat) (partsN s.size z.toNat) := by rw [splD, h]; rfl
theorem splD_len (n : Int) (s : ByteArray) (z : Int) : (splD n s z).length ≤ 9 := by
  rw [splD]
  split
  · rename_i h
    simp only [splB, Bool.and_eq_true, decide_eq_true_eq] at h
    rw [pieces_len]
    omega
  · simp
theorem piece_slice (s : ByteArray) (w : World) (i k : Nat) (h : i * k ≤ s.size) :
    (Instr.slice 9 (.string s) (some (.int .i64 ((i : Int) * (k : Int)))) (some (.int .i64 (min (s.size : Int) (((i : Int) + 1) * (k : Int))))) none).run Tryz.prog w = .ok (.string (s.extract (i * k) (min s.size ((i + 1) * k)))) w := by
  have e1 : (i : Int) * (k : Int) = ((i * k : Nat) : Int) := by simp
  have e2 : min (s.size : Int) (((i : Int) + 1) * (k : Int)) = ((min s.size ((i + 1) * k) : Nat) : Int) := by
    rw [show ((i : Int) + 1) * (k : Int) = (((i + 1) * k : Nat) : Int) by simp]
    omega
  have e3 : i * k ≤ min s.size ((i + 1) * k) := by
    have : i * k ≤ (i + 1) * k := Nat.mul_le_mul_right k (by omega)
    omega
  rw [e1, e2]
  have := run_slice_string (P := Tryz.prog) w 9 s .i64 .i64 ((i * k : Nat) : Int) ((min s.size ((i + 1) * k) : Nat) : Int) Tryz.underlying9 (by omega) (by omega) (by omega)
  rw [this, Int.toNat_natCast, Int.toNat_natCast]
theorem pieces_own {w : World} {B P k m : Nat} {v : Value} {n : Int} {s : ByteArray} {x : Fra} (hp : piece n s k P m = x)
    (h : w.ownsRow B 31 4 v (m + 1) ((pieces n s k P m).flatMap Fra.cs ++ x.cs)) : w.ownsRow B 31 4 v (pieces n s k P (m + 1)).length ((pieces n s k P (m + 1)).flatMap Fra.cs) := by
  rw [pieces_len, pieces_snoc, hp]
  simpa using h
theorem impl_SplitMessage (n : Int) (s : ByteArray) (z : Int) (w : World) (h : s.size ≤ 1048576) :
    Calls Tryz.prog 6 #[.int .i64 n, .string s, .int .i64 z] w fun e w' => ∃ r, e = .returned (.tuple #[r, .bool (splB n s z)]) ∧ w'.ownsRow w.heap.size 31 4 r (splD n s z).length ((splD n s z).flatMap Fra.cs) ∧ Ext w w' := by
  have a1 := hid (fun w => impl_isMessageNumber n w)
  have a3 := hid (fun w => impl_within z 1 8 w)
  obtain ⟨T, hT, hc⟩ := trim_is s h
  have Hc := hid hc
  obtain ⟨i0, hi, hz0, hz1, hz2⟩ := info_parts infoFra
  clear hc
  cases e1 : inB n 0 99
  · have f : splB n s z = false := by simp only [splB, e1, Bool.false_and]
    rw [f, spl_no f]
    rw [e1] at a1
    clear f e1 a3 hT hi hz0 hz1 hz2
    go_enter Tryz.func6, Tryz.ntmps6
    go_wp2_with (go_at_call 17; refine (a1.out _).mono ?_; rintro e w' ⟨rfl, rfl⟩)
    go_ret2
    exact ⟨_, rfl, World.ownsRow_nil _ _ _ _, (by repeat' (first | exact Ext.refl _ | assumption | refine Ext.alloc ?_ _ | refine Ext.ext ?_ _ | refine Ext.drew ?_ | refine Ext.drewN ?_ _))⟩
  rw [e1] at a1
  by_cases h40 : s.size ≤ 40
  · have t0 : decide ((40 : Int) < s.size) = false := by simp; omega
    cases hl : lets s.data.toList
    · have f : splB n s z = false := by simp only [splB, itm, hl, Bool.false_and, Bool.and_false]
      rw [f, spl_no f]
      rw [hl] at hT
      have t2 : T.toList.isEmpty = false := by rw [Lib.toList_data]; exact hT
      have t1 : (!T.toList.isEmpty) = true := by rw [t2]; rfl
      clear f e1 a3 hT hi hz0 hz1 hz2 hl
      go_enter Tryz.func6, Tryz.ntmps6
      go_wp2_with (first | (go_at_call 17; refine (a1.out _).mono ?_; rintro e w' ⟨rfl, rfl⟩) | (go_at_call 18; refine (Hc.out _).mono ?_; rintro e w' ⟨rfl, z1, rfl⟩))
      go_ret2
      exact ⟨_, rfl, World.ownsRow_nil _ _ _ _, (by repeat' (first | exact Ext.refl _ | assumption | refine Ext.alloc ?_ _ | refine Ext.ext ?_ _ | refine Ext.drew ?_ | refine Ext.drewN ?_ _))⟩
    rw [hl] at hT
    obtain rfl := ba_nil hT
    cases e3 : inB z 1 8
    · have f : splB n s z = false := by simp only [splB, e3, Bool.false_and, Bool.and_false]
      rw [f, spl_no f]
      rw [e3] at a3
      clear f e1 hT hi hz0 hz1 hz2 hl e3
      go_enter Tryz.func6, Tryz.ntmps6
      go_wp2_with (first | (go_at_call 17; refine (a1.out _).mono ?_; rintro e w' ⟨rfl, rfl⟩) | (go_at_call 18; refine (Hc.out _).mono ?_; rintro e w' ⟨rfl, z1, rfl⟩) | (go_at_call 19; refine (a3.out _).mono ?_; rintro e w' ⟨rfl, rfl⟩))
      go_ret2
      exact ⟨_, rfl, World.ownsRow_nil _ _ _ _, (by repeat' (first | exact Ext.refl _ | assumption | refine Ext.alloc ?_ _ | refine Ext.ext ?_ _ | refine Ext.drew ?_ | refine Ext.drewN ?_ _))⟩
    rw [e3] at a3
    have hz := inB_iff.1 e3
    obtain ⟨k, rfl⟩ := Int.eq_ofNat_of_zero_le (show 0 ≤ z by omega)
    have hk1 : 1 ≤ k := by omega
    have hk8 : k ≤ 8 := by omega
    have hP := parts_int s.size k hk1
    have hlt := fun i hi => parts_lt (n := s.size) (k := k) (i := i) hk1 hi
    have hb : splB n s k = decide (partsN s.size k ≤ 9) := by simp only [splB, itm, e1, hl, e3, decide_eq_true h40, Bool.true_and, Int.toNat_natCast]
    have hy := fun h => spl_yes (n := n) (s := s) (z := (k : Int)) h
    rw [Int.toNat_natCast] at hy
    clear e1 e3 hz hT hl
    generalize partsN s.size k = P at *
    by_cases h9 : P ≤ 9
    · rw [decide_eq_true h9] at hb
      rw [hy hb, hb]
      have t9 : decide ((9 : Int) < (P : Int)) = false := by simp; omega
      have Hlt := hid hlt
      clear hb hy hlt
      go_enter Tryz.func6, Tryz.ntmps6
      go_wp2_with (first | (go_at_call 17; refine (a1.out _).mono ?_; rintro e w' ⟨rfl, rfl⟩) | (go_at_call 18; refine (Hc.out _).mono ?_; rintro e w' ⟨rfl, z1, rfl⟩) | (go_at_call 19; refine (a3.out _).mono ?_; rintro e w' ⟨rfl, rfl⟩))
      go_loopw [40, 9] (fun v40 v9 wr => ∃ i : Nat, i ≤ P ∧ v40 = .int .i64 i ∧ wr.ownsRow w.heap.size 31 4 v9 (pieces n s k P i).length ((pieces n s k P i).flatMap Fra.cs) ∧ Ext w wr) (fun v40 _ _ => P - (intOf v40).toNat)
      case atStart => exact ⟨0, Nat.zero_le _, rfl, World.ownsRow_nil _ _ _ _, (by repeat' (first | exact Ext.refl _ | assumption | refine Ext.alloc ?_ _ | refine Ext.ext ?_ _ | refine Ext.drew ?_ | refine Ext.drewN ?_ _))⟩
      case round =>
        obtain ⟨i, hi', rfl, hown, hx⟩ := hrel
        have Hown := hid hown
        have Hx := hid hx
        have hln := pieces_len n s k P i
        have hsn := hid (pieces_snoc n s k P i)
        clear hown hx
        by_cases hlt : i < P
        · have hsl := fun w => piece_slice s w i k (Hlt.out i hlt)
          have b1 : i * k ≤ 9 * 8 := Nat.mul_le_mul (by omega) hk8
          have b2 : (i + 1) * k ≤ 9 * 8 := Nat.mul_le_mul (by omega) hk8
          have c1 : (((i * k : Nat) : Int)) = (i : Int) * (k : Int) := by simp
          have c2 : ((((i + 1) * k : Nat) : Int)) = ((i : Int) + 1) * (k : Int) := by simp
          have w1 : IntKind.i64.wrap ((i : Int) * (k : Int)) = (i : Int) * (k : Int) := IntWalk.i64_in _ (by omega)
          have w2 : IntKind.i64.wrap (((i : Int) + 1) * (k : Int)) = ((i : Int) + 1) * (k : Int) := IntWalk.i64_in _ (by omega)
          have hpc : Hid (piece n s k P i = ⟨n, (i : Int), (P : Int), s.extract (i * k) (min s.size ((i + 1) * k))⟩) := rfl
          clear c1 c2 b1 b2
          generalize s.extract (i * k) (min s.size ((i + 1) * k)) = D at *
          generalize hQ : pieces n s k P i = Q at *
          go_wp2_with (first | (at_builtin; refine wpList_append_own _ rfl _ _ 26 rfl w.heap.size 31 i0 (.agg #[.int .i64 0, .int .i64 0, .int .i64 0, .string ByteArray.empty]) 4 40 Tryz.underlying26 hi hz0 hz1 hz2 rfl (by decide) _ _ _ rfl ((own_ext Hown.out (by repeat' (first | exact Ext.refl _ | assumption | refine Ext.alloc ?_ _ | refine Ext.ext ?_ _ | refine Ext.drew ?_ | refine Ext.drewN ?_ _)))) ⟨_, 0, none⟩ 1 1 [.int .i64 n, .int .i64 (i : Int), .int .i64 (P : Int), .string D] rfl ?c0 ?c1 ?c2 ?c3 ?c4 ?c5 ?_))
          (try case c0 => rfl)
          case c1 => (intro j u hj; rw [Addr.add_lit, Nat.zero_add, cell_of_row _ _ j _ _ (0, 0) (heap_at _ rfl)]; simpa using hj)
          case c2 => simp [Value.oneCell']
          case c3 => unfold maxLen; simp; omega
          case c4 => omega
          case c5 => have := Hx.out.size; simp; omega
          intro v' w1 hown' hgrow _
          have hx2 : Ext w w1 := (Hx.out.trans (by repeat' (first | exact Ext.refl _ | assumption | refine Ext.alloc ?_ _ | refine Ext.ext ?_ _ | refine Ext.drew ?_ | refine Ext.drewN ?_ _))).grown hgrow (fun j hj => (Hown.out.lt j hj).1)
          have Hx2 := hid hx2
          have hown2 : w1.ownsRow w.heap.size 31 4 v' (i + 1) (Q.flatMap Fra.cs ++ (⟨n, (i : Int), (P : Int), D⟩ : Fra).cs) := by simpa [hln, Fra.cs] using hown'
          have Hown2 := hid hown2
          clear hx2 hgrow hown' hown2
          go_wp2
          go_roundw
          case rel => exact ⟨i + 1, by omega, by go_num, pieces_own hpc.out (by rw [hQ]; exact Hown2.out), Hx2.out⟩
          case measure => simp [intOf]; omega
        · obtain rfl : i = P := by omega
          go_wp2
          go_ret2
          exact ⟨_, rfl, Hown.out, Hx.out⟩
    · rw [decide_eq_false h9] at hb
      rw [hb, spl_no hb]
      have t9 : decide ((9 : Int) < (P : Int)) = true := by simp; omega
      clear hb hy hlt hi hz0 hz1 hz2
      go_enter Tryz.func6, Tryz.ntmps6
      go_wp2_with (first | (go_at_call 17; refine (a1.out _).mono ?_; rintro e w' ⟨rfl, rfl⟩) | (go_at_call 18; refine (Hc.out _).mono ?_; rintro e w' ⟨rfl, z1, rfl⟩) | (go_at_call 19; refine (a3.out _).mono ?_; rintro e w' ⟨rfl, rfl⟩))
      go_ret2
      exact ⟨_, rfl, World.ownsRow_nil _ _ _ _, (by repeat' (first | exact Ext.refl _ | assumption | refine Ext.alloc ?_ _ | refine Ext.ext ?_ _ | refine Ext.drew ?_ | refine Ext.drewN ?_ _))⟩
  · have f : splB n s z = false := by simp only [splB, itm, decide_eq_false h40, Bool.and_false, Bool.false_and]
    rw [f, spl_no f]
    have t0 : decide ((40 : Int) < s.size) = true := by simp; omega
    clear f e1 a3 hT hi hz0 hz1 hz2
    go_enter Tryz.func6, Tryz.ntmps6
    go_wp2_with (go_at_call 17; refine (a1.out _).mono ?_; rintro e w' ⟨rfl, rfl⟩)
    go_ret2
    exact ⟨_, rfl, World.ownsRow_nil _ _ _ _, (by repeat' (first | exact Ext.refl _ | assumption | refine Ext.alloc ?_ _ | refine Ext.ext ?_ _ | refine Ext.drew ?_ | refine Ext.drewN ?_ _))⟩
theorem spec_l1Most (a b : Int) (w : World) : Calls Tryz.prog 23 #[.int .i64 a, .int .i64 b] w fun e w' => e = .returned (.int .i64 (max a b)) ∧ w = w' := by
  by_cases hab : b < a
  · have t0 : decide (b < a) = true := by simp; omega
    have e : max a b = a := by omega
    rw [e]
    go_enter Tryz.func23, Tryz.ntmps23
    go_wp2
    go_ret
    exact ⟨rfl, rfl⟩
  · have t0 : decide (b < a) = false := by simp; omega
    have e : max a b = b := by omega
    rw [e]
    go_enter Tryz.func23, Tryz.ntmps23
    go_wp2
    go_ret
    exact ⟨rfl, rfl⟩
theorem spec_l1Least (a b : Int) (w : World) : Calls Tryz.prog 24 #[.int .i64 a, .int .i64 b] w fun e w' => e = .returned (.int .i64 (min a b)) ∧ w = w' := by
  by_cases hab : a < b
  · have t0 : decide (a < b) = true := by simp; omega
    have e : min a b = a := by omega
    rw [e]
    go_enter Tryz.func24, Tryz.ntmps24
    go_wp2
    go_ret
    exact ⟨rfl, rfl⟩
  · have t0 : decide (a < b) = false := by simp; omega
    have e : min a b = b := by omega
    rw [e]
    go_enter Tryz.func24, Tryz.ntmps24
    go_wp2
    go_ret
    exact ⟨rfl, rfl⟩
theorem spec_SplitMessage (n : Int) (s : ByteArray) (z : Int) (w : World) (h : s.size ≤ 1048576) :
    Calls Tryz.prog 7 #[.int .i64 n, .string s, .int .i64 z] w fun e w' => ∃ r, e = .returned (.tuple #[r, .bool (splB n s z)]) ∧ w'.ownsRow w.heap.size 31 4 r (splD n s z).length ((splD n s z).flatMap Fra.cs) ∧ Ext w w' := by
  have a1 := hid (fun w => spec_l23Number n w)
  have a2 := hid (fun w => spec_l4Letters s 40 w h (by decide))
  have a3 := hid (fun w => spec_l1In z 1 8 w)
  obtain ⟨i0, hi, hz0, hz1, hz2⟩ := info_parts infoFra
  have ho0 := World.ownsRow_lit (base := w.heap.size) (e := 31) (size := 4) w #[] 0 (Nat.le_refl _) (Nat.zero_le _) rfl
  have Ho0 := hid ho0
  clear ho0
  cases e1 : inB n 0 99
  · have f : splB n s z = false := by simp only [splB, e1, Bool.false_and]
    rw [f, spl_no f]
    rw [e1] at a1
    clear f e1 a3 a2 hi hz0 hz1 hz2
    go_enter Tryz.func7, Tryz.ntmps7
    go_wp2_with (go_at_call 20; refine (a1.out _).mono ?_; rintro e w' ⟨rfl, rfl⟩)
    go_ret2
    exact ⟨_, rfl, own_ext Ho0.out (by repeat' (first | exact Ext.refl _ | assumption | refine Ext.alloc ?_ _ | refine Ext.ext ?_ _ | refine Ext.drew ?_ | refine Ext.drewN ?_ _)), (by repeat' (first | exact Ext.refl _ | assumption | refine Ext.alloc ?_ _ | refine Ext.ext ?_ _ | refine Ext.drew ?_ | refine Ext.drewN ?_ _))⟩
  rw [e1] at a1
  cases e2 : itm 40 s
  · have f : splB n s z = false := by simp only [splB, e2, Bool.false_and, Bool.and_false]
    rw [f, spl_no f]
    rw [e2] at a2
    clear f e1 e2 a3 hi hz0 hz1 hz2
    go_enter Tryz.func7, Tryz.ntmps7
    go_wp2_with (first | (go_at_call 20; refine (a1.out _).mono ?_; rintro e w' ⟨rfl, rfl⟩) | (go_at_call 21; refine (a2.out _).mono ?_; rintro e w' ⟨rfl, z1, rfl⟩))
    go_ret2
    exact ⟨_, rfl, own_ext Ho0.out (by repeat' (first | exact Ext.refl _ | assumption | refine Ext.alloc ?_ _ | refine Ext.ext ?_ _ | refine Ext.drew ?_ | refine Ext.drewN ?_ _)), (by repeat' (first | exact Ext.refl _ | assumption | refine Ext.alloc ?_ _ | refine Ext.ext ?_ _ | refine Ext.drew ?_ | refine Ext.drewN ?_ _))⟩
  rw [e2] at a2
  cases e3 : inB z 1 8
  · have f : splB n s z = false := by simp only [splB, e3, Bool.false_and, Bool.and_false]
    rw [f, spl_no f]
    rw [e3] at a3
    clear f e1 e2 e3 hi hz0 hz1 hz2
    go_enter Tryz.func7, Tryz.ntmps7
    go_wp2_with (first | (go_at_call 20; refine (a1.out _).mono ?_; rintro e w' ⟨rfl, rfl⟩) | (go_at_call 21; refine (a2.out _).mono ?_; rintro e w' ⟨rfl, z1, rfl⟩) | (go_at_call 22; refine (a3.out _).mono ?_; rintro e w' ⟨rfl, rfl⟩))
    go_ret2
    exact ⟨_, rfl, own_ext Ho0.out (by repeat' (first | exact Ext.refl _ | assumption | refine Ext.alloc ?_ _ | refine Ext.ext ?_ _ | refine Ext.drew ?_ | refine Ext.drewN ?_ _)), (by repeat' (first | exact Ext.refl _ | assumption | refine Ext.alloc ?_ _ | refine Ext.ext ?_ _ | refine Ext.drew ?_ | refine Ext.drewN ?_ _))⟩
  rw [e3] at a3
  have h40 := itm_size e2
  have hz := inB_iff.1 e3
  obtain ⟨k, rfl⟩ := Int.eq_ofNat_of_zero_le (show 0 ≤ z by omega)
  have hk1 : 1 ≤ k := by omega
  have hk8 : k ≤ 8 := by omega
  have hP := parts_int s.size k hk1
  have hlt := fun i hi => parts_lt (n := s.size) (k := k) (i := i) hk1 hi
  have hb : splB n s k = decide (partsN s.size k ≤ 9) := by simp only [splB, e1, e2, e3, Bool.true_and, Int.toNat_natCast]
  have hy := fun h => spl_yes (n := n) (s := s) (z := (k : Int)) h
  rw [Int.toNat_natCast] at hy
  have hmo := hid (fun w => spec_l1Most 1 (((s.size : Int) + k - 1) / k) w)
  rw [hP] at hmo
  have Hlt := hid hlt
  clear e1 e2 e3 hz hP hlt
  generalize partsN s.size k = P at *
  by_cases h9 : P ≤ 9
  · rw [decide_eq_true h9] at hb
    rw [hy hb, hb]
    have t9 : decide ((9 : Int) < (P : Int)) = false := by simp; omega
    clear hb hy
    go_enter Tryz.func7, Tryz.ntmps7
    go_wp2_with (first | (go_at_call 20; refine (a1.out _).mono ?_; rintro e w' ⟨rfl, rfl⟩) | (go_at_call 21; refine (a2.out _).mono ?_; rintro e w' ⟨rfl, z1, rfl⟩) | (go_at_call 22; refine (a3.out _).mono ?_; rintro e w' ⟨rfl, rfl⟩) | (go_at_call 23; refine (hmo.out _).mono ?_; rintro e w' ⟨rfl, rfl⟩))
    go_loopw [10, 8] (fun v40 v9 wr => ∃ i : Nat, i ≤ P ∧ v40 = .int .i64 i ∧ wr.ownsRow w.heap.size 31 4 v9 (pieces n s k P i).length ((pieces n s k P i).flatMap Fra.cs) ∧ Ext w wr) (fun v40 _ _ => P - (intOf v40).toNat)
    case atStart => exact ⟨0, Nat.zero_le _, rfl, own_ext Ho0.out (by repeat' (first | exact Ext.refl _ | assumption | refine Ext.alloc ?_ _ | refine Ext.ext ?_ _ | refine Ext.drew ?_ | refine Ext.drewN ?_ _)), (by repeat' (first | exact Ext.refl _ | assumption | refine Ext.alloc ?_ _ | refine Ext.ext ?_ _ | refine Ext.drew ?_ | refine Ext.drewN ?_ _))⟩
    case round =>
      obtain ⟨i, hi', rfl, hown, hx⟩ := hrel
      have Hown := hid hown
      have Hx := hid hx
      have hln := pieces_len n s k P i
      have hsn := hid (pieces_snoc n s k P i)
      clear hown hx
      by_cases hlt : i < P
      · have hsl := fun w => piece_slice s w i k (Hlt.out i hlt)
        have b1 : i * k ≤ 9 * 8 := Nat.mul_le_mul (by omega) hk8
        have b2 : (i + 1) * k ≤ 9 * 8 := Nat.mul_le_mul (by omega) hk8
        have c1 : (((i * k : Nat) : Int)) = (i : Int) * (k : Int) := by simp
        have c2 : ((((i + 1) * k : Nat) : Int)) = ((i : Int) + 1) * (k : Int) := by simp
        have w1 : IntKind.i64.wrap ((i : Int) * (k : Int)) = (i : Int) * (k : Int) := IntWalk.i64_in _ (by omega)
        have w2 : IntKind.i64.wrap (((i : Int) + 1) * (k : Int)) = ((i : Int) + 1) * (k : Int) := IntWalk.i64_in _ (by omega)
        have hle := hid (fun w => spec_l1Least (s.size : Int) (((i : Int) + 1) * (k : Int)) w)
        have hpc : Hid (piece n s k P i = ⟨n, (i : Int), (P : Int), s.extract (i * k) (min s.size ((i + 1) * k))⟩) := rfl
        clear c1 c2 b1 b2
        generalize s.extract (i * k) (min s.size ((i + 1) * k)) = D at *
        generalize hQ : pieces n s k P i = Q at *
        go_wp2_with (first | (go_at_call 24; refine (hle.out _).mono ?_; rintro e w' ⟨rfl, rfl⟩) | (at_builtin; refine wpList_append_own _ rfl _ _ 26 rfl w.heap.size 31 i0 (.agg #[.int .i64 0, .int .i64 0, .int .i64 0, .string ByteArray.empty]) 4 40 Tryz.underlying26 hi hz0 hz1 hz2 rfl (by decide) _ _ _ rfl ((own_ext Hown.out (by repeat' (first | exact Ext.refl _ | assumption | refine Ext.alloc ?_ _ | refine Ext.ext ?_ _ | refine Ext.drew ?_ | refine Ext.drewN ?_ _)))) ⟨_, 0, none⟩ 1 1 [.int .i64 n, .int .i64 (i : Int), .int .i64 (P : Int), .string D] rfl ?c0 ?c1 ?c2 ?c3 ?c4 ?c5 ?_))
        (try case c0 => rfl)
        case c1 => (intro j u hj; rw [Addr.add_lit, Nat.zero_add, cell_of_row _ _ j _ _ (0, 0) (heap_at _ rfl)]; simpa using hj)
        case c2 => simp [Value.oneCell']
        case c3 => unfold maxLen; simp; omega
        case c4 => omega
        case c5 => have := Hx.out.size; simp; omega
        intro v' w1 hown' hgrow _
        have hx2 : Ext w w1 := (Hx.out.trans (by repeat' (first | exact Ext.refl _ | assumption | refine Ext.alloc ?_ _ | refine Ext.ext ?_ _ | refine Ext.drew ?_ | refine Ext.drewN ?_ _))).grown hgrow (fun j hj => (Hown.out.lt j hj).1)
        have Hx2 := hid hx2
        have hown2 : w1.ownsRow w.heap.size 31 4 v' (i + 1) (Q.flatMap Fra.cs ++ (⟨n, (i : Int), (P : Int), D⟩ : Fra).cs) := by simpa [hln, Fra.cs] using hown'
        have Hown2 := hid hown2
        clear hx2 hgrow hown' hown2
        go_wp2
        go_roundw
        case rel => exact ⟨i + 1, by omega, by go_num, pieces_own hpc.out (by rw [hQ]; exact Hown2.out), Hx2.out⟩
        case measure => simp [intOf]; omega
      · obtain rfl : i = P := by omega
        go_wp2
        go_ret2
        exact ⟨_, rfl, Hown.out, Hx.out⟩
  · rw [decide_eq_false h9] at hb
    rw [hb, spl_no hb]
    have t9 : decide ((9 : Int) < (P : Int)) = true := by simp; omega
    clear hb hy hi hz0 hz1 hz2
    go_enter Tryz.func7, Tryz.ntmps7
    go_wp2_with (first | (go_at_call 20; refine (a1.out _).mono ?_; rintro e w' ⟨rfl, rfl⟩) | (go_at_call 21; refine (a2.out _).mono ?_; rintro e w' ⟨rfl, z1, rfl⟩) | (go_at_call 22; refine (a3.out _).mono ?_; rintro e w' ⟨rfl, rfl⟩) | (go_at_call 23; refine (hmo.out _).mono ?_; rintro e w' ⟨rfl, rfl⟩))
    go_ret2
    exact ⟨_, rfl, own_ext Ho0.out (by repeat' (first | exact Ext.refl _ | assumption | refine Ext.alloc ?_ _ | refine Ext.ext ?_ _ | refine Ext.drew ?_ | refine Ext.drewN ?_ _)), (by repeat' (first | exact Ext.refl _ | assumption | refine Ext.alloc ?_ _ | refine Ext.ext ?_ _ | refine Ext.drew ?_ | refine Ext.drewN ?_ _))⟩
end Go.Proofs.YtnngklclehffhaaGreatDoor
