/- The item with a code, both sides. -/
import Derived.Test.YthnfdgbmmiddlaaDoorWAdd
import Derived.Test.YthnfdgbmmiddlaaDoorWP2
import Derived.Shelf.Strings.Trim
namespace Go.Proofs.YthnfdgbmmiddlaaDoor
open Go.RowKit
set_option maxHeartbeats 400000
set_option maxRecDepth 100000
/-- How many numbers stand ahead of the first zero. -/
def lead (xs : List Int) : Nat := (xs.takeWhile (fun x => !(x == 0))).length
def okOf (xs : List Int) : Bool := (xs.drop (lead xs)).all (fun x => x == 0)
def ofB (xs : List Int) : Bool := isPar xs && okOf xs
def ofT (xs : List Int) : ByteArray := if ofB xs then ptext (xs.take (lead xs)) else ⟨#[]⟩
theorem ofT_no {xs : List Int} (h : ofB xs = false) : ofT xs = ⟨#[]⟩ := by simp [ofT, h]
theorem ofT_yes {xs : List Int} (h : ofB xs = true) : ofT xs = ptext (xs.take (lead xs)) := by simp [ofT, h]
theorem lead_app : ∀ (A Z : List Int), (∀ x ∈ A, ¬ x = 0) → (∀ x ∈ Z, x = 0) → lead (A ++ Z) = A.length
  | [], [], _, _ => rfl
  | [], z :: Z, _, h => by simp [lead, h z (by simp)]
  | a :: A, Z, h, hz => by
    have := lead_app A Z (fun x hx => h x (by simp [hx])) hz
    unfold lead at *
    rw [List.cons_append, List.takeWhile_cons, if_pos (by simp [h a (by simp)]), List.length_cons, this, List.length_cons]
theorem okOf_app {A Z : List Int} (h : ∀ x ∈ A, ¬ x = 0) (hz : ∀ x ∈ Z, x = 0) : okOf (A ++ Z) = true ∧ (A ++ Z).take (lead (A ++ Z)) = A := by
  unfold okOf
  rw [lead_app A Z h hz, List.drop_left, List.take_left]
  exact ⟨List.all_eq_true.2 (fun x hx => by simp [hz x hx]), rfl⟩
theorem okOf_split {xs : List Int} (h : okOf xs = true) : xs = xs.take (lead xs) ++ xs.drop (lead xs) ∧ (∀ x ∈ xs.take (lead xs), ¬ x = 0) ∧ (∀ x ∈ xs.drop (lead xs), x = 0) := by
  refine ⟨(List.take_append_drop _ _).symm, fun x hx => ?_, fun x hx => by simpa using List.all_eq_true.1 h x hx⟩
  have e : xs.take (lead xs) = xs.takeWhile (fun x => !(x == 0)) := by
    have h2 : xs.take (lead xs) = (xs.takeWhile (fun x => !(x == 0)) ++ xs.dropWhile (fun x => !(x == 0))).take (xs.takeWhile (fun x => !(x == 0))).length := by rw [List.takeWhile_append_dropWhile]; rfl
    rw [h2, List.take_left]
  rw [e] at hx
  have := List.all_eq_true.1 (List.all_takeWhile (l := xs) (p := fun x => !(x == 0))) x hx
  simpa using this
theorem pb_zero {x : Int} (h : 0 ≤ x ∧ x ≤ 26) : (pb x == 45) = (x == 0) := by
  by_cases h0 : x = 0
  · subst h0; rfl
  · have := pb_val h h0
    have e1 : (x == 0) = false := by simp [h0]
    rw [e1, beq_eq_false_iff_ne]
    intro e
    rw [e] at this
    have : ((45 : UInt8).toNat : Int) = 45 := rfl
    omega
theorem pb_let {x : Int} (h : 0 ≤ x ∧ x ≤ 26) : isLet (pb x) = !(x == 0) := by
  by_cases h0 : x = 0
  · subst h0; rfl
  · have := pb_val h h0
    have e1 : (x == 0) = false := by simp [h0]
    rw [e1, isLet]
    simp; omega
/-- Without the zeros at the end. -/
def noTail (xs : List Int) : List Int := (xs.reverse.dropWhile (fun x => x == 0)).reverse
theorem noTail_split (xs : List Int) : ∃ Z, xs = noTail xs ++ Z ∧ (∀ x ∈ Z, x = 0) := by
  refine ⟨(xs.reverse.takeWhile (fun x => x == 0)).reverse, ?_, fun x hx => ?_⟩
  · have : xs.reverse.takeWhile (fun x => x == 0) ++ xs.reverse.dropWhile (fun x => x == 0) = xs.reverse := List.takeWhile_append_dropWhile
    have := congrArg List.reverse this
    rw [List.reverse_append, List.reverse_reverse] at this
    exact this.symm
  · have := List.all_eq_true.1 (List.all_takeWhile (l := xs.reverse) (p := fun x => x == 0)) x (by simpa using hx)
    simpa using this
theorem noTail_app {A Z : List Int} (h : ∀ x ∈ A, ¬ x = 0) (hz : ∀ x ∈ Z, x = 0) : noTail (A ++ Z) = A := by
  unfold noTail
  rw [List.reverse_append, List.dropWhile_append]
  have h1 : Z.reverse.dropWhile (fun x => x == 0) = [] := (dropWhile_nil _ _).2 (List.all_eq_true.2 (fun x hx => by simp [hz x (by simpa using hx)]))
  rw [h1]
  simp only [List.isEmpty_nil, if_true]
  cases hA : A.reverse with
  | nil => simp at hA; simp [hA]
  | cons a B =>
    have : ¬ a = 0 := h a (by rw [← List.mem_reverse, hA]; simp)
    rw [List.dropWhile_cons, if_neg (by simp [this]), ← hA, List.reverse_reverse]
theorem trim_ptext {xs : List Int} (hb : ∀ x ∈ xs, 0 ≤ x ∧ x ≤ 26) : (⟨(Lib.trimRightB (ptext xs).data.toList 45).toArray⟩ : ByteArray) = ptext (noTail xs) := by
  have e : (ptext xs).data.toList = xs.map pb := by simp [ptext]
  have key : ∀ l : List Int, (∀ x ∈ l, 0 ≤ x ∧ x ≤ 26) → (l.map pb).dropWhile (fun b => b == 45) = (l.dropWhile (fun x => x == 0)).map pb := by
    intro l
    induction l with
    | nil => simp
    | cons x l ih =>
      intro h
      rw [List.map_cons, List.dropWhile_cons, List.dropWhile_cons, pb_zero (h x (by simp))]
      cases hx : (x == 0)
      · simp
      · simpa using ih (fun y hy => h y (by simp [hy]))
  unfold Lib.trimRightB
  rw [e, ← List.map_reverse, key _ (fun x hx => hb x (by simpa using hx)), ← List.map_reverse]
  rfl
theorem itm_ptext {xs : List Int} (hb : ∀ x ∈ xs, 0 ≤ x ∧ x ≤ 26) (h8 : xs.length ≤ 8) : itm 8 (ptext xs) = xs.all (fun x => !(x == 0)) := by
  unfold itm
  rw [lets_eq, ptext_size, show (ptext xs).data.toList = xs.map pb from by simp [ptext], List.all_map]
  simp only [h8, decide_true, Bool.and_true]
  rw [Bool.eq_iff_iff, List.all_eq_true, List.all_eq_true]
  constructor
  · intro h x hx; have := h x hx; rwa [Function.comp_apply, pb_let (hb x hx)] at this
  · intro h x hx; rw [Function.comp_apply, pb_let (hb x hx)]; exact h x hx
theorem noTail_mem {xs : List Int} (x : Int) (h : x ∈ noTail xs) : x ∈ xs := by
  obtain ⟨Z, e, -⟩ := noTail_split xs
  rw [e]; exact List.mem_append_left _ h
theorem noTail_ok (xs : List Int) : (noTail xs).all (fun x => !(x == 0)) = okOf xs := by
  rw [Bool.eq_iff_iff]
  constructor
  · intro h
    obtain ⟨Z, e, hz⟩ := noTail_split xs
    rw [e]
    exact (okOf_app (fun x hx => by simpa using List.all_eq_true.1 h x hx) hz).1
  · intro h
    obtain ⟨e, h1, h2⟩ := okOf_split h
    rw [e, noTail_app h1 h2]
    exact List.all_eq_true.2 (fun x hx => by simp [h1 x hx])
theorem noTail_take {xs : List Int} (h : okOf xs = true) : noTail xs = xs.take (lead xs) := by
  obtain ⟨e, h1, h2⟩ := okOf_split h
  conv => lhs; rw [e]
  exact noTail_app h1 h2
theorem isPar_mem {xs : List Int} (h : isPar xs = true) (x : Int) (hx : x ∈ xs) : 0 ≤ x ∧ x ≤ 26 := by
  obtain ⟨i, hi, rfl⟩ := List.mem_iff_getElem.1 hx
  have := isPar_get h i hi
  rwa [List.getD_eq_getElem?_getD, List.getElem?_eq_getElem hi] at this
def ren162 : Go.Shelf.Ren := ⟨fun x => if x = 119 then 93 else if x = 120 then 90 else if x = 137 then 48 else if x = 151 then 86 else if x = 152 then 91 else if x = 162 then 36 else if x = 197 then 89 else if x = 217 then 76 else if x = 224 then 94 else if x = 225 then 95 else if x = 227 then 71 else if x = 228 then 84 else if x = 232 then 70 else if x = 234 then 72 else if x = 236 then 73 else if x = 260 then 92 else if x = 266 then 87 else if x = 271 then 85 else x, fun x => if x = 0 then 0 else if x = 3 then 3 else if x = 4 then 4 else if x = 5 then 5 else if x = 9 then 9 else if x = 21 then 21 else if x = 46 then 87 else if x = 105 then 84 else if x = 116 then 73 else if x = 117 then 74 else if x = 119 then 92 else if x = 124 then 77 else if x = 138 then 94 else if x = 139 then 95 else x, fun x => if x = 3 then 1 else if x = 4 then 2 else x⟩
theorem lays162 : Go.Proofs.Lays.n162 Tryd.prog ren162 := by constructor <;> first | kernel_rfl | (intro w; kernel_rfl)
theorem strings_TrimRight (s : ByteArray) (w : World) (h : s.size ≤ 1048576) :
    Calls Tryd.prog 36 #[.string s, .string ⟨#[45]⟩] w fun e w' => e = .returned (.string ⟨(Lib.trimRightB s.data.toList 45).toArray⟩) ∧ w = w' :=
  (Any.strings_TrimRight_one lays162 s 45 (by decide) w (by omega)).mono fun _ _ ⟨a, b⟩ => ⟨a, b.symm⟩
theorem impl_ItemOf (xs : List Int) (v : Value) (w : World) (h : Rd w 1 v xs.length (vInts xs)) (h2 : xs.length ≤ 1048576) :
    Calls Tryd.prog 8 #[v] w fun e w' => e = .returned (.tuple #[.string (ofT xs), .bool (ofB xs)]) ∧ Ext w w' := by
  have Hr := hid h
  clear h
  have hp : Hid (∀ w, Rd w 1 v xs.length (vInts xs) → Calls Tryd.prog 35 #[v] w fun e w' => e = .returned (.bool (isPar xs)) ∧ Ext w w') := fun w h => impl_isParity xs v w h h2
  cases e1 : isPar xs
  · have hno : ofB xs = false := by rw [ofB, e1]; rfl
    rw [ofT_no hno, hno]
    rw [e1] at hp
    clear hno e1
    go_enter Tryd.func8, Tryd.ntmps8
    go_wp2_with (go_at_call 35; (with_reducible refine (hp.out _ (Hr.out.ext (by repeat' (first | exact Ext.refl _ | assumption | refine Ext.alloc ?_ _ | refine Ext.ext ?_ _ | refine Ext.drew ?_ | refine Ext.drewN ?_ _)))).mono ?_); rintro e w' ⟨rfl, z1, rfl⟩)
    go_ret2
    exact ⟨rfl, (by repeat' (first | exact Ext.refl _ | assumption | refine Ext.alloc ?_ _ | refine Ext.ext ?_ _ | refine Ext.drew ?_ | refine Ext.drewN ?_ _))⟩
  · rw [e1] at hp
    have h8 := isPar_len e1
    have hm := isPar_mem e1
    have hT := hid (fun w h => impl_parityText xs v w h e1)
    have htr := fun w => strings_TrimRight (ptext xs) w (by rw [ptext_size]; omega)
    rw [trim_ptext hm] at htr
    have htl : (noTail xs).length ≤ 8 := by
      obtain ⟨Z, e, -⟩ := noTail_split xs
      have := congrArg List.length e
      rw [List.length_append] at this
      omega
    have hit := fun w => impl_isItem (ptext (noTail xs)) w (by rw [ptext_size]; omega)
    rw [itm_ptext (fun x hx => hm x (noTail_mem x hx)) htl, noTail_ok] at hit
    have Htr := hid htr
    cases e2 : okOf xs
    · have hno : ofB xs = false := by rw [ofB, e2, Bool.and_false]
      rw [ofT_no hno, hno]
      rw [e2] at hit
      have Hit := hid hit
      clear hno e1 e2 hit htr hm h8 htl
      go_enter Tryd.func8, Tryd.ntmps8
      go_wp2_with (first | (go_at_call 35; (with_reducible refine (hp.out _ (Hr.out.ext (by repeat' (first | exact Ext.refl _ | assumption | refine Ext.alloc ?_ _ | refine Ext.ext ?_ _ | refine Ext.drew ?_ | refine Ext.drewN ?_ _)))).mono ?_); rintro e w' ⟨rfl, z1, rfl⟩) | (go_at_call 37; (with_reducible refine (hT.out _ (Hr.out.ext (by repeat' (first | exact Ext.refl _ | assumption | refine Ext.alloc ?_ _ | refine Ext.ext ?_ _ | refine Ext.drew ?_ | refine Ext.drewN ?_ _)))).mono ?_); rintro e w' ⟨rfl, z2, rfl⟩) | (go_at_call 36; refine (Htr.out _).mono ?_; rintro e w' ⟨rfl, rfl⟩) | (go_at_call 33; (with_reducible refine (Hit.out _).mono ?_); rintro e w' ⟨rfl, z3, rfl⟩))
      go_ret2
      exact ⟨rfl, (by repeat' (first | exact Ext.refl _ | assumption | refine Ext.alloc ?_ _ | refine Ext.ext ?_ _ | refine Ext.drew ?_ | refine Ext.drewN ?_ _))⟩
    · have hyes : ofB xs = true := by rw [ofB, e1, e2]; rfl
      rw [ofT_yes hyes, hyes, ← noTail_take e2]
      rw [e2] at hit
      have Hit := hid hit
      clear hyes e1 e2 hit htr hm h8 htl
      go_enter Tryd.func8, Tryd.ntmps8
      go_wp2_with (first | (go_at_call 35; (with_reducible refine (hp.out _ (Hr.out.ext (by repeat' (first | exact Ext.refl _ | assumption | refine Ext.alloc ?_ _ | refine Ext.ext ?_ _ | refine Ext.drew ?_ | refine Ext.drewN ?_ _)))).mono ?_); rintro e w' ⟨rfl, z1, rfl⟩) | (go_at_call 37; (with_reducible refine (hT.out _ (Hr.out.ext (by repeat' (first | exact Ext.refl _ | assumption | refine Ext.alloc ?_ _ | refine Ext.ext ?_ _ | refine Ext.drew ?_ | refine Ext.drewN ?_ _)))).mono ?_); rintro e w' ⟨rfl, z2, rfl⟩) | (go_at_call 36; refine (Htr.out _).mono ?_; rintro e w' ⟨rfl, rfl⟩) | (go_at_call 33; (with_reducible refine (Hit.out _).mono ?_); rintro e w' ⟨rfl, z3, rfl⟩))
      go_ret2
      exact ⟨rfl, (by repeat' (first | exact Ext.refl _ | assumption | refine Ext.alloc ?_ _ | refine Ext.ext ?_ _ | refine Ext.drew ?_ | refine Ext.drewN ?_ _))⟩
/-- Numbers so far: m of them, no zero among them; then zeros up to k. -/
def Led (xs : List Int) (m k : Nat) : Prop := m ≤ k ∧ (∀ i, i < m → ¬ xs.getD i 0 = 0) ∧ (∀ i, m ≤ i → i < k → xs.getD i 0 = 0)
theorem led_zero (xs : List Int) : Led xs 0 0 := ⟨Nat.le_refl _, fun i h => by omega, fun i _ h => by omega⟩
theorem led_skip {xs m k} (h : Led xs m k) (hx : xs.getD k 0 = 0) : Led xs m (k + 1) :=
  ⟨by have := h.1; omega, h.2.1, fun i h1 h2 => by by_cases e : i = k; (subst e; exact hx); exact h.2.2 i h1 (by omega)⟩
theorem led_more {xs k} (h : Led xs k k) (hx : ¬ xs.getD k 0 = 0) : Led xs (k + 1) (k + 1) :=
  ⟨Nat.le_refl _, fun i hi => by by_cases e : i = k; (subst e; exact hx); exact h.2.1 i (by omega), fun i h1 h2 => by omega⟩
theorem led_done {xs m} (h : Led xs m xs.length) : okOf xs = true ∧ xs.take (lead xs) = xs.take m := by
  have h1 : ∀ x ∈ xs.take m, ¬ x = 0 := fun x hx => by
    obtain ⟨i, hi, rfl⟩ := List.mem_iff_getElem.1 hx
    rw [List.length_take] at hi
    have := h.2.1 i (by omega)
    rw [List.getElem_take]
    rwa [List.getD_eq_getElem?_getD, List.getElem?_eq_getElem (by omega)] at this
  have h2 : ∀ x ∈ xs.drop m, x = 0 := fun x hx => by
    obtain ⟨i, hi, rfl⟩ := List.mem_iff_getElem.1 hx
    rw [List.length_drop] at hi
    have := h.2.2 (m + i) (by omega) (by omega)
    rw [List.getElem_drop]
    rwa [List.getD_eq_getElem?_getD, List.getElem?_eq_getElem (by omega)] at this
  have := okOf_app h1 h2
  rwa [List.take_append_drop] at this
theorem led_bad {xs m k} (h : Led xs m k) (hm : m < k) (hk : k < xs.length) (hx : ¬ xs.getD k 0 = 0) : okOf xs = false := by
  cases ho : okOf xs
  · rfl
  · obtain ⟨e, h1, h2⟩ := okOf_split ho
    exfalso
    have hmm : xs.getD m 0 = 0 := h.2.2 m (Nat.le_refl _) hm
    by_cases hl : m < lead xs
    · refine h1 (xs.getD m 0) ?_ hmm
      rw [List.getD_eq_getElem?_getD, List.getElem?_eq_getElem (by omega)]
      exact List.mem_take_iff_getElem.2 ⟨m, by omega, rfl⟩
    · refine hx (h2 (xs.getD k 0) ?_)
      rw [List.getD_eq_getElem?_getD, List.getElem?_eq_getElem hk]
      exact List.mem_drop_iff_getElem.2 ⟨k - lead xs, by omega, by simp; congr 1; omega⟩
theorem spec_l24Of (xs : List Int) (v : Value) (w : World) (h : Rd w 1 v xs.length (vInts xs)) (hp : isPar xs = true) :
    Calls Tryd.prog 45 #[v] w fun e w' => e = .returned (.tuple #[.string (if okOf xs then ptext (xs.take (lead xs)) else ⟨#[]⟩), .bool (okOf xs)]) ∧ Ext w w' := by
  obtain ⟨h1, p, cap, rfl, h4⟩ := h
  have H4 := hid h4; clear h4 h1
  have hl' : xs.length ≤ 8 := by have := isPar_len hp; omega
  have Hp := hid hp; clear hp
  obtain ⟨i0, hi, hz0, hz1, hz2⟩ := info_parts infoU8
  obtain ⟨T, hT⟩ : ∃ T, T = (if okOf xs then ptext (xs.take (lead xs)) else ⟨#[]⟩) := ⟨_, rfl⟩
  obtain ⟨B, hB⟩ : ∃ B, B = okOf xs := ⟨_, rfl⟩
  rw [← hT, ← hB]
  have HT := hid hT
  have HB := hid hB
  clear hT hB
  go_enter Tryd.func45, Tryd.ntmps45
  go_wp2
  go_loopw [5, 4] (fun v5 v4 wr => ∃ k m : Nat, k ≤ xs.length ∧ v5 = .int .i64 k ∧ Hid (Led xs m k) ∧ wr.ownsRow w.heap.size 5 1 v4 m (vBytes ((xs.take m).map pb)) ∧ Ext w wr) (fun v5 _ _ => xs.length - (intOf v5).toNat)
  case atStart => exact ⟨0, 0, Nat.zero_le _, rfl, led_zero xs, World.ownsRow_lit w #[] 0 (Nat.le_refl _) (Nat.zero_le _) rfl, (by repeat' (first | exact Ext.refl _ | assumption | refine Ext.alloc ?_ _ | refine Ext.ext ?_ _ | refine Ext.drew ?_ | refine Ext.drewN ?_ _))⟩
  case round =>
    obtain ⟨k, m, hk, rfl, hL, hown, hx⟩ := hrel
    have Hx := hid hx; clear hx
    have hmk := hL.out.1
    by_cases hlt : k < xs.length
    · obtain ⟨b, off, rfl, h6⟩ := H4.out.resolve_left (by omega)
      have c0 := Hx.out.cell (elem1 (Value.int .i64) 0 xs h6 k hlt)
      have bd := isPar_get Hp.out k hlt
      have hsn := take_snoc xs 0 k hlt
      have hsk := led_skip hL.out
      have hmo : m = k → ¬ xs.getD k 0 = 0 → Led xs (k + 1) (k + 1) := fun e => by subst e; exact led_more hL.out
      have hba := fun h => led_bad hL.out h hlt
      clear h6 H4
      generalize xs.getD k 0 = x at c0 bd hsn hsk hmo hba
      have Hsn := hid hsn
      have Hsk := hid hsk
      have Hmo := hid hmo
      have Hba := hid hba
      clear hsn hsk hmo hba
      by_cases hx0 : x = 0
      · have t0 : (x == 0) = true := by simp [hx0]
        have Hx0 := hid hx0; clear hx0
        have Ho := hid hown; clear hown
        go_wp2
        go_roundw
        case rel => exact ⟨k + 1, m, by omega, by go_num, hid (Hsk.out Hx0.out), Ho.out, Hx.out⟩
        case measure => simp [intOf]; omega
      · have t0 : (x == 0) = false := by rw [beq_eq_false_iff_ne]; exact hx0
        have hpb := pb_val bd hx0
        have Hpb := hid hpb
        have Hx0 := hid hx0
        clear hpb hx0
        obtain ⟨pv, cv, rfl⟩ := own_shape hown
        by_cases hm : m < k
        · have hbad := Hba.out hm Hx0.out
          have Hbad := hid hbad
          clear hbad hown
          go_wp2
          go_ret2
          exact ⟨by rw [HT.out, HB.out, Hbad.out]; rfl, Hx.out⟩
        · obtain rfl : m = k := by omega
          go_wp2_with (at_builtin; refine wpList_append_own _ rfl _ _ 22 rfl w.heap.size 5 i0 (.int .u8 0) 1 1 Tryd.underlying22 hi hz0 hz1 hz2 rfl (by decide) _ _ _ rfl (hown.alloc _) ⟨_, 0, none⟩ 1 1 [.int .u8 (97 + x - 1)] rfl rfl ?c1 ?c2 ?c3 ?c4 ?c5 ?_)
          case c2 => simp [Value.oneCell']
          case c3 => unfold maxLen; simp; omega
          case c4 => omega
          case c5 => have := Hx.out.size; simp; omega
          intro v' w1 hown' hgrow _
          have hx2 : Ext w w1 := (Hx.out.alloc _).grown hgrow (fun j hj => (hown.lt j hj).1)
          have Hx2 := hid hx2; clear hx2 hgrow
          have hn : vBytes ((xs.take (m + 1)).map pb) = vBytes ((xs.take m).map pb) ++ [.int .u8 (97 + x - 1)] := by rw [Hsn.out]; simp [vBytes, Hpb.out]
          have Hn := hid hn; clear hn
          go_wp2
          go_roundw
          case rel => exact ⟨m + 1, m + 1, by omega, by go_num, hid (Hmo.out (by simp) Hx0.out), by rw [Hn.out, List.map_take]; exact hown', Hx2.out⟩
          case measure => simp [intOf]; omega
    · obtain rfl : k = xs.length := by omega
      obtain ⟨d1, d2⟩ := led_done hL.out
      have D1 := hid d1
      have D2 := hid d2
      clear d1 d2
      have hl2 : m = ((xs.take m).map pb).length := by simp; omega
      have hr := Rd.own hown
      have hcv := conv_rd (P := Tryd.prog) (l := (xs.take m).map pb) Tryd.underlying22 Tryd.underlying5 Tryd.underlying9 hr
      obtain ⟨pv, cv, rfl⟩ := own_shape hown
      clear hl2 hr hown
      go_wp2
      go_ret2
      exact ⟨by rw [HT.out, HB.out, D1.out, if_pos rfl, D2.out, ptext, List.map_take]; rfl, Hx.out⟩
theorem spec_ItemOf (xs : List Int) (v : Value) (w : World) (h : Rd w 1 v xs.length (vInts xs)) (h2 : xs.length ≤ 1048576) :
    Calls Tryd.prog 12 #[v] w fun e w' => e = .returned (.tuple #[.string (ofT xs), .bool (ofB xs)]) ∧ Ext w w' := by
  have Hr := hid h
  clear h
  have hp : Hid (∀ w, Rd w 1 v xs.length (vInts xs) → Calls Tryd.prog 44 #[v] w fun e w' => e = .returned (.bool (isPar xs)) ∧ Ext w w') := fun w h => spec_l24Good xs v w h h2
  cases e1 : isPar xs
  · have hno : ofB xs = false := by rw [ofB, e1]; rfl
    rw [ofT_no hno, hno]
    rw [e1] at hp
    clear hno e1
    go_enter Tryd.func12, Tryd.ntmps12
    go_wp2_with (go_at_call 44; (with_reducible refine (hp.out _ (Hr.out.ext (by repeat' (first | exact Ext.refl _ | assumption | refine Ext.alloc ?_ _ | refine Ext.ext ?_ _ | refine Ext.drew ?_ | refine Ext.drewN ?_ _)))).mono ?_); rintro e w' ⟨rfl, z1, rfl⟩)
    go_ret2
    exact ⟨rfl, (by repeat' (first | exact Ext.refl _ | assumption | refine Ext.alloc ?_ _ | refine Ext.ext ?_ _ | refine Ext.drew ?_ | refine Ext.drewN ?_ _))⟩
  · rw [e1] at hp
    have hf := fun w h => spec_l24Of xs v w h e1
    have hb : ofB xs = okOf xs := by rw [ofB, e1, Bool.true_and]
    have ht : ofT xs = (if okOf xs then ptext (xs.take (lead xs)) else ⟨#[]⟩) := by rw [ofT, hb]
    rw [← ht, ← hb] at hf
    generalize ofT xs = T at *
    generalize ofB xs = B at *
    have Hf := hid hf
    clear e1 hb ht hf
    go_enter Tryd.func12, Tryd.ntmps12
    go_wp2_with (first | (go_at_call 44; (with_reducible refine (hp.out _ (Hr.out.ext (by repeat' (first | exact Ext.refl _ | assumption | refine Ext.alloc ?_ _ | refine Ext.ext ?_ _ | refine Ext.drew ?_ | refine Ext.drewN ?_ _)))).mono ?_); rintro e w' ⟨rfl, z1, rfl⟩) | (go_at_call 45; (with_reducible refine (Hf.out _ (Hr.out.ext (by repeat' (first | exact Ext.refl _ | assumption | refine Ext.alloc ?_ _ | refine Ext.ext ?_ _ | refine Ext.drew ?_ | refine Ext.drewN ?_ _)))).mono ?_); rintro e w' ⟨rfl, z2, rfl⟩))
    go_ret2
    exact ⟨rfl, (by repeat' (first | exact Ext.refl _ | assumption | refine Ext.alloc ?_ _ | refine Ext.ext ?_ _ | refine Ext.drew ?_ | refine Ext.drewN ?_ _))⟩
end Go.Proofs.YthnfdgbmmiddlaaDoor
