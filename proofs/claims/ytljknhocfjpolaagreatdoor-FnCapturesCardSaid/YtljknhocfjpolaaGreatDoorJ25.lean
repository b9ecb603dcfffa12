/- The reference's membership. Rows that ascend. A row that is sliced, set and grown as a whole; slices.Insert and slices.BinarySearch at ints. -/
import Derived.Test.YtljknhocfjpolaaGreatDoorJ11
import Derived.Shelf.Slices.SearchI
import Derived.Shelf.Slices.Empties
import Derived.Shelf.Spec.SlicesInsertGrow
namespace Go.Proofs.YtljknhocfjpolaaGreatDoor
open Go.RowKit
set_option maxHeartbeats 400000
theorem contains_at {xs : List Int} {k : Nat} (h : k < xs.length) (x : Int) (e : xs.getD k 0 = x) : xs.contains x = true := by
  rw [List.contains_iff_mem, ← e, List.getD_eq_getElem?_getD, List.getElem?_eq_getElem h]; exact List.getElem_mem h
theorem contains_no {xs : List Int} (x : Int) (h : ∀ i, i < xs.length → ¬ xs.getD i 0 = x) : xs.contains x = false := by
  rw [← Bool.not_eq_true, List.contains_iff_mem]
  intro hm
  obtain ⟨i, hi, e⟩ := List.mem_iff_getElem.1 hm
  refine h i hi ?_
  rw [List.getD_eq_getElem?_getD, List.getElem?_eq_getElem hi]; exact e
end Go.Proofs.YtljknhocfjpolaaGreatDoor
namespace Go.Proofs.YtljknhocfjpolaaGreatDoor
open Go.RowKit
set_option maxHeartbeats 400000
def asc (L : List Int) : Prop := L.Pairwise (· < ·)
theorem asc_take {L : List Int} (h : asc L) (k : Nat) (hk : k < L.length) : (L.take k).contains (L.getD k 0) = false := by
  rw [← Bool.not_eq_true, List.contains_iff_mem]
  intro hm
  obtain ⟨i, hi, e⟩ := List.mem_iff_getElem.1 hm
  have hi' : i < k := by rw [List.length_take] at hi; omega
  rw [List.getElem_take, List.getD_eq_getElem?_getD, List.getElem?_eq_getElem hk, Option.getD_some] at e
  have := (List.pairwise_iff_getElem.1 h) i k (by omega) hk hi'
  omega
def put (L : List Int) (x : Int) : List Int := L.filter (fun y => decide (y < x)) ++ x :: L.filter (fun y => decide (x < y))
theorem put_mem (L : List Int) (x y : Int) : y ∈ put L x ↔ y ∈ L ∨ y = x := by
  unfold put
  simp only [List.mem_append, List.mem_filter, List.mem_cons, decide_eq_true_eq]
  constructor
  · rintro (⟨h, _⟩ | rfl | ⟨h, _⟩)
    · exact .inl h
    · exact .inr rfl
    · exact .inl h
  · rintro (h | rfl)
    · rcases Int.lt_trichotomy y x with h1 | h1 | h1
      · exact .inl ⟨h, h1⟩
      · exact .inr (.inl h1)
      · exact .inr (.inr ⟨h, h1⟩)
    · exact .inr (.inl rfl)
theorem put_asc {L : List Int} (h : asc L) (x : Int) : asc (put L x) := by
  unfold asc put
  refine List.pairwise_append.2 ⟨h.filter _, List.pairwise_cons.2 ⟨?_, h.filter _⟩, ?_⟩
  · intro y hy; simpa using (List.mem_filter.1 hy).2
  · intro a ha b hb
    have h1 : a < x := by simpa using (List.mem_filter.1 ha).2
    rcases List.mem_cons.1 hb with rfl | hb
    · exact h1
    · have h2 : x < b := by simpa using (List.mem_filter.1 hb).2
      omega
theorem filter_split {L : List Int} (h : asc L) (x : Int) : L.filter (fun y => decide (y < x)) = L.take (L.countP (fun y => decide (y < x))) ∧ L.filter (fun y => decide (x ≤ y)) = L.drop (L.countP (fun y => decide (y < x))) := by
  induction L with
  | nil => simp
  | cons y L ih =>
    obtain ⟨h1, h2⟩ := List.pairwise_cons.1 h
    obtain ⟨i1, i2⟩ := ih h2
    by_cases hy : y < x
    · have hy' : ¬ x ≤ y := by omega
      simp only [List.filter_cons, hy, hy', decide_true, decide_false, if_true, List.countP_cons_of_pos, List.take_succ_cons, List.drop_succ_cons, Bool.false_eq_true, if_false]
      exact ⟨by rw [i1], i2⟩
    · have hy' : x ≤ y := by omega
      have e0 : L.countP (fun y => decide (y < x)) = 0 := by
        rw [List.countP_eq_zero]
        intro z hz
        have := h1 z hz
        simp; omega
      rw [e0] at i1 i2
      simp only [List.filter_cons, hy, hy', decide_true, decide_false, if_true, Bool.false_eq_true, if_false]
      rw [List.countP_cons_of_neg (p := fun y => decide (y < x)) (by simpa using hy'), e0]
      exact ⟨by rw [i1]; rfl, by rw [i2]; rfl⟩
theorem put_in {L : List Int} (h : asc L) {x : Int} (hx : x ∈ L) : put L x = L := by
  induction L with
  | nil => cases hx
  | cons y L ih =>
    obtain ⟨h1, h2⟩ := List.pairwise_cons.1 h
    unfold put
    rcases List.mem_cons.1 hx with rfl | hx
    · have e1 : (x :: L).filter (fun z => decide (z < x)) = [] := by
        rw [List.filter_eq_nil_iff]
        intro z hz
        rcases List.mem_cons.1 hz with rfl | hz
        · simp
        · have := h1 z hz; simp; omega
      have e2 : (x :: L).filter (fun z => decide (x < z)) = L := by
        rw [List.filter_cons, if_neg (by simp)]
        exact List.filter_eq_self.2 (fun z hz => by simpa using h1 z hz)
      rw [e1, e2]; rfl
    · have hlt := h1 x hx
      have := ih h2 hx
      unfold put at this
      rw [List.filter_cons, if_pos (by simpa using hlt), List.filter_cons, if_neg (by simp; omega), List.cons_append, this]
theorem put_out {L : List Int} (h : asc L) {x : Int} (hx : L.contains x = false) : put L x = L.take (L.countP (fun y => decide (y < x))) ++ x :: L.drop (L.countP (fun y => decide (y < x))) := by
  obtain ⟨h1, h2⟩ := filter_split h x
  unfold put
  rw [h1, ← h2]
  congr 2
  apply List.filter_congr
  intro y hy
  have : y ≠ x := fun e => by subst e; rw [List.contains_iff_mem.2 hy] at hx; cases hx
  rw [Bool.eq_iff_iff]; simp; omega
theorem put_len (L : List Int) (x : Int) : (put L x).length ≤ L.length + 1 := by
  unfold put
  rw [List.length_append, List.length_cons]
  have : (L.filter (fun y => decide (y < x))).length + (L.filter (fun y => decide (x < y))).length ≤ L.length := by
    induction L with
    | nil => simp
    | cons y L ih =>
      simp only [List.filter_cons]
      split <;> split <;> simp_all <;> omega
  omega
theorem rd_lit (w : World) (cs : Array Value) : Rd (w.alloc (.cells cs 3)) 1 (.slice (some ⟨w.heap.size, 0, none⟩) cs.size cs.size) cs.size cs.toList := by
  refine ⟨by simp, _, _, rfl, .inr ⟨w.heap.size, 0, rfl, fun j hj => ?_⟩⟩
  rw [Nat.zero_add, cell_of_row _ _ j _ _ (0, 0) (heap_at _ rfl)]
  simp at hj
  simp [hj]
theorem mem_getD {L : List Int} {k : Nat} (h : k < L.length) : L.getD k 0 ∈ L := by
  rw [List.getD_eq_getElem?_getD, List.getElem?_eq_getElem h]; exact List.getElem_mem h
def slc (a : Option Addr) (l h m : Nat) : Value := .slice (if m = l then a else a.map (·.add (l * 1))) (h - l) (m - l)
theorem own_form {w : World} {base e k n : Nat} {v : Value} {cs : List Value} (h : w.ownsRow base e k v n cs) (hn : 0 < n) : ∃ g cap, v = .slice (some ⟨g, 0, none⟩) n cap := by
  obtain ⟨h1, ⟨rfl, h0⟩ | ⟨g, cap, cur, rfl, hB, _⟩⟩ := h
  · omega
  · exact ⟨g, cap, rfl⟩
end Go.Proofs.YtljknhocfjpolaaGreatDoor
namespace Go.Proofs.YtljknhocfjpolaaGreatDoor
open Go.RowKit
set_option maxHeartbeats 400000
set_option maxRecDepth 100000
theorem own_full {w : World} {base e n g cap : Nat} {cs : List Value} (h : w.ownsRow base e 1 (.slice (some ⟨g, 0, none⟩) n cap) n cs) :
    n ≤ cap ∧ cap ≤ maxLen ∧ ∃ rest, w.ownsRow base e 1 (.slice (some ⟨g, 0, none⟩) cap cap) cap (cs ++ rest) := by
  obtain ⟨h1, ⟨h2, -⟩ | ⟨g', c, cur, h2, hB, hh, hn, hc, hs, ht⟩⟩ := h
  · cases h2
  · cases h2
    refine ⟨hn, hc, cur.toList.drop n, by simp [h1]; omega, .inr ⟨g, cap, cur, rfl, hB, hh, Nat.le_refl _, hc, hs, ?_⟩⟩
    rw [← ht, Nat.mul_one, Nat.mul_one, List.take_append_drop]
    exact List.take_of_length_le (by simp [hs])
theorem own_take {w : World} {base e n g cap : Nat} {cs : List Value} (h : w.ownsRow base e 1 (.slice (some ⟨g, 0, none⟩) cap cap) cap cs) (hn : n ≤ cap) :
    w.ownsRow base e 1 (.slice (some ⟨g, 0, none⟩) n cap) n (cs.take n) := by
  obtain ⟨h1, ⟨h2, -⟩ | ⟨g', c, cur, h2, hB, hh, hn', hc, hs, ht⟩⟩ := h
  · cases h2
  · cases h2
    refine ⟨by simp [h1]; omega, .inr ⟨g, cap, cur, rfl, hB, hh, hn, hc, hs, ?_⟩⟩
    rw [← ht, List.take_take]; congr 1; omega
theorem own_put {w : World} {base e g n cap o : Nat} {cs vs : List Value} (h : w.ownsRow base e 1 (.slice (some ⟨g, 0, none⟩) n cap) n cs) (ho : o + vs.length ≤ cs.length) :
    (w.setCells g o vs).ownsRow base e 1 (.slice (some ⟨g, 0, none⟩) n cap) n (cs.take o ++ vs ++ cs.drop (o + vs.length)) ∧ w.grownBy (w.setCells g o vs) (some g) :=
  own_setCells vs w cs o h ho
def ren25 : Go.Shelf.Ren := ⟨fun x => if x = 25 then 107 else if x = 31 then 129 else if x = 32 then 130 else if x = 37 then 122 else x, fun x => if x = 0 then 0 else if x = 3 then 3 else if x = 4 then 4 else if x = 22 then 41 else if x = 40 then 103 else x, fun x => x⟩
theorem lays25 : Go.Proofs.Lays2.n25 Tryz.prog ren25 := by constructor <;> first | kernel_rfl | (intro w; kernel_rfl)
theorem slices_BinarySearch (L : List Int) (v : Value) (x : Int) (w : World) (h : Rd w 1 v L.length (vInts L)) (ha : asc L) (h2 : L.length ≤ 1048576) :
    Calls Tryz.prog 107 #[v, .int .i64 x] w fun e w' => e = .returned (.tuple #[.int .i64 (L.countP (fun y => decide (y < x)) : Nat), .bool (L.contains x)]) ∧ Ext w w' := by
  obtain ⟨h1, p, cap, rfl, h4⟩ := h
  rcases h4 with h0 | ⟨b, off, rfl, h6⟩
  · have e : L = [] := List.eq_nil_of_length_eq_zero h0
    subst e
    exact (Any.slices_BinarySearch_int_empty lays25 p cap x w).mono fun _ _ ⟨a, b⟩ => ⟨a, b ▸ Ext.refl _⟩
  · have := Any.slices_BinarySearch_int lays25 b off L.length cap L x w (Nat.le_refl _) (by omega) (fun j hj => rd_cells h6 j hj) (by rw [List.take_length]; exact ha.imp (fun h => Int.le_of_lt h))
    rw [List.take_length] at this
    exact this.mono fun _ _ ⟨a, q, b⟩ => ⟨a, by subst b; exact (Ext.refl w).drewN q⟩
def ren21 : Go.Shelf.Ren := ⟨fun x => if x = 21 then 108 else if x = 27 then 131 else if x = 28 then 132 else if x = 35 then 150 else if x = 39 then 165 else x, fun x => if x = 0 then 0 else if x = 3 then 3 else if x = 4 then 4 else if x = 22 then 41 else x, fun x => x⟩
theorem lays21 : Go.Proofs.Lays2.n21 Tryz.prog ren21 := by constructor <;> first | kernel_rfl | (intro w; kernel_rfl)
theorem one_ints (L : List Int) : ∀ u ∈ vInts L, u.oneCell' = true := by
  intro u hu
  obtain ⟨x, -, rfl⟩ := List.mem_map.1 hu
  rfl
theorem slices_Insert (L : List Int) (v : Value) (i : Nat) (x : Int) (vb B : Nat) (w : World) (ho : w.ownsRow B 3 1 v L.length (vInts L)) (hi : i ≤ L.length)
    (hl : w.heap[vb]? = some (.cells #[.int .i64 x] 3 (0, 0))) (hne : v.ownBlock ≠ some vb) (hB : B ≤ w.heap.size) (h2 : L.length ≤ 1048576) :
    Calls Tryz.prog 108 #[v, .int .i64 i, .slice (some ⟨vb, 0, none⟩) 1 1] w fun e w' =>
      ∃ r, e = .returned r ∧ w'.ownsRow B 3 1 r (L.take i ++ x :: L.drop i).length (vInts (L.take i ++ x :: L.drop i)) ∧ w.grownBy w' v.ownBlock ∧ (∀ j, r.ownBlock = some j → v.ownBlock = some j ∨ w.heap.size ≤ j) := by
  have hvs : ∀ j u, [Value.int .i64 x][j]? = some u → w.cell? ⟨vb, 0 + j, none⟩ = some u := by
    intro j u hj
    cases j with
    | zero => simp at hj; subst hj; rw [Nat.zero_add, cell_of_row w vb 0 _ _ _ hl]; rfl
    | succ j => simp at hj
  have h1v : ∀ u ∈ [Value.int .i64 x], u.oneCell' = true := by intro u hu; simp at hu; subst hu; rfl
  have hlen : (L.take i ++ x :: L.drop i).length = L.length + 1 := by simp; omega
  have hmap : vInts (L.take i ++ x :: L.drop i) = (vInts L).take i ++ Value.int .i64 x :: (vInts L).drop i := by simp [vInts, List.map_take, List.map_drop]
  have hvl : (vInts L).length = L.length := vInts_len L
  have hml : maxLen = 9223372036854775807 := rfl
  rw [hlen, hmap]
  have grow : ∀ (base : Option Addr) (cap : Nat), v = .slice base L.length cap → (base = none → L.length = 0) → (∀ a, base = some a → ∀ j u, (vInts L)[j]? = some u → w.cell? (a.add j) = some u) → L.length ≤ cap → cap < L.length + 1 → i = L.length →
      Calls Tryz.prog 108 #[v, .int .i64 i, .slice (some ⟨vb, 0, none⟩) 1 1] w fun e w' =>
      ∃ r, e = .returned r ∧ w'.ownsRow B 3 1 r (L.length + 1) ((vInts L).take i ++ Value.int .i64 x :: (vInts L).drop i) ∧ w.grownBy w' v.ownBlock ∧ (∀ j, r.ownBlock = some j → v.ownBlock = some j ∨ w.heap.size ≤ j) := by
    intro base cap hv hnil hcs hc1 hc2 hin
    subst hv hin
    refine (Any2.slices_Insert_int_end_grow lays21 base L.length cap vb 0 1 1 (vInts L) [.int .i64 x] w (by decide) hc1 hc2 (by omega) hvl rfl hnil hcs hvs h1v).mono ?_
    rintro e w' ⟨rfl, rfl⟩
    refine ⟨_, rfl, ?_, Ext.grownBy ((Ext.refl w).drew.alloc _) _, fun j hj => .inr (by cases hj; exact Nat.le_refl _)⟩
    have hge := grownCap_ge w (L.length + 1) cap (ren21.t 3)
    have hle := grownCap_le_maxLen w (L.length + 1) cap (ren21.t 3) (by omega)
    have hz : (Value.int .i64 0).cells.size = 1 := rfl
    have h0 := World.ownsRow_lit (base := B) (e := ren21.t 3) (size := 1) w.drew ((vInts L ++ [Value.int .i64 x]).toArray ++ Builtin.zeroCells (Value.int .i64 0).cells (grownCap w (L.length + 1) cap (ren21.t 3) - (L.length + 1))) (grownCap w (L.length + 1) cap (ren21.t 3)) hB hle
      (by simp [size_zeroCells, hz, hvl]; omega)
    have h1 := own_take h0 hge
    have e1 : ((vInts L ++ [Value.int .i64 x]).toArray ++ Builtin.zeroCells (Value.int .i64 0).cells (grownCap w (L.length + 1) cap (ren21.t 3) - (L.length + 1))).toList.take (L.length + 1) = (vInts L).take L.length ++ Value.int .i64 x :: (vInts L).drop L.length := by
      rw [Array.toList_append, List.take_append_of_le_length (by simp [hvl])]
      rw [List.take_of_length_le (by simp [hvl]), List.take_of_length_le (by omega), List.drop_of_length_le (by omega)]
    rw [e1] at h1
    exact h1
  have ho' := ho
  obtain ⟨h1, ⟨rfl, h0⟩ | ⟨g, cap, cur, rfl, hBg, hh, hnc, hcm, hcs, hct⟩⟩ := ho
  · exact grow none 0 (by rw [h0]) (fun _ => h0) (fun a h => by cases h) (by omega) (by omega) (by omega)
  · have hcell : ∀ j u, (vInts L)[j]? = some u → w.cell? ⟨g, 0 + j, none⟩ = some u := fun j u hj => by
      rw [Nat.zero_add, ho'.cellAt j (by have := (List.getElem?_eq_some_iff.1 hj).1; omega), hj]
    by_cases hroom : cap < L.length + 1
    · by_cases hie : i = L.length
      · exact grow (some ⟨g, 0, none⟩) cap rfl (fun h => by cases h) (fun a ha j u hj => by cases ha; rw [Addr.add_lit]; exact hcell j u hj) hnc hroom hie
      · refine (Any2.slices_Insert_int_grow lays21 g 0 L.length cap i vb 0 1 1 (vInts L) [.int .i64 x] w (by omega) (by decide) hnc hroom (by omega) hvl rfl hcell hvs (one_ints L) h1v).mono ?_
        rintro e w' ⟨rfl, rfl⟩
        have hge := grownCap_ge w (L.length + 1) cap (ren21.t 3)
        have hle := grownCap_le_maxLen w (L.length + 1) cap (ren21.t 3) (by omega)
        have hz : (Value.int .i64 0).cells.size = 1 := rfl
        generalize hC : grownCap w (L.length + 1) cap (ren21.t 3) = C at *
        have h0 := World.ownsRow_lit (base := B) (e := ren21.t 3) (size := 1) w (((vInts L).take i).toArray ++ Builtin.zeroCells (Value.int .i64 0).cells (L.length + 1 - i) ++ Builtin.zeroCells (Value.int .i64 0).cells (C - (L.length + 1))) C hB hle (by simp [size_zeroCells, hz, hvl]; omega)
        generalize hF : (((vInts L).take i).toArray ++ Builtin.zeroCells (Value.int .i64 0).cells (L.length + 1 - i) ++ Builtin.zeroCells (Value.int .i64 0).cells (C - (L.length + 1))) = F at *
        have hFl : F.size = C := by have := h0.1; simpa using this
        have hFt : F.toList.take i = (vInts L).take i := by
          rw [← hF, Array.toList_append, Array.toList_append, List.append_assoc, List.take_append_of_le_length (by simp [hvl]; omega)]
          exact List.take_of_length_le (by simp; omega)
        have hd := own_ext h0 (show Ext _ (w.alloc (.cells F (ren21.t 3))).drew from (Ext.refl _).drew)
        have s1 := own_put (o := i) (vs := [Value.int .i64 x]) hd (by simp; omega)
        have hd2 := own_ext s1.1 (show Ext _ ((w.alloc (.cells F (ren21.t 3))).drew.setCells w.heap.size i [Value.int .i64 x]).drew from (Ext.refl _).drew)
        have s2 := own_put (o := i + 1) (vs := (vInts L).drop i) hd2 (by simp; omega)
        have s3 := own_take s2.1 hge
        refine ⟨_, rfl, ?_, ?_, fun j hj => .inr (by cases hj; exact Nat.le_refl _)⟩
        · have e1 : ((F.toList.take i ++ [Value.int .i64 x] ++ F.toList.drop (i + [Value.int .i64 x].length)).take (i + 1) ++ (vInts L).drop i ++ (F.toList.take i ++ [Value.int .i64 x] ++ F.toList.drop (i + [Value.int .i64 x].length)).drop (i + 1 + ((vInts L).drop i).length)).take (L.length + 1) = (vInts L).take i ++ Value.int .i64 x :: (vInts L).drop i := by
            have l1 : ((vInts L).take i).length = i := by simp; omega
            rw [hFt, List.take_left' (l₁ := (vInts L).take i ++ [Value.int .i64 x]) (by simp; omega)]
            rw [List.take_left' (l₁ := (vInts L).take i ++ [Value.int .i64 x] ++ (vInts L).drop i) (by simp; omega)]
            simp
          rw [e1] at s3
          exact s3
        · have b1 : w.grownBy (w.alloc (.cells F (ren21.t 3))).drew (some g) := Ext.grownBy ((Ext.refl w).alloc _).drew _
          have hs : Ext w ((w.alloc (.cells F (ren21.t 3))).drew.setCells w.heap.size i [Value.int .i64 x]) := Ext.grown ((Ext.refl w).alloc _).drew s1.2 (fun j hj => by cases hj; exact Nat.le_refl _)
          exact Ext.grownBy (Ext.grown hs.drew s2.2 (fun j hj => by cases hj; exact Nat.le_refl _)) _
    · obtain ⟨-, -, rest, hf⟩ := own_full ho'
      have hfl := hf.1
      rw [List.length_append, hvl] at hfl
      have hfz : ∀ j, j < L.length + 1 → w.frozen? ⟨g, 0 + j, none⟩ = false := fun j _ => by rw [Nat.zero_add]; exact hf.frozenAt j
      have hsp : ∀ j, j < L.length + 1 → (w.cell? ⟨g, 0 + j, none⟩).isSome = true := fun j hj => by
        rw [Nat.zero_add, hf.cellAt j (by omega), List.getElem?_eq_getElem (by rw [hf.1]; omega)]; rfl
      by_cases hie : i = L.length
      · subst hie
        refine (Any2.slices_Insert_int_end_room lays21 g 0 L.length cap vb 0 1 1 [.int .i64 x] w (by decide) (by omega) (by omega) rfl (fun j hj => by rw [Nat.add_assoc]; exact hsp _ (by omega)) (fun j hj => by rw [Nat.add_assoc]; exact hfz _ (by omega)) hvs h1v).mono ?_
        rintro e w' ⟨rfl, rfl⟩
        have s1 := own_put (o := 0 + L.length) (vs := [Value.int .i64 x]) hf (by simp; omega)
        have s3 := own_take (n := L.length + 1) s1.1 (by omega)
        refine ⟨_, rfl, ?_, s1.2, fun j hj => .inl hj⟩
        have e1 : ((vInts L ++ rest).take (0 + L.length) ++ [Value.int .i64 x] ++ (vInts L ++ rest).drop (0 + L.length + [Value.int .i64 x].length)).take (L.length + 1) = (vInts L).take L.length ++ Value.int .i64 x :: (vInts L).drop L.length := by
          rw [Nat.zero_add, List.take_left' (l₁ := (vInts L ++ rest).take L.length ++ [Value.int .i64 x]) (by simp [hvl]), List.take_left' hvl, List.take_of_length_le (l := vInts L) (by omega), List.drop_of_length_le (l := vInts L) (by omega)]
        rw [e1] at s3
        exact s3
      · have hgv : g ≠ vb := fun e => hne (by simp [Value.ownBlock, e])
        obtain ⟨tA, kA, hsa, -, -⟩ := World.shape?_of_cell? (hvs 0 _ rfl)
        have hg0 := hf.cellAt 0 (by omega)
        rw [List.getElem?_eq_getElem (by rw [hf.1]; omega)] at hg0
        obtain ⟨tB, kB, hsb, hkB, -⟩ := World.shape?_of_cell? hg0
        have hsa' : w.shape? vb = some (tA, kA) := hsa
        have hsb' : w.shape? g = some (tB, kB) := hsb
        refine (Any2.slices_Insert_int_shift lays21 g 0 L.length cap i vb 0 1 1 (vInts L) [.int .i64 x] w (by omega) (by decide) (by omega) (by omega) (fun e => hgv e.symm) hvl rfl hcell hsp hfz hvs (one_ints L) h1v tA tB kA kB hsa' hsb' (by intro e; subst e; simp at hkB) (frozen_of_row w vb 0 _ _ hl) (frozen_of_row w vb kA _ _ hl)).mono ?_
        rintro e w' ⟨rfl, rfl⟩
        have hd := own_ext hf (show Ext _ w.drew from (Ext.refl _).drew)
        have s1 := own_put (o := 0 + (i + 1)) (vs := (vInts L).drop i) hd (by simp; omega)
        have s2 := own_put (o := 0 + i) (vs := [Value.int .i64 x]) s1.1 (by simp; omega)
        have s3 := own_take (n := L.length + 1) s2.1 (by omega)
        refine ⟨_, rfl, ?_, grownBy_trans (Ext.grownBy (Ext.refl w).drew _) (grownBy_trans s1.2 s2.2), fun j hj => .inl hj⟩
        have e1 : ((((vInts L ++ rest).take (0 + (i + 1)) ++ (vInts L).drop i ++ (vInts L ++ rest).drop (0 + (i + 1) + ((vInts L).drop i).length)).take (0 + i)) ++ [Value.int .i64 x] ++ (((vInts L ++ rest).take (0 + (i + 1)) ++ (vInts L).drop i ++ (vInts L ++ rest).drop (0 + (i + 1) + ((vInts L).drop i).length)).drop (0 + i + [Value.int .i64 x].length))).take (L.length + 1) = (vInts L).take i ++ Value.int .i64 x :: (vInts L).drop i := by
          generalize hE : (vInts L ++ rest).drop (0 + (i + 1) + ((vInts L).drop i).length) = E
          have l1 : ((vInts L ++ rest).take (i + 1)).length = i + 1 := by simp; omega
          have l2 : ((vInts L ++ rest).take (i + 1)).take i = (vInts L).take i := by rw [List.take_take, Nat.min_eq_left (by omega), List.take_append_of_le_length (by omega)]
          rw [Nat.zero_add, Nat.zero_add]
          generalize (vInts L ++ rest).take (i + 1) = P at *
          have a1 : (P ++ (vInts L).drop i ++ E).take i = (vInts L).take i := by rw [List.append_assoc, List.take_append_of_le_length (by omega), l2]
          have a2 : (P ++ (vInts L).drop i ++ E).drop (i + [Value.int .i64 x].length) = (vInts L).drop i ++ E := by rw [List.append_assoc]; exact List.drop_left' l1
          rw [a1, a2, ← List.append_assoc, List.take_left' (l₁ := (vInts L).take i ++ [Value.int .i64 x] ++ (vInts L).drop i) (by simp; omega)]
          simp
        rw [e1] at s3
        exact s3
end Go.Proofs.YtljknhocfjpolaaGreatDoor
