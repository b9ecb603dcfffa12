/- A group left: how small the result is. A node joins a group: the lists. -/
import Derived.Test.YtmblofcaiaeiaaaGreatDoorKWLv2
import Derived.Test.YtmblofcaiaeiaaaGreatDoorKWInsG
namespace Go.Proofs.YtmblofcaiaeiaaaGreatDoor
open Go.RowKit
set_option maxHeartbeats 400000
set_option maxRecDepth 100000
def small (D : List Grp) : Prop := D.length ≤ 9 ∧ ∀ i, i < D.length → (D.getD i .z).xs.length ≤ 8
theorem gtot_bd : ∀ (D : List Grp) (m : Nat), (∀ g ∈ D, g.xs.length ≤ m) → gtot D ≤ D.length * (1 + m)
  | [], _, _ => Nat.zero_le _
  | g :: D, m, h => by
    have h1 := gtot_bd D m (fun x hx => h x (by simp [hx]))
    have h2 := h g (by simp)
    have e : gtot (g :: D) = 1 + g.xs.length + gtot D := by simp [gtot]
    rw [e, List.length_cons, Nat.add_mul]
    omega
theorem small_tot {D : List Grp} (h : small D) : gtot D ≤ 81 := by
  have h1 := gtot_bd D 8 (fun g hg => by
    obtain ⟨i, hi, rfl⟩ := List.mem_iff_getElem.1 hg
    have := h.2 i hi
    rwa [List.getD_eq_getElem?_getD, List.getElem?_eq_getElem hi] at this)
  have h2 := h.1
  have h3 : D.length * (1 + 8) ≤ 9 * (1 + 8) := Nat.mul_le_mul_right _ h2
  omega
theorem small_nil : small [] := ⟨by simp, fun i hi => absurd hi (Nat.not_lt_zero _)⟩
theorem small_good {gs : List Grp} (h : goodG gs = true) : small gs := ⟨by have := goodG_len h; omega, fun i hi => by have := (goodG_mem h i hi).2.2.1; omega⟩
theorem small_ers {gs : List Grp} (h : small gs) (k : Nat) (hk : k < gs.length) : small (ers gs k) := by
  refine ⟨by rw [ers_len gs k hk]; have := h.1; omega, fun i hi => ?_⟩
  rw [ers_len gs k hk] at hi
  rw [ers_getD gs k i .z hk]
  split
  · exact h.2 i (by omega)
  · exact h.2 (i + 1) (by omega)
theorem small_set {gs : List Grp} (h : small gs) (k : Nat) (hk : k < gs.length) (g : Grp) (hg : g.xs.length ≤ 8) : small (gs.set k g) := by
  refine ⟨by rw [List.length_set]; exact h.1, fun i hi => ?_⟩
  rw [List.length_set] at hi
  rw [getD_set _ _ _ _ _ hk]
  split
  · exact hg
  · exact h.2 i hi
theorem lvI_small (gs : List Grp) (name : ByteArray) (x : Int) : small (lvI gs name x) := by
  cases h : lvB gs name x
  · rw [lvI_no h]; exact small_nil
  · obtain ⟨hg, ha, -⟩ := lvB_all h
    rw [lvI_yes h]
    split
    · exact small_ers (small_good hg) _ (fhas_get ha).1
    · refine small_set (small_good hg) _ (fhas_get ha).1 _ ?_
      have h1 := memL_small hg name
      have h2 := List.length_filter_le (fun y => !(y == x)) (memL gs name)
      show (lvM gs name x).length ≤ 8
      unfold lvM
      omega
end Go.Proofs.YtmblofcaiaeiaaaGreatDoor
namespace Go.Proofs.YtmblofcaiaeiaaaGreatDoor
open Go.RowKit
set_option maxHeartbeats 400000
set_option maxRecDepth 100000
/-- A list with an element put in at i. -/
def ins {α : Type} (l : List α) (i : Nat) (x : α) : List α := l.take i ++ x :: l.drop i
theorem ins_len {α : Type} (l : List α) (i : Nat) (x : α) (h : i ≤ l.length) : (ins l i x).length = l.length + 1 := by
  rw [ins, List.length_append, List.length_take, List.length_cons, List.length_drop]; omega
theorem ins_getD {α : Type} (l : List α) (i j : Nat) (x z : α) (h : i ≤ l.length) : (ins l i x).getD j z = if j < i then l.getD j z else if j = i then x else l.getD (j - 1) z := by
  rw [ins, List.getD_eq_getElem?_getD]
  split
  · rename_i hj
    rw [List.getElem?_append_left (by rw [List.length_take]; omega), List.getElem?_take, if_pos hj, List.getD_eq_getElem?_getD]
  · rename_i hj
    rw [List.getElem?_append_right (by rw [List.length_take]; omega), List.length_take, Nat.min_eq_left h]
    split
    · rename_i e; subst e; simp
    · obtain ⟨d, rfl⟩ : ∃ d, j = i + d + 1 := ⟨j - i - 1, by omega⟩
      rw [show i + d + 1 - i = d + 1 by omega, List.getElem?_cons_succ, List.getElem?_drop, List.getD_eq_getElem?_getD, show i + d + 1 - 1 = i + d by omega]
theorem ins_cells (cs : List Gc) (i : Nat) (x : Gc) (h : i ≤ cs.length) : (ins cs i x).flatMap Gc.cs = mid (cs.flatMap Gc.cs) x.cs i := by
  rw [ins, mid, gcs_take cs i h, gcs_drop cs i h, List.flatMap_append, List.flatMap_cons, List.append_assoc]
theorem GOw.insert {w w2 : World} {lo hi hi' : Nat} {v r : Value} {gs : List Grp} {cs : List Gc} (h : GOw w lo hi v gs cs) (hhi : hi ≤ w.heap.size) (i : Nat) (hi0 : i ≤ gs.length) (name : ByteArray)
    (ho : w2.ownsRow lo 42 2 r (gs.length + 1) (mid (cs.flatMap Gc.cs) [.string name, .slice none 0 0] i)) (hg : w.grownBy w2 v.ownBlock) (hb : ∀ j, r.ownBlock = some j → v.ownBlock = some j ∨ w.heap.size ≤ j) (h1 : hi ≤ hi') (h2 : w2.heap.size ≤ hi') :
    GOw w2 lo hi' r (ins gs i ⟨name, []⟩) (ins cs i ⟨name, .slice none 0 0⟩) := by
  obtain ⟨hl, hr, hv, hm⟩ := h
  have hlg := ins_len gs i ⟨name, []⟩ hi0
  have hlc := ins_len cs i ⟨name, .slice none 0 0⟩ (by omega)
  refine ⟨by rw [hlg, hlc, hl], by rw [hlg, ins_cells cs i _ (by omega)]; exact ho, fun b e => Nat.lt_of_lt_of_le (own_row ho b e).2 h2, fun k hk => ?_⟩
  rw [hlg] at hk
  have keep : ∀ k, k < gs.length → (cs.getD k .z).s = (gs.getD k .z).s ∧ w2.ownsRow lo 3 1 (cs.getD k .z).u (gs.getD k .z).xs.length (vInts (gs.getD k .z).xs) ∧ (∀ b, (cs.getD k .z).u.ownBlock = some b → b < hi' ∧ r.ownBlock ≠ some b ∧ ∀ j, j < gs.length → j ≠ k → (cs.getD j .z).u.ownBlock ≠ some b) := fun k hk => by
    have hmk := hm k hk
    refine ⟨hmk.1, hmk.2.1.kept hg (by
      cases hb' : (cs.getD k .z).u.ownBlock with
      | none => exact .inl rfl
      | some b => exact .inr (fun e => (hmk.2.2 b hb').2.1 e.symm)), fun b hb' => ⟨Nat.lt_of_lt_of_le (hmk.2.2 b hb').1 h1, fun e => ?_, (hmk.2.2 b hb').2.2⟩⟩
    rcases hb b e with e1 | e1
    · exact (hmk.2.2 b hb').2.1 e1
    · have := (hmk.2.2 b hb').1
      omega
  rw [ins_getD gs i k _ .z hi0, ins_getD cs i k _ .z (by omega)]
  have oth : ∀ (k' : Nat), k' < gs.length → ∀ b, (cs.getD k' .z).u.ownBlock = some b → ∀ j, j < gs.length + 1 → (if j < i then j else j - 1) ≠ k' ∨ j = i → ((ins cs i ⟨name, .slice none 0 0⟩).getD j .z).u.ownBlock ≠ some b := fun k' hk' b hb' j hj hjk => by
    rw [ins_getD cs i j _ .z (by omega)]
    split
    · rename_i e1
      rw [if_pos e1] at hjk
      exact ((keep k' hk').2.2 b hb').2.2 j (by omega) (by omega)
    · rename_i e1
      split
      · intro e; cases e
      · rw [if_neg e1] at hjk
        exact ((keep k' hk').2.2 b hb').2.2 (j - 1) (by omega) (by omega)
  split
  · rename_i e1
    have q := keep k (by omega)
    exact ⟨q.1, q.2.1, fun b hb' => ⟨(q.2.2 b hb').1, (q.2.2 b hb').2.1, fun j hj hjk => oth k (by omega) b hb' j (by omega) (by split <;> omega)⟩⟩
  · rename_i e1
    split
    · exact ⟨rfl, World.ownsRow_nil _ _ _ _, fun b e => (by cases e)⟩
    · rename_i e2
      have q := keep (k - 1) (by omega)
      exact ⟨q.1, q.2.1, fun b hb' => ⟨(q.2.2 b hb').1, (q.2.2 b hb').2.1, fun j hj hjk => oth (k - 1) (by omega) b hb' j (by omega) (by split <;> omega)⟩⟩
def jnJ (gs : List Grp) (name : ByteArray) (x : Int) : List Grp := putG gs ⟨name, put (memL gs name) x⟩
def jgB (gs : List Grp) (name : ByteArray) (x : Int) : Bool := goodG gs && inB x 1 7 && !(memL gs name).contains x && goodG (jnJ gs name x)
def jgI (gs : List Grp) (name : ByteArray) (x : Int) : List Grp := if jgB gs name x then jnJ gs name x else []
theorem jgI_no {gs : List Grp} {name : ByteArray} {x : Int} (h : jgB gs name x = false) : jgI gs name x = [] := by rw [jgI, h]; rfl
theorem jgI_yes {gs : List Grp} {name : ByteArray} {x : Int} (h : jgB gs name x = true) : jgI gs name x = jnJ gs name x := by rw [jgI, h]; rfl
theorem jgI_small (gs : List Grp) (name : ByteArray) (x : Int) : small (jgI gs name x) := by
  cases h : jgB gs name x
  · rw [jgI_no h]; exact small_nil
  · rw [jgI_yes h]
    simp only [jgB, Bool.and_eq_true] at h
    exact small_good h.2
theorem put_some (L : List Int) (x : Int) : ¬ (put L x).length = 0 := fun e => by
  have := (put_mem L x x).2 (.inr rfl)
  rw [List.eq_nil_of_length_eq_zero e] at this
  cases this
theorem gpos_le (gs : List Grp) (name : ByteArray) : gpos gs name ≤ gs.length := List.countP_le_length
theorem memL_none {gs : List Grp} {name : ByteArray} (h : fhas gs name = false) : memL gs name = [] := by rw [memL, h]; rfl
theorem jn_in {gs : List Grp} (hg : goodG gs = true) {name : ByteArray} (ha : fhas gs name = true) (x : Int) : jnJ gs name x = gs.set (fidx gs name) ⟨(gs.getD (fidx gs name) .z).s, put (gs.getD (fidx gs name) .z).xs x⟩ := by
  rw [jnJ, putG_in (goodG_srt hg) ha, if_neg (put_some _ _), ← set_cut _ _ _ (fhas_get ha).1, (fhas_get ha).2, memL_at ha]
theorem jn_out {gs : List Grp} (hg : goodG gs = true) {name : ByteArray} (ha : fhas gs name = false) (x : Int) : jnJ gs name x = ins gs (gpos gs name) ⟨name, put [] x⟩ := by
  rw [jnJ, putG_out (goodG_srt hg) ha _ (put_some _ _), memL_none ha, ins]
theorem ins_set {α : Type} (l : List α) (i : Nat) (x y : α) (h : i ≤ l.length) : (ins l i x).set i y = ins l i y := by
  rw [ins, ins, List.set_append_right _ _ (by rw [List.length_take]; omega), List.length_take, Nat.min_eq_left h, Nat.sub_self, List.set_cons_zero]
theorem jn_name {gs : List Grp} (hg : goodG gs = true) {name : ByteArray} {x : Int} (h : goodG (jnJ gs name x) = true) : gnm name = true := by
  cases ha : fhas gs name
  · rw [jn_out hg ha] at h
    have hp := gpos_le gs name
    have := (okG_all (goodG_ok h (gpos gs name) (by rw [ins_len _ _ _ hp]; omega))).1
    rw [ins_getD _ _ _ _ _ hp, if_neg (Nat.lt_irrefl _), if_pos rfl] at this
    exact this
  · obtain ⟨h1, h2⟩ := fhas_get ha
    have := (okG_all (goodG_ok hg _ h1)).1
    rwa [h2] at this
theorem memL_ok' {gs : List Grp} (h : goodG gs = true) {a : ByteArray} (ha : fhas gs a = true) : asc (memL gs a) ∧ ∀ y ∈ memL gs a, 1 ≤ y ∧ y ≤ 7 := by
  rw [memL_at ha]
  have := goodG_mem h _ (fhas_get ha).1
  exact ⟨this.2.2.2.1, this.2.2.2.2⟩
theorem sum_bd : ∀ (D : List Grp) (m : Nat), (∀ g ∈ D, g.s.size + g.xs.length ≤ m) → Grp.sum D ≤ D.length * m
  | [], _, _ => Nat.zero_le _
  | g :: D, m, h => by
    have h1 := sum_bd D m (fun x hx => h x (by simp [hx]))
    have h2 := h g (by simp)
    have e : Grp.sum (g :: D) = g.s.size + g.xs.length + Grp.sum D := by simp [Grp.sum]
    rw [e, List.length_cons, Nat.add_mul]
    omega
theorem jn_all {gs : List Grp} (hg : goodG gs = true) {name : ByteArray} (x : Int) : (jnJ gs name x).length ≤ 9 ∧ ∀ i, i < (jnJ gs name x).length → (((jnJ gs name x).getD i .z).s.size ≤ 8 ∨ ((jnJ gs name x).getD i .z).s = name) ∧ ((jnJ gs name x).getD i .z).xs.length ≤ 8 := by
  have hl := goodG_len hg
  have hm := memL_small hg name
  have hpl := put_len (memL gs name) x
  have old := fun i hi => goodG_mem hg i hi
  cases ha : fhas gs name
  · rw [jn_out hg ha]
    have hp := gpos_le gs name
    have e : put [] x = put (memL gs name) x := by rw [memL_none ha]
    rw [e, ins_len _ _ _ hp]
    refine ⟨by omega, fun i hi => ?_⟩
    rw [ins_getD _ _ _ _ _ hp]
    split
    · have := old i (by omega); exact ⟨.inl this.1, by omega⟩
    · split
      · exact ⟨.inr rfl, by dsimp only; omega⟩
      · have := old (i - 1) (by omega); exact ⟨.inl this.1, by omega⟩
  · obtain ⟨h1, h2⟩ := fhas_get ha
    rw [jn_in hg ha, List.length_set]
    refine ⟨by omega, fun i hi => ?_⟩
    rw [getD_set _ _ _ _ _ h1]
    split
    · exact ⟨.inr h2, by rw [← memL_at ha]; dsimp only; omega⟩
    · have := old i hi; exact ⟨.inl this.1, by omega⟩
theorem jn_sum {gs : List Grp} (hg : goodG gs = true) {name : ByteArray} (hn : gnm name = true) (x : Int) : Grp.sum (jnJ gs name x) ≤ 1048576 := by
  obtain ⟨a, b⟩ := jn_all hg (name := name) x
  have h1 := sum_bd (jnJ gs name x) 16 (fun g hg' => by
    obtain ⟨i, hi, rfl⟩ := List.mem_iff_getElem.1 hg'
    have := b i hi
    rw [List.getD_eq_getElem?_getD, List.getElem?_eq_getElem hi, Option.getD_some] at this
    have hs : ((jnJ gs name x)[i]).s.size ≤ 8 := by
      rcases this.1 with h | h
      · exact h
      · rw [h]; exact (gnm_size hn).2
    omega)
  omega
end Go.Proofs.YtmblofcaiaeiaaaGreatDoor
