/- More general words: rows of the call's own across stores into other rows. Readings where a row turns. Plain definitions: data, and what the functions compute. No program is in sight. The smallest functions: what one call of each gives. The laws' helpers on slices of integers: copy, compare, mark, held. -/
import Derived.Test.YtljknhocfjpolaaGreatDoorKit
import Derived.Test.YtljknhocfjpolaaGreatDoorChecked
namespace Go.RowKit
theorem own_row {w : World} {base e k n : Nat} {v : Value} {cs : List Value} (h : w.ownsRow base e k v n cs) : ∀ j, v.ownBlock = some j → base ≤ j ∧ j < w.heap.size := fun j hj => h.lt j hj
theorem own_behind {w w' : World} {base e k n : Nat} {v : Value} {cs : List Value} {row : Option Nat} (h : w.ownsRow base e k v n cs) (hg : w.grownBy w' row) (hr : ∀ j, row = some j → j < base) : w'.ownsRow base e k v n cs := by
  refine h.kept hg ?_
  cases hv : v.ownBlock with
  | none => exact .inl rfl
  | some j =>
    refine .inr fun e => ?_
    have h1 := (h.lt j hv).1
    have h2 := hr j e.symm
    omega
theorem grownBy_set (w : World) (p : Addr) (u : Value) : w.grownBy (w.setCell p u) (some p.block) :=
  ⟨rfl, rfl, rfl, by simp, fun k _ hk => heap_setCell_other w p k u (fun e => hk (by rw [e]))⟩
theorem own_set {w : World} {base e k n : Nat} {v : Value} {cs : List Value} (h : w.ownsRow base e k v n cs) {p : Addr} (hp : p.block < base) (u : Value) : (w.setCell p u).ownsRow base e k v n cs :=
  own_behind h (grownBy_set w p u) (fun j hj => by cases hj; exact hp)
theorem own_shape {w : World} {base e k n : Nat} {v : Value} {cs : List Value} (h : w.ownsRow base e k v n cs) : ∃ p cap, v = .slice p n cap := by
  obtain ⟨h1, ⟨rfl, rfl⟩ | ⟨g, cap, cur, rfl, hB, _⟩⟩ := h
  · exact ⟨_, _, rfl⟩
  · exact ⟨_, _, rfl⟩
/-- A variable of two cells. -/
theorem box2 {w : World} {B t : Nat} {a b : Value} (h : w.heap[B]? = some (.cells #[a, b] t (0, 0))) :
    (w.cell? ⟨B, 0, none⟩ = some a ∧ w.cell? ⟨B, 1, none⟩ = some b) ∧ (w.frozen? ⟨B, 0, none⟩ = false ∧ w.frozen? ⟨B, 1, none⟩ = false) ∧ B < w.heap.size := by
  refine ⟨⟨?_, ?_⟩, ⟨?_, ?_⟩, (Array.getElem?_eq_some_iff.1 h).1⟩
  · rw [cell_of_row w B 0 _ t _ h]; rfl
  · rw [cell_of_row w B 1 _ t _ h]; rfl
  · exact frozen_of_row w B 0 _ t h
  · exact frozen_of_row w B 1 _ t h
theorem box2_set {w : World} {B t : Nat} {a b : Value} (h : w.heap[B]? = some (.cells #[a, b] t (0, 0))) (a' b' : Value) :
    ((w.setCell ⟨B, 0, none⟩ a').setCell ⟨B, 1, none⟩ b').heap[B]? = some (.cells #[a', b'] t (0, 0)) := by
  have h1 := heap_setCell_same _ B 0 _ t a' h
  have h2 := heap_setCell_same _ B 1 _ t b' h1
  simpa using h2
theorem set_other {w : World} {p : Addr} {C : Nat} {o : Obj} (h : w.heap[C]? = some o) (hne : C ≠ p.block) (a : Value) : (w.setCell p a).heap[C]? = some o := by
  rw [heap_setCell_other _ _ _ _ hne, h]
theorem heap_at {w : World} {k : Nat} (o : Obj) (h : k = w.heap.size) : (w.alloc o).heap[k]? = some o := by subst h; exact heap_alloc_new _ _
theorem heap_old {w : World} {k : Nat} {o : Obj} (h : w.heap[k]? = some o) (u : Obj) : (w.alloc u).heap[k]? = some o :=
  (heap_alloc_old _ _ (Array.getElem?_eq_some_iff.1 h).1).trans h
theorem heap_extd {w : World} {k : Nat} {o : Obj} (h : w.heap[k]? = some o) (z : Grow) : (w.ext z).heap[k]? = some o :=
  (World.heap_ext _ _ _ (Array.getElem?_eq_some_iff.1 h).1).trans h
end Go.RowKit
namespace Go.Proofs.YtljknhocfjpolaaGreatDoor
open Go.RowKit
theorem rd_lt {w : World} {k n b o m c : Nat} {u : Value} {cs : List Value} (h : Rd w k u n cs) (hk : 0 < k) (e : u = .slice (some ⟨b, o, none⟩) m c) (hm : 0 < m) : b < w.heap.size := by
  obtain ⟨h1, p, cap, e2, h4⟩ := h
  rw [e] at e2
  cases e2
  obtain ⟨b', o', e3, h6⟩ := h4.resolve_left (by omega)
  cases e3
  have := World.block_lt_of_cell? _ _ (h6 0 (by rw [h1]; exact Nat.mul_pos hm hk))
  exact this
theorem rd_turn {w w' : World} {k n : Nat} {u : Value} {cs : List Value} {row : Option Nat} (h : Rd w k u n cs) (hg : w.grownBy w' row) (hs : ∀ b o m c, u = .slice (some ⟨b, o, none⟩) m c → 0 < m → row ≠ some b) : Rd w' k u n cs := by
  obtain ⟨h1, p, cap, e, h4⟩ := h
  refine ⟨h1, p, cap, e, ?_⟩
  rcases h4 with h4 | ⟨b, o, e2, h6⟩
  · exact .inl h4
  · by_cases h0 : n = 0
    · exact .inl h0
    · subst e2
      exact .inr ⟨b, o, rfl, fun j hj => hg.cell (h6 j hj) (fun e3 => hs b o n cap e (by omega) e3.symm)⟩
end Go.Proofs.YtljknhocfjpolaaGreatDoor
namespace Go.Proofs.YtljknhocfjpolaaGreatDoor
open Go.RowKit
def inB (x a b : Int) : Bool := decide (a ≤ x ∧ x ≤ b)
theorem inB_eq (x a b : Int) : inB x a b = (decide (a ≤ x) && decide (x ≤ b)) := by unfold inB; simp
theorem inB_iff {x a b : Int} : inB x a b = true ↔ a ≤ x ∧ x ≤ b := by unfold inB; simp
structure Dlv where
  r : Int
  g : Int
  p : Int
  l : Int
def Dlv.cs (d : Dlv) : List Value := [.int .i64 d.r, .int .i64 d.g, .int .i64 d.p, .int .i64 d.l]
def Dlv.z : Dlv := ⟨0, 0, 0, 0⟩
def okD (d : Dlv) : Bool := inB d.r 1 7 && inB d.g 0 1000000 && inB d.p 0 d.g && inB d.l 0 1000000
def Dlv.ord (xs : List Dlv) (i : Nat) : Bool := okD (xs.getD i .z) && (i == 0 || decide ((xs.getD (i - 1) .z).r < (xs.getD i .z).r))
def areD (xs : List Dlv) : Bool := (List.range xs.length).all (Dlv.ord xs)
theorem okD_iff {d : Dlv} : okD d = true ↔ (1 ≤ d.r ∧ d.r ≤ 7) ∧ (0 ≤ d.g ∧ d.g ≤ 1000000) ∧ (0 ≤ d.p ∧ d.p ≤ d.g) ∧ (0 ≤ d.l ∧ d.l ≤ 1000000) := by
  simp [okD, inB, and_assoc]
theorem areD_ok {xs : List Dlv} (h : areD xs = true) (i : Nat) (hi : i < xs.length) : okD (xs.getD i .z) = true := by
  have := (List.all_eq_true.1 h) i (List.mem_range.2 hi)
  simp only [Dlv.ord, Bool.and_eq_true] at this
  exact this.1
def perfect (xs : List Dlv) : List Int := (xs.filter (fun d => d.l == 0)).map (·.r)
theorem perfect_snoc (xs : List Dlv) (k : Nat) (h : k < xs.length) : perfect (xs.take (k + 1)) = perfect (xs.take k) ++ (if (xs.getD k .z).l = 0 then [(xs.getD k .z).r] else []) := by
  rw [take_snoc xs .z k h]
  unfold perfect
  rw [List.filter_append, List.map_append]
  congr 1
  generalize xs.getD k .z = d
  by_cases h0 : d.l = 0 <;> simp [h0]
theorem perfect_len (xs : List Dlv) : (perfect xs).length ≤ xs.length := by
  unfold perfect; rw [List.length_map]; exact List.length_filter_le _ _
def tot (f : Dlv → Int) (xs : List Dlv) : Int := (xs.map f).sum
theorem tot_snoc (f : Dlv → Int) (xs : List Dlv) (k : Nat) (h : k < xs.length) : tot f (xs.take (k + 1)) = tot f (xs.take k) + f (xs.getD k .z) := by
  rw [take_snoc xs .z k h]
  simp [tot]
theorem tot_bd (f : Dlv → Int) (xs : List Dlv) (hf : ∀ i, i < xs.length → 0 ≤ f (xs.getD i .z) ∧ f (xs.getD i .z) ≤ 1000000) :
    ∀ k, k ≤ xs.length → 0 ≤ tot f (xs.take k) ∧ tot f (xs.take k) ≤ 1000000 * k
  | 0, _ => by simp [tot]
  | k + 1, h => by
    have h1 := tot_bd f xs hf k (by omega)
    have h2 := hf k (by omega)
    rw [tot_snoc f xs k (by omega)]
    omega
/-- x is worse than m. -/
def worse (m x : Dlv) : Bool := decide (m.l * (x.g + x.l) < x.l * (m.g + m.l)) || ((m.g + m.l == 0) && decide (0 < x.l))
def bestTo (xs : List Dlv) : Nat → Dlv
  | 0 => xs.getD 0 .z
  | k + 1 => if worse (bestTo xs k) (xs.getD (k + 1) .z) then xs.getD (k + 1) .z else bestTo xs k
theorem bestTo_ok {xs : List Dlv} (h : areD xs = true) : ∀ k, k < xs.length → okD (bestTo xs k) = true
  | 0, hk => areD_ok h 0 hk
  | k + 1, hk => by
    unfold bestTo
    split
    · exact areD_ok h _ hk
    · exact bestTo_ok h k (by omega)
theorem worse_iff {m x : Dlv} (hm : okD m = true) (hx : okD x = true) :
    worse m x = decide (m.l * max 1 (x.g + x.l) - x.l * max 1 (m.g + m.l) < 0) := by
  obtain ⟨-, ⟨a1, a2⟩, -, a3, a4⟩ := okD_iff.1 hm
  obtain ⟨-, ⟨b1, b2⟩, -, b3, b4⟩ := okD_iff.1 hx
  unfold worse
  rw [Bool.eq_iff_iff]
  simp only [Bool.or_eq_true, Bool.and_eq_true, decide_eq_true_eq, beq_iff_eq]
  by_cases hM : m.g + m.l = 0
  · have h1 : m.l = 0 := by omega
    rw [hM, h1]
    rw [show max (1 : Int) 0 = 1 by rfl]
    simp only [Int.zero_mul, Int.mul_zero, Int.mul_one, true_and]
    omega
  · have e1 : max 1 (m.g + m.l) = m.g + m.l := by omega
    rw [e1]
    by_cases hX : x.g + x.l = 0
    · have h2 : x.l = 0 := by omega
      rw [hX, h2]
      simp only [Int.zero_mul, Int.mul_zero]
      have : 0 ≤ m.l * max 1 0 := Int.mul_nonneg a3 (by omega)
      omega
    · have e2 : max 1 (x.g + x.l) = x.g + x.l := by omega
      rw [e2]
      omega
end Go.Proofs.YtljknhocfjpolaaGreatDoor
namespace Go.Proofs.YtljknhocfjpolaaGreatDoor
open Go.RowKit
set_option maxHeartbeats 400000
theorem impl_within (x a b : Int) (w : World) : Calls Tryz.prog 60 #[.int .i64 x, .int .i64 a, .int .i64 b] w fun e w' => e = .returned (.bool (inB x a b)) ∧ w = w' := by
  rw [inB_eq]
  go_enter Tryz.func60, Tryz.ntmps60
  go_wp2
  all_goals (go_ret; simp_all; try omega)
theorem spec_l1In (x a b : Int) (w : World) : Calls Tryz.prog 63 #[.int .i64 x, .int .i64 a, .int .i64 b] w fun e w' => e = .returned (.bool (inB x a b)) ∧ w = w' := by
  rw [inB_eq]
  go_enter Tryz.func63, Tryz.ntmps63
  go_wp2
  all_goals (go_ret; simp_all; try omega)
theorem impl_isFace (x : Int) (w : World) : Calls Tryz.prog 53 #[.int .i64 x] w fun e w' => e = .returned (.bool (inB x 1 7)) ∧ w = w' := by
  go_enter Tryz.func53, Tryz.ntmps53
  go_wp2_with (go_at_call 60; refine (impl_within _ _ _ _).mono ?_; rintro e w' ⟨rfl, rfl⟩)
  go_ret
  simp
theorem spec_l21Node (x : Int) (w : World) : Calls Tryz.prog 65 #[.int .i64 x] w fun e w' => e = .returned (.bool (inB x 1 7)) ∧ w = w' := by
  go_enter Tryz.func65, Tryz.ntmps65
  go_wp2_with (go_at_call 63; refine (spec_l1In _ _ _ _).mono ?_; rintro e w' ⟨rfl, rfl⟩)
  go_ret
  simp
end Go.Proofs.YtljknhocfjpolaaGreatDoor
namespace Go.Proofs.YtljknhocfjpolaaGreatDoor
open Go.RowKit
set_option maxHeartbeats 400000
theorem infoInt : (Tryz.prog.info? 3).map (fun i => (i.zero, i.size, i.bytes)) = some (some (.int .i64 0), 1, 8) := by kernel_rfl
theorem infoU8 : (Tryz.prog.info? 5).map (fun i => (i.zero, i.size, i.bytes)) = some (some (.int .u8 0), 1, 1) := by kernel_rfl
def vInts (xs : List Int) : List Value := xs.map (Value.int .i64)
theorem vInts_len (xs : List Int) : (vInts xs).length = xs.length := by simp [vInts]
theorem vInts_get (xs : List Int) (i : Nat) (h : i < xs.length) : (vInts xs)[i]? = some (.int .i64 (xs.getD i 0)) := by
  simp [vInts, h]
def marks : Nat → Int → List Int
  | 0, _ => []
  | n + 1, k => k :: marks n (k + 1)
theorem marks_len (n : Nat) (k : Int) : (marks n k).length = n := by
  induction n generalizing k with
  | zero => rfl
  | succ n ih => simp [marks, ih]
theorem marks_getD (n : Nat) (k : Int) (i : Nat) (h : i < n) : (marks n k).getD i 0 = k + i := by
  induction n generalizing k i with
  | zero => omega
  | succ n ih =>
    cases i with
    | zero => simp [marks]
    | succ i => simp only [marks, List.getD_cons_succ]; rw [ih _ _ (by omega)]; omega
theorem marks_get (n : Nat) (k : Int) (i : Nat) (h : i < n) : (vInts (marks n k))[i]? = some (.int .i64 (k + i)) := by
  rw [vInts_get _ _ (by rw [marks_len]; exact h), marks_getD _ _ _ h]
set_option maxRecDepth 100000 in
/-- A slice of ints that came in. -/
theorem opened_ints {H : Type} {enc : TypeId × Value → H} {W : World} {v : Value} {d : DataW H} {ps : List MemPlace} {r : Reach} {b : Nat} (hval : Value.okWide Tryz.prog W r b 41 v)
    (h : DataW.Trod enc Tryz.prog W 0 (fun _ => true) true 41 v d ps) : ∃ xs : List Int, Rd W 1 v xs.length (vInts xs) ∧ xs.length ≤ maxLen := by
  obtain ⟨fuel, h⟩ := h
  obtain ⟨a, len, cap, rfl⟩ := Go.WideShapes.okWide_slice Tryz.underlying41 hval
  obtain ⟨css, h1, h2, h3⟩ := rd_of_trod (d := 3) Tryz.underlying41 (ks := [.i .i64]) (by kernel_rfl) (by kernel_rfl) (by decide) h
  obtain ⟨xs, rfl, -⟩ := exists_map (f := fun x => [Value.int .i64 x]) (ok := fun _ => True) (l := css) (fun cs hcs => by
    obtain ⟨a, rfl, ⟨a, rfl, -⟩⟩ := (h1 cs hcs).one
    exact ⟨a, rfl, trivial⟩)
  have e : vInts xs = xs.flatMap (fun x => [Value.int .i64 x]) := by
    clear h1 h2 h3
    unfold vInts
    induction xs with
    | nil => rfl
    | cons x xs ih => rw [List.map_cons, List.flatMap_cons, ih]; rfl
  exact ⟨xs, by rw [e]; exact h2.map, by simpa using h3⟩
end Go.Proofs.YtljknhocfjpolaaGreatDoor
