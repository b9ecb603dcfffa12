/- Families of rows of the call's own, each apart from the others. Plain definitions: data, and what the functions compute. No program is in sight. The smallest functions: what one call of each gives. -/
import Derived.Test.YtnngklclehffhaaDoorJ2
import Derived.Test.YtnngklclehffhaaDoorKit
import Derived.Test.YtnngklclehffhaaDoorChecked
namespace Go.Proofs.YtnngklclehffhaaDoor
open Go.RowKit
set_option maxHeartbeats 400000
/-- A row: the element's type, its cells, the slice, its length, what it holds. -/
structure Row where
  e : Nat
  k : Nat
  v : Value
  n : Nat
  cs : List Value
def Row.own (r : Row) (w : World) (lo : Nat) : Prop := w.ownsRow lo r.e r.k r.v r.n r.cs
def Row.apart (a b : Row) : Prop := ∀ j, a.v.ownBlock = some j → b.v.ownBlock ≠ some j
theorem Row.apart.symm {a b : Row} (h : a.apart b) : b.apart a := fun j hb ha => h j ha hb
def Fam (w : World) (lo hi : Nat) (rs : List Row) : Prop := (∀ r ∈ rs, r.own w lo ∧ ∀ j, r.v.ownBlock = some j → j < hi) ∧ rs.Pairwise Row.apart
theorem Fam.own {w : World} {lo hi : Nat} {rs : List Row} (h : Fam w lo hi rs) {r : Row} (hr : r ∈ rs) : r.own w lo := (h.1 r hr).1
theorem Fam.lt {w : World} {lo hi : Nat} {rs : List Row} (h : Fam w lo hi rs) {r : Row} (hr : r ∈ rs) {j : Nat} (e : r.v.ownBlock = some j) : lo ≤ j ∧ j < hi ∧ j < w.heap.size :=
  ⟨(own_row (h.1 r hr).1 j e).1, (h.1 r hr).2 j e, (own_row (h.1 r hr).1 j e).2⟩
theorem Fam.ext {w w' : World} {lo hi : Nat} {rs : List Row} (h : Fam w lo hi rs) (hx : Ext w w') : Fam w' lo hi rs := ⟨fun r hr => ⟨own_ext (h.1 r hr).1 hx, (h.1 r hr).2⟩, h.2⟩
theorem Fam.wide {w : World} {lo lo' hi hi' : Nat} {rs : List Row} (h : Fam w lo hi rs) (h1 : lo' ≤ lo) (h2 : hi ≤ hi') : Fam w lo' hi' rs :=
  ⟨fun r hr => ⟨own_mono (h.1 r hr).1 h1, fun j e => Nat.lt_of_lt_of_le ((h.1 r hr).2 j e) h2⟩, h.2⟩
theorem Fam.turned {w w' : World} {lo hi lo' hi' : Nat} {rs : List Row} (h : Fam w lo hi rs) (ht : Turn lo' hi' w w') (hd : hi' ≤ lo ∨ hi ≤ lo') : Fam w' lo hi rs :=
  ⟨fun r hr => ⟨own_turned (h.1 r hr).1 ht (fun j e => by have := h.lt hr e; omega), (h.1 r hr).2⟩, h.2⟩
theorem Fam.sub {w : World} {lo hi : Nat} {rs qs : List Row} (h : Fam w lo hi rs) (hs : qs.Sublist rs) : Fam w lo hi qs := ⟨fun r hr => h.1 r (hs.subset hr), h.2.sublist hs⟩
theorem Fam.nil (w : World) (lo hi : Nat) : Fam w lo hi [] := ⟨fun _ h => (by cases h), List.Pairwise.nil⟩
/-- Another block turned, that none of them has. -/
theorem Fam.grown {w w' : World} {lo hi : Nat} {rs : List Row} {row : Option Nat} (h : Fam w lo hi rs) (hg : w.grownBy w' row) (hr : ∀ r ∈ rs, ∀ j, r.v.ownBlock = some j → row ≠ some j) : Fam w' lo hi rs :=
  ⟨fun r hm => ⟨(h.1 r hm).1.kept hg (by
    cases hv : r.v.ownBlock with
    | none => exact .inl rfl
    | some j => exact .inr (fun e => hr r hm j hv (by first | exact e | exact e.symm))), (h.1 r hm).2⟩, h.2⟩
theorem pair_mid {α : Type} {R : α → α → Prop} (hs : ∀ a b, R a b → R b a) {A B : List α} {x : α} : (A ++ x :: B).Pairwise R ↔ (A ++ B).Pairwise R ∧ ∀ y ∈ A ++ B, R y x := by
  rw [List.pairwise_append, List.pairwise_append, List.pairwise_cons]
  constructor
  · rintro ⟨h1, ⟨h2, h3⟩, h4⟩
    refine ⟨⟨h1, h3, fun a ha b hb => h4 a ha b (by simp [hb])⟩, fun y hy => ?_⟩
    rcases List.mem_append.1 hy with h | h
    · exact h4 y h x (by simp)
    · exact hs _ _ (h2 y h)
  · rintro ⟨⟨h1, h2, h3⟩, h4⟩
    refine ⟨h1, ⟨fun b hb => hs _ _ (h4 b (by simp [hb])), h2⟩, fun a ha b hb => ?_⟩
    rcases List.mem_cons.1 hb with rfl | hb
    · exact h4 a (by simp [ha])
    · exact h3 a ha b hb
theorem Fam.mid {w : World} {lo hi : Nat} {A B : List Row} {x : Row} (h : Fam w lo hi (A ++ x :: B)) : Fam w lo hi (A ++ B) ∧ ∀ y ∈ A ++ B, y.apart x :=
  ⟨h.sub (by simp), (pair_mid (fun _ _ h => Row.apart.symm h)).1 h.2 |>.2⟩
/-- One row more, at any place. -/
theorem Fam.put {w : World} {lo hi : Nat} {A B : List Row} {x : Row} (h : Fam w lo hi (A ++ B)) (ho : x.own w lo) (hb : ∀ j, x.v.ownBlock = some j → j < hi) (ha : ∀ y ∈ A ++ B, y.apart x) : Fam w lo hi (A ++ x :: B) := by
  refine ⟨fun r hr => ?_, (pair_mid (fun _ _ h => Row.apart.symm h)).2 ⟨h.2, ha⟩⟩
  rcases List.mem_append.1 hr with h1 | h1
  · exact h.1 r (by simp [h1])
  · rcases List.mem_cons.1 h1 with rfl | h1
    · exact ⟨ho, hb⟩
    · exact h.1 r (by simp [h1])
/-- A row that begins behind all others. -/
theorem Fam.putNew {w : World} {lo hi hi' : Nat} {A B : List Row} {x : Row} (h : Fam w lo hi (A ++ B)) (hh : hi ≤ hi') (ho : x.own w lo) (hb : ∀ j, x.v.ownBlock = some j → hi ≤ j ∧ j < hi') : Fam w lo hi' (A ++ x :: B) := by
  refine (h.wide (Nat.le_refl _) hh).put ho (fun j e => (hb j e).2) (fun y hy j hj e => ?_)
  have := (h.1 y hy).2 j hj
  have := (hb j e).1
  omega
/-- A row that turned in its place (or moved behind all others). -/
theorem Fam.turn {w w' : World} {lo hi hi' : Nat} {A B : List Row} {x y : Row} (h : Fam w lo hi (A ++ x :: B)) (hh : hi ≤ hi') (hg : w.grownBy w' x.v.ownBlock) (ho : y.own w' lo) (hb : ∀ j, y.v.ownBlock = some j → (x.v.ownBlock = some j ∨ hi ≤ j) ∧ j < hi') : Fam w' lo hi' (A ++ y :: B) := by
  obtain ⟨h1, h2⟩ := h.mid
  refine ((h1.wide (Nat.le_refl _) hh).grown hg (fun r hr j e e2 => h2 r hr j e e2)).put ho (fun j e => (hb j e).2) (fun r hr j hj e => ?_)
  rcases (hb j e).1 with h3 | h3
  · exact h2 r hr j hj h3
  · have := (h1.1 r hr).2 j hj
    omega
end Go.Proofs.YtnngklclehffhaaDoor
namespace Go.Proofs.YtnngklclehffhaaDoor
open Go.RowKit
def inB (x a b : Int) : Bool := decide (a ≤ x ∧ x ≤ b)
theorem inB_eq (x a b : Int) : inB x a b = (decide (a ≤ x) && decide (x ≤ b)) := by unfold inB; simp
theorem inB_iff {x a b : Int} : inB x a b = true ↔ a ≤ x ∧ x ≤ b := by unfold inB; simp
structure Dlv where
  r : Int
  g : Int
  p : Int
  l : Int
def Dlv.cs (d : Dlv) : List Value := [.int .i64 d.r, .int .i64 d.g, .int .i64 d.p, .int .i64 d.l]
def Dlv.z : Dlv := ⟨0, 0, 0, 0⟩
def okD (d : Dlv) : Bool := inB d.r 1 7 && inB d.g 0 1000000 && inB d.p 0 d.g && inB d.l 0 1000000
def Dlv.ord (xs : List Dlv) (i : Nat) : Bool := okD (xs.getD i .z) && (i == 0 || decide ((xs.getD (i - 1) .z).r < (xs.getD i .z).r))
def areD (xs : List Dlv) : Bool := (List.range xs.length).all (Dlv.ord xs)
theorem okD_iff {d : Dlv} : okD d = true ↔ (1 ≤ d.r ∧ d.r ≤ 7) ∧ (0 ≤ d.g ∧ d.g ≤ 1000000) ∧ (0 ≤ d.p ∧ d.p ≤ d.g) ∧ (0 ≤ d.l ∧ d.l ≤ 1000000) := by
  simp [okD, inB, and_assoc]
theorem areD_ok {xs : List Dlv} (h : areD xs = true) (i : Nat) (hi : i < xs.length) : okD (xs.getD i .z) = true := by
  have := (List.all_eq_true.1 h) i (List.mem_range.2 hi)
  simp only [Dlv.ord, Bool.and_eq_true] at this
  exact this.1
def perfect (xs : List Dlv) : List Int := (xs.filter (fun d => d.l == 0)).map (·.r)
theorem perfect_snoc (xs : List Dlv) (k : Nat) (h : k < xs.length) : perfect (xs.take (k + 1)) = perfect (xs.take k) ++ (if (xs.getD k .z).l = 0 then [(xs.getD k .z).r] else []) := by
  rw [take_snoc xs .z k h]
  unfold perfect
  rw [List.filter_append, List.map_append]
  congr 1
  generalize xs.getD k .z = d
  by_cases h0 : d.l = 0 <;> simp [h0]
theorem perfect_len (xs : List Dlv) : (perfect xs).length ≤ xs.length := by
  unfold perfect; rw [List.length_map]; exact List.length_filter_le _ _
def tot (f : Dlv → Int) (xs : List Dlv) : Int := (xs.map f).sum
theorem tot_snoc (f : Dlv → Int) (xs : List Dlv) (k : Nat) (h : k < xs.length) : tot f (xs.take (k + 1)) = tot f (xs.take k) + f (xs.getD k .z) := by
  rw [take_snoc xs .z k h]
  simp [tot]
theorem tot_bd (f : Dlv → Int) (xs : List Dlv) (hf : ∀ i, i < xs.length → 0 ≤ f (xs.getD i .z) ∧ f (xs.getD i .z) ≤ 1000000) :
    ∀ k, k ≤ xs.length → 0 ≤ tot f (xs.take k) ∧ tot f (xs.take k) ≤ 1000000 * k
  | 0, _ => by simp [tot]
  | k + 1, h => by
    have h1 := tot_bd f xs hf k (by omega)
    have h2 := hf k (by omega)
    rw [tot_snoc f xs k (by omega)]
    omega
/-- x is worse than m. -/
def worse (m x : Dlv) : Bool := decide (m.l * (x.g + x.l) < x.l * (m.g + m.l)) || ((m.g + m.l == 0) && decide (0 < x.l))
def bestTo (xs : List Dlv) : Nat → Dlv
  | 0 => xs.getD 0 .z
  | k + 1 => if worse (bestTo xs k) (xs.getD (k + 1) .z) then xs.getD (k + 1) .z else bestTo xs k
theorem bestTo_ok {xs : List Dlv} (h : areD xs = true) : ∀ k, k < xs.length → okD (bestTo xs k) = true
  | 0, hk => areD_ok h 0 hk
  | k + 1, hk => by
    unfold bestTo
    split
    · exact areD_ok h _ hk
    · exact bestTo_ok h k (by omega)
theorem worse_iff {m x : Dlv} (hm : okD m = true) (hx : okD x = true) :
    worse m x = decide (m.l * max 1 (x.g + x.l) - x.l * max 1 (m.g + m.l) < 0) := by
  obtain ⟨-, ⟨a1, a2⟩, -, a3, a4⟩ := okD_iff.1 hm
  obtain ⟨-, ⟨b1, b2⟩, -, b3, b4⟩ := okD_iff.1 hx
  unfold worse
  rw [Bool.eq_iff_iff]
  simp only [Bool.or_eq_true, Bool.and_eq_true, decide_eq_true_eq, beq_iff_eq]
  by_cases hM : m.g + m.l = 0
  · have h1 : m.l = 0 := by omega
    rw [hM, h1]
    rw [show max (1 : Int) 0 = 1 by rfl]
    simp only [Int.zero_mul, Int.mul_zero, Int.mul_one, true_and]
    omega
  · have e1 : max 1 (m.g + m.l) = m.g + m.l := by omega
    rw [e1]
    by_cases hX : x.g + x.l = 0
    · have h2 : x.l = 0 := by omega
      rw [hX, h2]
      simp only [Int.zero_mul, Int.mul_zero]
      have : 0 ≤ m.l * max 1 0 := Int.mul_nonneg a3 (by omega)
      omega
    · have e2 : max 1 (x.g + x.l) = x.g + x.l := by omega
      rw [e2]
      omega
end Go.Proofs.YtnngklclehffhaaDoor
namespace Go.Proofs.YtnngklclehffhaaDoor
open Go.RowKit
set_option maxHeartbeats 400000
theorem impl_within (x a b : Int) (w : World) : Calls Tryd.prog 88 #[.int .i64 x, .int .i64 a, .int .i64 b] w fun e w' => e = .returned (.bool (inB x a b)) ∧ w = w' := by
  rw [inB_eq]
  go_enter Tryd.func88, Tryd.ntmps88
  go_wp2
  all_goals (go_ret; simp_all; try omega)
theorem spec_l1In (x a b : Int) (w : World) : Calls Tryd.prog 86 #[.int .i64 x, .int .i64 a, .int .i64 b] w fun e w' => e = .returned (.bool (inB x a b)) ∧ w = w' := by
  rw [inB_eq]
  go_enter Tryd.func86, Tryd.ntmps86
  go_wp2
  all_goals (go_ret; simp_all; try omega)
end Go.Proofs.YtnngklclehffhaaDoor
