/- Words of my own for worlds that only grow, for readings of arguments, and for the frame of a law's proof. Nothing here speaks of one program. -/
import Derived.WalkKit
import Derived.ProofKit
import Derived.OpenShut
import Derived.ShutString
import Derived.Handy
import Derived.BigQuiet
import Derived.ChangeOld
import Derived.Deep.RegionHeld3
namespace Go
structure Grow where
  x : Array Obj
  d : Nat
instance : Nonempty Grow := ⟨⟨#[], 0⟩⟩
/-- w with further blocks z.x behind its own, and its count of draws at z.d. -/
def World.ext (w : World) (z : Grow) : World := { w with heap := w.heap ++ z.x, drawn := z.d }
theorem World.heap_ext (w : World) (z : Grow) (k : Nat) (h : k < w.heap.size) : (w.ext z).heap[k]? = w.heap[k]? := by
  simp [World.ext, Array.getElem?_append, h]
theorem World.size_ext (w : World) (z : Grow) : (w.ext z).heap.size = w.heap.size + z.x.size := by simp [World.ext]
/-- What a block behind w's own holds, in 'w.ext z'. -/
def World.newCell (w : World) (z : Grow) (a : Addr) : Option Value := if a.block < w.heap.size then none else (w.ext z).cell? a
theorem World.cell?_ext (w : World) (z : Grow) (a : Addr) : (w.ext z).cell? a = (w.cell? a).or (w.newCell z a) := by
  unfold World.newCell
  cases hc : w.cell? a with
  | some u => rw [World.cell?_of_block (World.heap_ext w z _ (World.block_lt_of_cell? w a hc)), hc]; rfl
  | none =>
    split
    · rename_i h
      rw [World.cell?_of_block (World.heap_ext w z _ h), hc]; rfl
    · rfl
attribute [go_sem] World.cell?_ext
theorem World.alloc_ext (w : World) (o : Obj) : w.alloc o = w.ext ⟨#[o], w.drawn⟩ := by unfold World.ext World.alloc; simp only [Array.append_singleton]
theorem World.cell?_alloc_or (w : World) (o : Obj) (a : Addr) : (w.alloc o).cell? a = (w.cell? a).or (w.newCell ⟨#[o], w.drawn⟩ a) := by
  rw [World.alloc_ext, World.cell?_ext]
attribute [go_sem low] World.cell?_alloc_or
namespace RowKit
theorem hid {p : Prop} (h : p) : Hid p := h
/-- w' is w with further blocks: nothing that was there has turned. -/
def Ext (w w' : World) : Prop := ∃ z, w' = w.ext z
theorem Ext.below {w w' : World} (h : Ext w w') : Below w.heap.size w w' := by
  obtain ⟨z, rfl⟩ := h
  exact ⟨rfl, rfl, rfl, by simp [World.size_ext], fun k hk => World.heap_ext w z k hk⟩
theorem Below.ext {w w' : World} (h : Below w.heap.size w w') : Ext w w' := by
  refine ⟨⟨w'.heap.extract w.heap.size w'.heap.size, w'.drawn⟩, ?_⟩
  obtain ⟨h1, h2, h3, h4, h5⟩ := h
  have hh : w'.heap = w.heap ++ w'.heap.extract w.heap.size w'.heap.size := by
    apply Array.ext_getElem?
    intro i
    rw [Array.getElem?_append]
    split
    · rename_i hi; exact h5 i hi
    · rename_i hi
      rw [Array.getElem?_extract]
      split
      · congr 1; omega
      · rename_i h6; exact Array.getElem?_eq_none (by omega)
  cases w'
  simp only [World.ext] at *
  subst h1 h2 h3
  rw [← hh]
theorem Ext.refl (w : World) : Ext w w := (Below.refl _ _).ext
theorem Ext.trans {a b c : World} (h : Ext a b) (k : Ext b c) : Ext a c := (h.below.trans (k.below.mono h.below.size)).ext
theorem Ext.alloc {a w : World} (h : Ext a w) (o : Obj) : Ext a (w.alloc o) := (h.below.alloc h.below.size o).ext
theorem Ext.drew {a w : World} (h : Ext a w) : Ext a w.drew := (h.below.drew).ext
theorem Ext.drewN {a w : World} (h : Ext a w) (n : Nat) : Ext a (w.drewN n) := h.trans ⟨⟨#[], w.drawn + n⟩, by simp [World.ext, World.drewN]⟩
theorem Ext.ext {a w : World} (h : Ext a w) (z : Grow) : Ext a (w.ext z) := h.trans ⟨z, rfl⟩
theorem Ext.setCell {a w : World} (h : Ext a w) {p : Addr} (hp : a.heap.size ≤ p.block) (u : Value) : Ext a (w.setCell p u) := (h.below.setCell hp u).ext
theorem Ext.grown {a w w' : World} {row : Option Nat} (h : Ext a w) (hg : w.grownBy w' row) (hr : ∀ k, row = some k → a.heap.size ≤ k) : Ext a w' :=
  (h.below.grown hg h.below.size hr).ext
theorem Ext.size {w w' : World} (h : Ext w w') : w.heap.size ≤ w'.heap.size := h.below.size
theorem Ext.cell {w a : World} (h : Ext w a) {p : Addr} {v : Value} (hc : w.cell? p = some v) : a.cell? p = some v :=
  (h.below.cell (World.block_lt_of_cell? w p hc)).trans hc
theorem Ext.grownBy {w a : World} (h : Ext w a) (row : Option Nat) : w.grownBy a row :=
  ⟨h.below.os, h.below.tape, h.below.output, h.below.size, fun k hk _ => h.below.block k hk⟩
/-- A region that draws its order, whose operations read and whose callees only add blocks: walked once in the order of the text. -/
theorem wp_region_ext {P : Program} {id : Nat} {Q : Exit → Act → World → Prop} {a : Act} {w : World} {l : List Oper} (hm : P.follows .mixedOrders = true) (hB : Region.lexB .any l.toArray = true)
    (h : wpQuiet P l.toArray (fun w' => ∃ z, w' = w.ext z) (fun a' => ∀ w', (∃ z, w' = w.ext z) → Q .normal a' w') l a) : (Code.region id l.toArray true).wp P Q a w :=
  wp_region_quiet (C := fun w' => ∃ z, w' = w.ext z) hm hB ⟨⟨#[], w.drawn + 1⟩, by simp [World.ext]⟩ (by simpa using h)
/-- A callee's contract, met in a world further on. -/
theorem Calls.quiet_ext {P : Program} {f : FuncId} {args : Array Value} {w : World} {z : Grow} {v : Value}
    (h : Calls P f args (w.ext z) fun e w' => e = .returned v ∧ Ext (w.ext z) w') : Calls P f args (w.ext z) fun e w'' => e = .returned v ∧ ∃ z, w'' = w.ext z :=
  h.mono fun _ _ ⟨he, hx⟩ => ⟨he, (Ext.ext (Ext.refl w) z).trans hx⟩
theorem Calls.quiet_same {P : Program} {f : FuncId} {args : Array Value} {w : World} {z : Grow} {v : Value}
    (h : Calls P f args (w.ext z) fun e w' => e = .returned v ∧ w.ext z = w') : Calls P f args (w.ext z) fun e w'' => e = .returned v ∧ ∃ z, w'' = w.ext z :=
  h.mono fun _ _ ⟨he, hx⟩ => ⟨he, z, hx.symm⟩

/-! ### Readings of slices -/
/-- A slice value that reads as n elements of k cells each, the cells cs. -/
def Rd (w : World) (k : Nat) (v : Value) (n : Nat) (cs : List Value) : Prop :=
  cs.length = n * k ∧ ∃ p cap, v = .slice p n cap ∧ (n = 0 ∨ ∃ b off, p = some ⟨b, off, none⟩ ∧ ∀ j (h : j < cs.length), w.cell? ⟨b, off + j, none⟩ = some cs[j])
theorem Rd.ext {w a : World} {k v n cs} (h : Rd w k v n cs) (hb : Ext w a) : Rd a k v n cs := by
  obtain ⟨h1, p, cap, h3, h4⟩ := h
  refine ⟨h1, p, cap, h3, ?_⟩
  rcases h4 with h4 | ⟨b, off, h5, h6⟩
  · exact .inl h4
  · exact .inr ⟨b, off, h5, fun j hj => hb.cell (h6 j hj)⟩
theorem Rd.nil (w : World) (k : Nat) (p : Option Addr) (cap : Nat) : Rd w k (.slice p 0 cap) 0 [] := ⟨by simp, p, cap, rfl, .inl rfl⟩
/-- What the call owns it can read. -/
theorem Rd.own {w : World} {base e k n : Nat} {v : Value} {cs : List Value} (h : w.ownsRow base e k v n cs) : Rd w k v n cs := by
  have hc := fun g hg => h.cells (g := g) hg
  obtain ⟨h1, h2⟩ := h
  refine ⟨h1, ?_⟩
  rcases h2 with ⟨rfl, rfl⟩ | ⟨g, cap, cur, rfl, _⟩
  · exact ⟨none, 0, rfl, .inl rfl⟩
  · refine ⟨_, cap, rfl, .inr ⟨g, 0, rfl, fun j hj => ?_⟩⟩
    have := hc g rfl j _ (List.getElem?_eq_getElem hj)
    rw [Addr.add] at this
    split at this
    · rename_i h0; subst h0; exact this
    · exact this
theorem flat_get {α : Type} (enc : α → List Value) (z : α) (k : Nat) (hk : ∀ x, (enc x).length = k) (xs : List α) (i j : Nat) (hi : i < xs.length) (hj : j < k) :
    (xs.flatMap enc)[i * k + j]? = (enc (xs.getD i z))[j]? := by
  induction xs generalizing i with
  | nil => simp at hi
  | cons x xs ih =>
    cases i with
    | zero => simp [List.getElem?_append, hk, hj]
    | succ i =>
      have : (i + 1) * k + j = k + (i * k + j) := by rw [Nat.add_mul]; omega
      simp only [List.flatMap_cons, this]
      rw [List.getElem?_append_right (by rw [hk]; omega), hk, Nat.add_sub_cancel_left]
      simpa using ih i (by simpa using hi)
theorem flat_cell {α : Type} (enc : α → List Value) (z : α) (k : Nat) (hk : ∀ x, (enc x).length = k) (xs : List α) {w : World} {b off : Nat}
    (h : ∀ j (h : j < (xs.flatMap enc).length), w.cell? ⟨b, off + j, none⟩ = some (xs.flatMap enc)[j]) (i j : Nat) (hi : i < xs.length) (hj : j < k) :
    w.cell? ⟨b, off + (i * k + j), none⟩ = (enc (xs.getD i z))[j]? := by
  have hg := flat_get enc z k hk xs i j hi hj
  have he : ((enc (xs.getD i z))[j]?).isSome := by simp [hk, hj]
  rw [← hg] at he ⊢
  rw [Option.isSome_iff_exists] at he
  obtain ⟨u, hu⟩ := he
  obtain ⟨hl, rfl⟩ := List.getElem?_eq_some_iff.1 hu
  rw [h _ hl, hu]
theorem elem4 {α : Type} (enc : α → List Value) (z : α) (hk : ∀ x, (enc x).length = 4) (xs : List α) {w : World} {b off : Nat}
    (h : ∀ j (h : j < (xs.flatMap enc).length), w.cell? ⟨b, off + j, none⟩ = some (xs.flatMap enc)[j]) (i : Nat) (hi : i < xs.length) :
    w.cell? ⟨b, off + i * 4, none⟩ = (enc (xs.getD i z))[0]? ∧ w.cell? ⟨b, off + i * 4 + 1, none⟩ = (enc (xs.getD i z))[1]? ∧
    w.cell? ⟨b, off + i * 4 + 2, none⟩ = (enc (xs.getD i z))[2]? ∧ w.cell? ⟨b, off + i * 4 + 3, none⟩ = (enc (xs.getD i z))[3]? :=
  ⟨flat_cell enc z 4 hk xs h i 0 hi (by omega), flat_cell enc z 4 hk xs h i 1 hi (by omega), flat_cell enc z 4 hk xs h i 2 hi (by omega), flat_cell enc z 4 hk xs h i 3 hi (by omega)⟩
theorem elem1 {α : Type} (enc : α → Value) (z : α) (xs : List α) {w : World} {b off : Nat}
    (h : ∀ j (h : j < (xs.map enc).length), w.cell? ⟨b, off + j, none⟩ = some (xs.map enc)[j]) (i : Nat) (hi : i < xs.length) :
    w.cell? ⟨b, off + i, none⟩ = some (enc (xs.getD i z)) := by
  rw [h i (by simpa using hi), List.getElem_map, List.getD_eq_getElem?_getD, List.getElem?_eq_getElem hi]; rfl
theorem allUpto {n : Nat} {p : Nat → Bool} {k : Nat} (hk : k < n) (h : p k = false) : (List.range n).all p = false := by
  rw [List.all_eq_false]; exact ⟨k, List.mem_range.2 hk, by simp [h]⟩
theorem allTo {n : Nat} {p : Nat → Bool} (h : ∀ i, i < n → p i = true) : (List.range n).all p = true := by
  rw [List.all_eq_true]; exact fun i hi => h i (List.mem_range.1 hi)
theorem upTo_succ {k : Nat} {p : Nat → Prop} (h : ∀ i, i < k → p i) (hk : p k) : ∀ i, i < k + 1 → p i := fun i hi => by
  rcases Nat.lt_or_ge i k with h1 | h1
  · exact h i h1
  · rwa [show i = k by omega]

/-! ### Rows of the call's own, written in loops -/
theorem own_ext {w w' : World} {base e k n : Nat} {v : Value} {cs : List Value} (h : w.ownsRow base e k v n cs) (hx : Ext w w') : w'.ownsRow base e k v n cs :=
  h.kept (hx.grownBy none) (by cases hv : v.ownBlock <;> simp)
theorem own_mono {w : World} {base base' e k n : Nat} {v : Value} {cs : List Value} (h : w.ownsRow base e k v n cs) (hb : base' ≤ base) : w.ownsRow base' e k v n cs := by
  refine ⟨h.1, ?_⟩
  rcases h.2 with hn | ⟨g, cap, cur, hv, hg, rest⟩
  · exact .inl hn
  · exact .inr ⟨g, cap, cur, hv, by omega, rest⟩
theorem own_size {w : World} {base e k n g cap : Nat} {cs : List Value} (h : w.ownsRow base e k (.slice (some ⟨g, 0, none⟩) n cap) n cs) : base ≤ g ∧ g < w.heap.size := h.lt g rfl
theorem Ext.heap {w w' : World} (h : Ext w w') {k : Nat} (hk : k < w.heap.size) : w'.heap[k]? = w.heap[k]? := h.below.block k hk
theorem World.frozen?_ext_lt (w : World) (z : Grow) (a : Addr) (h : a.block < w.heap.size) : (w.ext z).frozen? a = w.frozen? a :=
  World.frozen?_of_block (World.heap_ext w z _ h)
attribute [go_sem] World.frozen?_ext_lt
/-- L says below m what F says. -/
def Agree (L F : List Value) (m : Nat) : Prop := L.length = F.length ∧ ∀ j, j < m → L[j]? = F[j]?
theorem Agree.zero {L F : List Value} (h : L.length = F.length) : Agree L F 0 := ⟨h, fun _ h => absurd h (Nat.not_lt_zero _)⟩
theorem Agree.set {L F : List Value} {m : Nat} {u : Value} (h : Agree L F m) (hu : F[m]? = some u) : Agree (L.set m u) F (m + 1) := by
  refine ⟨by simpa using h.1, fun j hj => ?_⟩
  rw [List.getElem?_set]
  have hm : m < F.length := (List.getElem?_eq_some_iff.1 hu).1
  split
  · rename_i e; subst e; rw [if_pos (by rw [h.1]; exact hm), hu]
  · exact h.2 j (by omega)
theorem Agree.all {L F : List Value} (h : Agree L F F.length) : L = F := by
  apply List.ext_getElem?
  intro j
  rcases Nat.lt_or_ge j F.length with hj | hj
  · exact h.2 j hj
  · rw [List.getElem?_eq_none (by rw [h.1]; exact hj), List.getElem?_eq_none hj]
theorem Agree.all' {L F : List Value} {m : Nat} (h : Agree L F m) (hm : F.length ≤ m) : L = F :=
  Agree.all ⟨h.1, fun j hj => h.2 j (by omega)⟩
theorem grownBy_trans {a b c : World} {row : Option Nat} (h : a.grownBy b row) (k : b.grownBy c row) : a.grownBy c row :=
  ⟨k.os.trans h.os, k.tape.trans h.tape, k.output.trans h.output, Nat.le_trans h.size k.size, fun i hi hr => (k.block i (by have := h.size; omega) hr).trans (h.block i hi hr)⟩
theorem flat_len {α : Type} (enc : α → List Value) (k : Nat) (hk : ∀ x, (enc x).length = k) (xs : List α) : (xs.flatMap enc).length = xs.length * k := by
  induction xs with
  | nil => simp
  | cons x xs ih => simp [hk, ih, Nat.add_mul]; omega
/-- A cell of a row of the call's own: what a store wants. -/
theorem own_cell {w : World} {base e k n g cap : Nat} {cs : List Value} (h : w.ownsRow base e k (.slice (some ⟨g, 0, none⟩) n cap) n cs) (j : Nat) (hj : j < n * k) :
    (∃ u, w.cell? ⟨g, j, none⟩ = some u) ∧ w.frozen? ⟨g, j, none⟩ = false := by
  refine ⟨?_, h.frozenAt j⟩
  rw [h.cellAt j hj, List.getElem?_eq_getElem (by rw [h.1]; exact hj)]
  exact ⟨_, rfl⟩

theorem take_snoc {α : Type} (xs : List α) (z : α) (k : Nat) (h : k < xs.length) : xs.take (k + 1) = xs.take k ++ [xs.getD k z] := by
  rw [List.take_succ_eq_append_getElem h, List.getD_eq_getElem?_getD, List.getElem?_eq_getElem h]; rfl
/-- A variable of four cells. -/
theorem box4 {w : World} {B t : Nat} {a b c d : Value} (h : w.heap[B]? = some (.cells #[a, b, c, d] t (0, 0))) :
    (w.cell? ⟨B, 0, none⟩ = some a ∧ w.cell? ⟨B, 1, none⟩ = some b ∧ w.cell? ⟨B, 2, none⟩ = some c ∧ w.cell? ⟨B, 3, none⟩ = some d) ∧
    (w.frozen? ⟨B, 0, none⟩ = false ∧ w.frozen? ⟨B, 1, none⟩ = false ∧ w.frozen? ⟨B, 2, none⟩ = false ∧ w.frozen? ⟨B, 3, none⟩ = false) ∧ B < w.heap.size := by
  refine ⟨⟨?_, ?_, ?_, ?_⟩, ⟨?_, ?_, ?_, ?_⟩, (Array.getElem?_eq_some_iff.1 h).1⟩
  · rw [cell_of_row w B 0 _ t _ h]; rfl
  · rw [cell_of_row w B 1 _ t _ h]; rfl
  · rw [cell_of_row w B 2 _ t _ h]; rfl
  · rw [cell_of_row w B 3 _ t _ h]; rfl
  · exact frozen_of_row w B 0 _ t h
  · exact frozen_of_row w B 1 _ t h
  · exact frozen_of_row w B 2 _ t h
  · exact frozen_of_row w B 3 _ t h
theorem box4_set {w : World} {B t : Nat} {a b c d : Value} (h : w.heap[B]? = some (.cells #[a, b, c, d] t (0, 0))) (a' b' c' d' : Value) :
    ((((w.setCell ⟨B, 0, none⟩ a').setCell ⟨B, 1, none⟩ b').setCell ⟨B, 2, none⟩ c').setCell ⟨B, 3, none⟩ d').heap[B]? = some (.cells #[a', b', c', d'] t (0, 0)) := by
  have h1 := heap_setCell_same _ B 0 _ t a' h
  have h2 := heap_setCell_same _ B 1 _ t b' h1
  have h3 := heap_setCell_same _ B 2 _ t c' h2
  have h4 := heap_setCell_same _ B 3 _ t d' h3
  simpa using h4
/-- The world behind such a store: nothing else has turned. -/
theorem Ext.set4 {w0 w : World} {B : Nat} (h : Ext w0 w) (hB : w0.heap.size ≤ B) (a' b' c' d' : Value) :
    Ext w0 ((((w.setCell ⟨B, 0, none⟩ a').setCell ⟨B, 1, none⟩ b').setCell ⟨B, 2, none⟩ c').setCell ⟨B, 3, none⟩ d') :=
  ((((h.setCell hB _).setCell hB _).setCell hB _).setCell hB _)

/-! ### Opening arguments -/
/-- What one cell of a plain value is. -/
inductive CK where
  | i (k : IntKind)
  | b
  | s
  | sl (t : TypeId)
def CK.ok {H : Type} (enc : TypeId × Value → H) (P : Program) (w : World) (base : Nat) (sp : Nat → Bool) (held : Bool) : CK → Value → Prop
  | .i k, v => ∃ n, v = .int k n ∧ (Lit.int k n).wf = true
  | .b, v => ∃ c, v = .bool c
  | .s, v => ∃ s, v = .string s ∧ s.size ≤ maxLen
  | .sl t, v => ∃ fuel x, DataW.trod enc P w base sp held fuel t [v] = some x
/-- Cell by cell. -/
def CKs {H : Type} (enc : TypeId × Value → H) (P : Program) (w : World) (base : Nat) (sp : Nat → Bool) (held : Bool) : List CK → List Value → Prop
  | [], [] => True
  | k :: ks, c :: cs => k.ok enc P w base sp held c ∧ CKs enc P w base sp held ks cs
  | _, _ => False
def flatFs (P : Program) (rec : TypeId → Option (List CK)) : List Field → Nat → Option (List CK × Nat)
  | [], off => some ([], off)
  | f :: fs, off =>
    if f.offset = off then
      match rec f.type with
      | some k => if P.cellsOf f.type = k.length then (flatFs P rec fs (off + k.length)).map fun r => (k ++ r.1, r.2) else none
      | none => none
    else none
def flatK (P : Program) : Nat → TypeId → Option (List CK)
  | 0, _ => none
  | d + 1, t =>
    match P.underlying t with
    | some .bool => some [.b]
    | some (.int k) => some [.i k]
    | some .string => some [.s]
    | some (.slice _) => some [.sl t]
    | some (.struct fs) => match flatFs P (flatK P d) fs.toList 0 with
      | some (ks, o) => if o = P.cellsOf t then some ks else none
      | none => none
    | _ => none
section
variable {H : Type} {enc : TypeId × Value → H} {P : Program} {w : World} {base : Nat} {sp : Nat → Bool} {held : Bool}
theorem CKs.append {ks ls : List CK} : ∀ {cs ds : List Value}, CKs enc P w base sp held ks cs → CKs enc P w base sp held ls ds → CKs enc P w base sp held (ks ++ ls) (cs ++ ds) := by
  induction ks with
  | nil => intro cs ds h1 h2; cases cs <;> simp_all [CKs]
  | cons k ks ih => intro cs ds h1 h2; cases cs <;> simp_all [CKs]
theorem CKs.length {ks : List CK} : ∀ {cs : List Value}, CKs enc P w base sp held ks cs → cs.length = ks.length := by
  induction ks with
  | nil => intro cs h; cases cs <;> simp_all [CKs]
  | cons k ks ih => intro cs h; cases cs <;> simp_all [CKs]
theorem CKs.cons {k : CK} {ks : List CK} {cs : List Value} (h : CKs enc P w base sp held (k :: ks) cs) : ∃ c r, cs = c :: r ∧ k.ok enc P w base sp held c ∧ CKs enc P w base sp held ks r := by
  cases cs with
  | nil => exact h.elim
  | cons c r => exact ⟨c, r, rfl, h.1, h.2⟩
theorem CKs.nil {cs : List Value} (h : CKs enc P w base sp held [] cs) : cs = [] := by
  cases cs with
  | nil => rfl
  | cons c r => exact h.elim
theorem CKs.one {k1 : CK} {cs : List Value} (h : CKs enc P w base sp held [k1] cs) : ∃ a, cs = [a] ∧ k1.ok enc P w base sp held a := by
  obtain ⟨a, _, rfl, h1, h⟩ := h.cons
  obtain rfl := h.nil
  exact ⟨a, rfl, h1⟩
theorem CKs.two {k1 k2 : CK} {cs : List Value} (h : CKs enc P w base sp held [k1, k2] cs) : ∃ a b, cs = [a, b] ∧ k1.ok enc P w base sp held a ∧ k2.ok enc P w base sp held b := by
  obtain ⟨a, _, rfl, h1, h⟩ := h.cons
  obtain ⟨b, rfl, h2⟩ := h.one
  exact ⟨a, b, rfl, h1, h2⟩
theorem CKs.three {k1 k2 k3 : CK} {cs : List Value} (h : CKs enc P w base sp held [k1, k2, k3] cs) : ∃ a b c, cs = [a, b, c] ∧ k1.ok enc P w base sp held a ∧ k2.ok enc P w base sp held b ∧ k3.ok enc P w base sp held c := by
  obtain ⟨a, _, rfl, h1, h⟩ := h.cons
  obtain ⟨b, c, rfl, h2, h3⟩ := h.two
  exact ⟨a, b, c, rfl, h1, h2, h3⟩
theorem CKs.four {k1 k2 k3 k4 : CK} {cs : List Value} (h : CKs enc P w base sp held [k1, k2, k3, k4] cs) :
    ∃ a b c d, cs = [a, b, c, d] ∧ k1.ok enc P w base sp held a ∧ k2.ok enc P w base sp held b ∧ k3.ok enc P w base sp held c ∧ k4.ok enc P w base sp held d := by
  obtain ⟨a, _, rfl, h1, h⟩ := h.cons
  obtain ⟨b, c, d, rfl, h2, h3, h4⟩ := h.three
  exact ⟨a, b, c, d, rfl, h1, h2, h3, h4⟩
theorem flatFs_ok {d n : Nat} (hrec : ∀ t ks cs x, flatK P d t = some ks → DataW.trod enc P w base sp held n t cs = some x → CKs enc P w base sp held ks cs) (cs : List Value) :
    ∀ (fs : List Field) (off : Nat) (ks : List CK) (o : Nat), flatFs P (flatK P d) fs off = some (ks, o) →
      (∀ (i : Nat) (f : Field), fs[i]? = some f → ∃ x, DataW.trod enc P w base sp held n f.type ((cs.drop f.offset).take (P.cellsOf f.type)) = some x) →
      o ≤ cs.length → off ≤ o ∧ CKs enc P w base sp held ks ((cs.drop off).take (o - off)) := by
  intro fs
  induction fs with
  | nil => intro off ks o h _ _; simp [flatFs] at h; obtain ⟨rfl, rfl⟩ := h; simp [CKs]
  | cons f fs ih =>
    intro off ks o h hf ho
    simp only [flatFs] at h
    split at h
    · rename_i hoff
      split at h
      · rename_i k hk
        split at h
        · rename_i hc
          rw [Option.map_eq_some_iff] at h
          obtain ⟨⟨r1, r2⟩, hr, he⟩ := h
          simp only [Prod.mk.injEq] at he
          obtain ⟨rfl, rfl⟩ := he
          obtain ⟨hle, hrest⟩ := ih _ _ _ hr (fun i g hg => hf (i + 1) g (by simpa using hg)) ho
          obtain ⟨x, hx⟩ := hf 0 f rfl
          have h0 := hrec _ _ _ _ hk hx
          refine ⟨by omega, ?_⟩
          have e : (cs.drop off).take (r2 - off) = (cs.drop off).take k.length ++ (cs.drop (off + k.length)).take (r2 - (off + k.length)) := by
            rw [← List.drop_drop, show r2 - off = k.length + (r2 - (off + k.length)) by omega, List.take_add]
          rw [e]
          rw [hoff, hc] at h0
          exact h0.append hrest
        · cases h
      · cases h
    · cases h
theorem cks_of_trod : ∀ (d : Nat) (t : TypeId) (ks : List CK) (cs : List Value) (fuel : Nat) (x : DataW H × List MemPlace), flatK P d t = some ks →
    DataW.trod enc P w base sp held fuel t cs = some x → CKs enc P w base sp held ks cs
  | 0, _, _, _, _, _, h, _ => by simp [flatK] at h
  | d + 1, t, ks, cs, fuel, x, h, hx => by
    simp only [flatK] at h
    split at h
    · rename_i hu; cases h; obtain ⟨c, rfl, _⟩ := DataW.trod_bool hu hx; exact ⟨⟨c, rfl⟩, trivial⟩
    · rename_i k hu; cases h; obtain ⟨n, rfl, _, hw⟩ := DataW.trod_int hu hx; exact ⟨⟨n, rfl, hw⟩, trivial⟩
    · rename_i hu; cases h; obtain ⟨s, rfl, _, hs⟩ := DataW.trod_string hu hx; exact ⟨⟨s, rfl, hs⟩, trivial⟩
    · rename_i e hu
      cases h
      have hx' := hx
      rcases DataW.trod_slice hu hx with ⟨rfl, _⟩ | ⟨a, len, cap, _, _, n, _, rfl, _⟩
      · exact ⟨⟨fuel, x, hx'⟩, trivial⟩
      · exact ⟨⟨fuel, x, hx'⟩, trivial⟩
    · rename_i fs hu
      split at h
      · rename_i ks' o hfs
        split at h
        · rename_i ho
          cases h
          obtain ⟨xs, n, rfl, rfl, hl, hsz, hf⟩ := DataW.trod_struct hu hx
          obtain ⟨_, hk⟩ := flatFs_ok (n := n) (fun t ks cs x h1 h2 => cks_of_trod d t ks cs n x h1 h2) cs fs.toList 0 ks o hfs
            (fun i f hi => by
              have hi' : fs[i]? = some f := by simpa using hi
              have := hf i f hi'
              have hlt : i < xs.length := by rw [hsz]; exact (Array.getElem?_eq_some_iff.1 hi').1
              exact ⟨xs[i], by rw [this]; simp [hlt]⟩) (by omega)
          have e : (cs.drop 0).take (o - 0) = cs := by simp [ho, ← hl]
          rwa [e] at hk
        · cases h
      · cases h
    · cases h
/-- A slice that came in: its elements, row by row. -/
theorem rd_of_trod {t e : TypeId} {ks : List CK} {v : Value} {fuel d : Nat} {x : DataW H × List MemPlace} (hu : P.underlying t = some (.slice e)) (hks : flatK P d e = some ks) (hc : P.cellsOf e = ks.length) (h0 : 0 < ks.length)
    (hx : DataW.trod enc P w base sp held fuel t [v] = some x) :
    ∃ css : List (List Value), (∀ cs ∈ css, CKs enc P w base sp held ks cs) ∧ Rd w ks.length v css.length css.flatten ∧ css.length ≤ maxLen := by
  rcases DataW.trod_slice hu hx with ⟨h1, _⟩ | ⟨a, len, cap, elems, rest, n, _, h1, _, _, hlc, hcm, hel, hi, _⟩
  · simp only [List.cons.injEq, and_true] at h1
    subst h1
    exact ⟨[], by simp, Rd.nil _ _ _ _, by simp⟩
  · simp only [List.cons.injEq, and_true] at h1
    subst h1
    have each : ∀ i, i < len → ∃ cs, w.cells? base (a.add (i * P.cellsOf e)) (P.cellsOf e) = some cs ∧ CKs enc P w base sp held ks cs := by
      intro i hl
      have h2 := hi i hl
      rw [List.getElem?_eq_getElem (by omega)] at h2
      rw [Option.bind_eq_some_iff] at h2
      obtain ⟨cs, h3, h4⟩ := h2
      exact ⟨cs, h3, cks_of_trod _ _ _ _ _ _ hks h4⟩
    have pick : ∃ css : List (List Value), css.length = len ∧ ∀ i (h : i < css.length), w.cells? base (a.add (i * P.cellsOf e)) (P.cellsOf e) = some css[i] ∧ CKs enc P w base sp held ks css[i] := by
      clear hi hel hlc hx hcm
      rename_i hsp
      clear hsp
      induction len with
      | zero => exact ⟨[], rfl, fun i h => by simp at h⟩
      | succ m ih =>
        obtain ⟨css, h1, h2⟩ := ih (fun i h => each i (by omega))
        obtain ⟨cs, h3, h4⟩ := each m (by omega)
        refine ⟨css ++ [cs], by simp [h1], fun i hi => ?_⟩
        rw [List.getElem_append]
        split
        · exact h2 i _
        · have : i = m := by simp at hi; omega
          subst this
          simpa using ⟨h3, h4⟩
    obtain ⟨css, hl, hcs⟩ := pick
    refine ⟨css, fun cs hm => ?_, ⟨?_, some a, cap, by rw [hl], ?_⟩, by omega⟩
    · obtain ⟨i, hi, rfl⟩ := List.mem_iff_getElem.1 hm
      exact (hcs i hi).2
    · rw [List.length_flatten, show css.map List.length = List.replicate css.length ks.length from ?_]
      · simp
      · apply List.ext_getElem (by simp)
        intro i h1 h2
        simp only [List.getElem_map, List.getElem_replicate]
        exact (hcs i (by simpa using h1)).2.length
    · by_cases hz : css.length = 0
      · exact .inl hz
      right
      have hcell : ∀ i (h : i < css.length) j, j < ks.length → w.cell? (a.add (i * ks.length + j)) = css[i][j]? := by
        intro i h j hj
        have h1 := (hcs i h).1
        rw [hc] at h1
        have h2 := (World.cells?_some h1).2.2 j hj
        rw [← h2]
        congr 1
        unfold Addr.add
        split <;> split <;> (try split) <;> simp_all <;> omega
      have hlen : ∀ i (h : i < css.length), css[i].length = ks.length := fun i h => (hcs i h).2.length
      have h00 := hcell 0 (by omega) 0 h0
      have hspot : a.spot = none := by
        have h1 : (css[0]'(by omega))[0]? = some ((css[0]'(by omega))[0]'(by rw [hlen 0 (by omega)]; exact h0)) := List.getElem?_eq_getElem _
        rw [h1] at h00
        simpa [Addr.add] using World.cell?_spot h00
      obtain ⟨b, off, spot⟩ := a
      simp only at hspot
      subst hspot
      refine ⟨b, off, rfl, fun j hj => ?_⟩
      have hfl : css.flatten = css.flatMap id := by simp [List.flatMap_id]
      have hjl : j < css.length * ks.length := by
        have : css.flatten.length = css.length * ks.length := by
          rw [List.length_flatten, show css.map List.length = List.replicate css.length ks.length from ?_]
          · simp
          · apply List.ext_getElem (by simp)
            intro i h1 h2
            simp only [List.getElem_map, List.getElem_replicate]
            exact hlen i (by simpa using h1)
        omega
      have hq : j / ks.length < css.length := Nat.div_lt_of_lt_mul (by rw [Nat.mul_comm]; exact hjl)
      have hr : j % ks.length < ks.length := Nat.mod_lt _ h0
      have hdm : j / ks.length * ks.length + j % ks.length = j := by rw [Nat.mul_comm]; exact Nat.div_add_mod j ks.length
      have h1 := hcell _ hq _ hr
      rw [hdm] at h1
      have h2 : css.flatten[j]? = css[j / ks.length][j % ks.length]? := by
        have key : ∀ (l : List (List Value)) (i j : Nat), (∀ x ∈ l, x.length = ks.length) → (hi : i < l.length) → j < ks.length → l.flatten[i * ks.length + j]? = l[i][j]? := by
          intro l
          induction l with
          | nil => intro i j _ hi; simp at hi
          | cons y l ih =>
            intro i j hall hi hj
            cases i with
            | zero => simp [List.getElem?_append, hall y (by simp), hj]
            | succ i =>
              have e : (i + 1) * ks.length + j = ks.length + (i * ks.length + j) := by rw [Nat.add_mul]; omega
              simp only [List.flatten_cons, e, List.getElem_cons_succ]
              rw [List.getElem?_append_right (by rw [hall y (by simp)]; omega), hall y (by simp), Nat.add_sub_cancel_left]
              exact ih i j (fun x hx => hall x (by simp [hx])) (by simpa using hi) hj
        have := key css (j / ks.length) (j % ks.length) (fun x hx => by obtain ⟨i, hi, rfl⟩ := List.mem_iff_getElem.1 hx; exact hlen i hi) hq hr
        rwa [hdm] at this
      rw [← h2, List.getElem?_eq_getElem hj] at h1
      unfold Addr.add at h1
      split at h1
      · rename_i hz; subst hz; simpa using h1
      · exact h1
end
/-- Rows that are all made by one encoding. -/
theorem exists_map {α β : Type} {f : α → β} {ok : α → Prop} : ∀ {l : List β}, (∀ y ∈ l, ∃ x, y = f x ∧ ok x) → ∃ xs : List α, l = xs.map f ∧ ∀ x ∈ xs, ok x
  | [], _ => ⟨[], rfl, by simp⟩
  | y :: l, h => by
    obtain ⟨x, rfl, hx⟩ := h y (by simp)
    obtain ⟨xs, rfl, hxs⟩ := exists_map (l := l) (fun z hz => h z (by simp [hz]))
    exact ⟨x :: xs, rfl, by simpa using ⟨hx, hxs⟩⟩
theorem Rd.map {α : Type} {w : World} {k : Nat} {v : Value} {enc : α → List Value} {xs : List α} (h : Rd w k v (xs.map enc).length (xs.map enc).flatten) : Rd w k v xs.length (xs.flatMap enc) := by
  rw [List.length_map] at h
  rwa [List.flatMap_def]

/-! ### The frame of a law's proof -/
open Go.ChangeShapes Go.WideShapes Go.ChangeAt
theorem Below.trodAll {H : Type} {enc : TypeId × Value → H} {P : Program} (hl : laidOutB P = true) {W W' : World} (hb : Below W.heap.size W W') :
    ∀ (ts : List TypeId) (vs : List Value) (ds : List (DataW H)) (ps : List MemPlace), (∀ t ∈ ts, P.readableRec t = true ∧ t < P.types.size) → DataW.TrodAll enc P W 0 (fun _ => true) true ts vs ds ps →
      (∀ x ∈ ps, x.block < W.heap.size) → DataW.TrodAll enc P W' 0 (fun b => decide (b < W.heap.size)) true ts vs ds ps
  | [], vs, ds, ps, _, h, _ => by
    obtain ⟨rfl, rfl, rfl⟩ := trodAll_nil h
    exact trodAll_mk0
  | t :: ts, vs, ds, ps, hts, h, hlt => by
    obtain ⟨v, vs', d, ds', p, q, rfl, rfl, rfl, h0, r⟩ := trodAll_cons h
    exact trodAll_cons_mk (Below.trod hl (hts t (by simp)).1 (hts t (by simp)).2 h0 hb (fun x hx => hlt x (by simp [hx]))) (Below.trodAll hl hb ts vs' ds' q (fun t ht => hts t (by simp [ht])) r (fun x hx => hlt x (by simp [hx])))
/-- What stands behind every law's walk. -/
theorem law_post {H : Type} {enc : TypeId × Value → H} {P : Program} {fn : Func} {s : ChangeSpec} {W : World} {args : Array Value} {ds gs : List (DataW H)} {before : List MemPlace} {T : TypeId}
    (hl : laidOutB P = true) (hts : ∀ t ∈ fn.params.toList, P.readableRec t = true ∧ t < P.types.size) (hr : fn.resultTypes = #[T]) (hT : P.underlying T = some .bool)
    (hvars : s.vars = []) (hfn : (s.fn H (ds ++ [])).results = [.lit (.bool true)] ∧ (s.fn H (ds ++ [])).args = ds ∧ (s.fn H (ds ++ [])).vars = [])
    (hW : DataW.Whole enc P fn.params.toList s.vars false W args.toList ds gs before) {W' : World} (hb : Below W.heap.size W W') :
    s.post enc P fn false true false false W args (.bool true) W' := by
  have hW' := hW
  obtain ⟨p, q, hA, hV, rfl, hfz, hnd⟩ := hW
  rw [hvars] at hV
  obtain ⟨rfl, rfl⟩ := trodVars_none hV
  have lt0 : ∀ x ∈ p, x.block < W.heap.size := by
    clear hfz hnd hW' hV hfn
    revert hA
    generalize fn.params.toList = ts
    generalize args.toList = vs
    intro hA
    induction ts generalizing vs ds p with
    | nil => obtain ⟨_, _, rfl⟩ := trodAll_nil hA; simp
    | cons t ts ih =>
      obtain ⟨v, vs', d, ds', p', q', rfl, rfl, rfl, ⟨m, hm⟩, r⟩ := trodAll_cons hA
      intro x hx
      rcases List.mem_append.1 hx with h | h
      · exact DataW.trod_lt m _ _ _ hm x h
      · exact ih (p := q') (ds := ds') vs' r x h
  refine ⟨ds, [], _, [], p, [], hW', ?_, ?_, ?_, hb.frame _, fun h => by cases h⟩
  · rw [hfn.1, hr]
    exact trodAll_mk1 (shut_bool hT _)
  · rw [hfn.2.1]
    exact Below.trodAll hl hb _ _ _ _ hts hA lt0
  · rw [hfn.2.2, hvars]
    rfl
end RowKit
end Go
