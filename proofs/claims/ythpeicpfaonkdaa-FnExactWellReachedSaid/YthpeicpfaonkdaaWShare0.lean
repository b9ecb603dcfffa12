/- Shares of several nodes: what is computed. -/
import Derived.Test.YthpeicpfaonkdaaWNear
import Derived.Test.YthpeicpfaonkdaaWPut2
namespace Go.Proofs.Ythpeicpfaonkdaa
open Go.RowKit
def putAll (L P : List Int) : List Int := P.foldl put L
theorem putAll_snoc (L P : List Int) (k : Nat) (h : k < P.length) : putAll L (P.take (k + 1)) = put (putAll L (P.take k)) (P.getD k 0) := by
  unfold putAll; rw [take_snoc P 0 k h, List.foldl_append]; rfl
theorem putAll_mem (P : List Int) : ∀ (L : List Int) (y : Int), y ∈ putAll L P ↔ y ∈ L ∨ y ∈ P := by
  induction P with
  | nil => intro L y; simp [putAll]
  | cons x P ih =>
    intro L y
    show y ∈ putAll (put L x) P ↔ _
    rw [ih, put_mem, List.mem_cons]
    constructor
    · rintro ((h | h) | h)
      · exact .inl h
      · exact .inr (.inl h)
      · exact .inr (.inr h)
    · rintro (h | h | h)
      · exact .inl (.inl h)
      · exact .inl (.inr h)
      · exact .inr h
theorem putAll_asc (P : List Int) : ∀ (L : List Int), asc L → asc (putAll L P) := by
  induction P with
  | nil => exact fun L h => h
  | cons x P ih => exact fun L h => ih (put L x) (put_asc h x)
theorem asc_len {n : Nat} : ∀ (L : List Int) (a : Nat), asc L → (∀ y ∈ L, (a : Int) ≤ y ∧ y < n) → L.length ≤ n - a
  | [], _, _, _ => Nat.zero_le _
  | x :: L, a, h, hb => by
    obtain ⟨h1, h2⟩ := List.pairwise_cons.1 h
    have hx := hb x (by simp)
    have := asc_len L (a + 1) h2 (fun y hy => ⟨by have := h1 y hy; omega, (hb y (by simp [hy])).2⟩)
    rw [List.length_cons]; omega
/-- All nodes of the walks g x to the nodes of ns. -/
def fan (g : Int → List Int) (ns : List Int) : List Int := ns.foldl (fun L x => putAll L (g x)) []
theorem fan_snoc (g : Int → List Int) (ns : List Int) (k : Nat) (h : k < ns.length) : fan g (ns.take (k + 1)) = putAll (fan g (ns.take k)) (g (ns.getD k 0)) := by
  unfold fan; rw [take_snoc ns 0 k h, List.foldl_append]; rfl
theorem fan_gen (g : Int → List Int) (ns : List Int) : ∀ (L : List Int) (y : Int), y ∈ ns.foldl (fun L x => putAll L (g x)) L ↔ y ∈ L ∨ ∃ x ∈ ns, y ∈ g x := by
  induction ns with
  | nil => intro L y; simp
  | cons x ns ih =>
    intro L y
    rw [List.foldl_cons, ih, putAll_mem]
    simp only [List.mem_cons, exists_eq_or_imp]
    constructor
    · rintro ((h | h) | h)
      · exact .inl h
      · exact .inr (.inl h)
      · exact .inr (.inr h)
    · rintro (h | h | h)
      · exact .inl (.inl h)
      · exact .inl (.inr h)
      · exact .inr h
theorem fan_mem (g : Int → List Int) (ns : List Int) (y : Int) : y ∈ fan g ns ↔ ∃ x ∈ ns, y ∈ g x := by
  unfold fan; rw [fan_gen]; simp
theorem fan_asc (g : Int → List Int) (ns : List Int) : asc (fan g ns) := by
  unfold fan
  have : ∀ L, asc L → asc (ns.foldl (fun L x => putAll L (g x)) L) := by
    induction ns with
    | nil => exact fun L h => h
    | cons x ns ih => exact fun L h => ih _ (putAll_asc _ _ h)
  exact this [] List.Pairwise.nil
def shareB (ps ls ds ns : List Int) : Bool := goodC ps ls ds && (allG (isNode ps.length) ns && ascB ns)
theorem shareB_iff {ps ls ds ns : List Int} (h : shareB ps ls ds ns = true) : goodC ps ls ds = true ∧ (∀ y ∈ ns, 0 ≤ y ∧ y < ps.length) := by
  simp only [shareB, Bool.and_eq_true] at h
  exact ⟨h.1, fun y hy => isNode_iff.1 (allG_mem h.2.1 y hy)⟩
def shr0 (ps ls ns : List Int) : Int := shr ls (fan (path ps) ns)
def shG (ps ls ns : List Int) : Int := (Int.gcd (shr0 ps ls ns) 100000000000000 : Nat)
def shareNum (ps ls ds ns : List Int) : Int := if shareB ps ls ds ns then shr0 ps ls ns / shG ps ls ns else 0
def shareDen (ps ls ds ns : List Int) : Int := if shareB ps ls ds ns then 100000000000000 / shG ps ls ns else 0
theorem share_no {ps ls ds ns : List Int} (h : shareB ps ls ds ns = false) : shareNum ps ls ds ns = 0 ∧ shareDen ps ls ds ns = 0 := by simp [shareNum, shareDen, h]
theorem share_yes {ps ls ds ns : List Int} (h : shareB ps ls ds ns = true) : shareNum ps ls ds ns = shr0 ps ls ns / shG ps ls ns ∧ shareDen ps ls ds ns = 100000000000000 / shG ps ls ns := by simp [shareNum, shareDen, h]
theorem path_tail {ps : List Int} (hg : goodT ps = true) {x : Int} (h0 : 0 ≤ x) (h1 : x < ps.length) : ∀ y, y ∈ (path ps x).drop 1 ↔ y ∈ path ps x ∧ 1 ≤ y := by
  intro y
  obtain ⟨r, e⟩ := path_head hg h0 h1
  have ha := path_asc hg h1
  rw [e] at ha ⊢
  have hr := (List.pairwise_cons.1 ha).1
  simp only [List.drop_succ_cons, List.drop_zero, List.mem_cons]
  constructor
  · exact fun h => ⟨.inr h, by have := hr y h; omega⟩
  · rintro ⟨rfl | h, h2⟩
    · omega
    · exact h
theorem links_in {ps ns : List Int} (hg : goodT ps = true) (hn : ∀ y ∈ ns, 0 ≤ y ∧ y < ps.length) (y : Int) (hy : y ∈ fan (fun x => (path ps x).drop 1) ns) : 1 ≤ y ∧ y < ps.length := by
  obtain ⟨x, hx, h⟩ := (fan_mem _ _ _).1 hy
  have hb := hn x hx
  have := (path_tail hg hb.1 hb.2 y).1 h
  exact ⟨this.2, (path_mem hg hb.2 y this.1).2⟩
theorem nodes_in {ps ns : List Int} (hg : goodT ps = true) (hn : ∀ y ∈ ns, 0 ≤ y ∧ y < ps.length) (y : Int) (hy : y ∈ fan (path ps) ns) : 0 ≤ y ∧ y < ps.length := by
  obtain ⟨x, hx, h⟩ := (fan_mem _ _ _).1 hy
  exact path_mem hg (hn x hx).2 y h
theorem shr_links {ps ls ns : List Int} (hg : goodT ps = true) (hn : ∀ y ∈ ns, 0 ≤ y ∧ y < ps.length) : shr ls (fan (fun x => (path ps x).drop 1) ns) = shr0 ps ls ns := by
  apply shr_congr
  intro i h1 _
  rw [Bool.eq_iff_iff, List.contains_iff_mem, List.contains_iff_mem, fan_mem, fan_mem]
  constructor
  · rintro ⟨x, hx, h⟩
    exact ⟨x, hx, ((path_tail hg (hn x hx).1 (hn x hx).2 _).1 h).1⟩
  · rintro ⟨x, hx, h⟩
    exact ⟨x, hx, (path_tail hg (hn x hx).1 (hn x hx).2 _).2 ⟨h, by omega⟩⟩
theorem mem_take_in {ns : List Int} {P : Int → Prop} (h : ∀ y ∈ ns, P y) (k : Nat) : ∀ y ∈ ns.take k, P y := fun y hy => h y (List.mem_of_mem_take hy)
theorem shG_pos (ps ls ns : List Int) : 1 ≤ shG ps ls ns := by
  unfold shG
  have : 0 < Int.gcd (shr0 ps ls ns) 100000000000000 := Int.gcd_pos_of_ne_zero_right _ (by decide)
  omega
end Go.Proofs.Ythpeicpfaonkdaa
