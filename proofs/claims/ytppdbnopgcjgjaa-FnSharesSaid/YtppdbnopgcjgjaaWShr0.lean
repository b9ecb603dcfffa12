/- Shares: what is computed. -/
import Derived.Test.YtppdbnopgcjgjaaWAsc
import Derived.Test.YtppdbnopgcjgjaaWSlow2
import Derived.Test.YtppdbnopgcjgjaaWHas
namespace Go.Proofs.Ytppdbnopgcjgjaa
open Go.RowKit
def prd (g : Nat → Int) : Nat → Int
  | 0 => 1
  | k + 1 => prd g k * g (k + 1)
theorem prd_congr {g h : Nat → Int} : ∀ n, (∀ i, 1 ≤ i → i ≤ n → g i = h i) → prd g n = prd h n
  | 0, _ => rfl
  | n + 1, e => by unfold prd; rw [prd_congr n (fun i h1 h2 => e i h1 (by omega)), e (n + 1) (by omega) (by omega)]
theorem prd_upd {g h : Nat → Int} {x : Nat} (hx : g x = 100) (hne : ∀ i, i ≠ x → h i = g i) : ∀ n, 1 ≤ x → x ≤ n → ∃ q, prd g n = 100 * q ∧ prd h n = q * h x
  | 0, h1, h2 => by omega
  | n + 1, h1, h2 => by
    by_cases e : x = n + 1
    · subst e
      refine ⟨prd g n, ?_, ?_⟩
      · show prd g n * g (n + 1) = _; rw [hx, Int.mul_comm]
      · show prd h n * h (n + 1) = _; rw [prd_congr n (fun i _ h2 => hne i (by omega))]
    · obtain ⟨q, e1, e2⟩ := prd_upd hx hne n h1 (by omega)
      refine ⟨q * g (n + 1), ?_, ?_⟩
      · show prd g n * g (n + 1) = _; rw [e1, Int.mul_assoc]
      · show prd h n * h (n + 1) = _; rw [e2, hne (n + 1) (by omega), Int.mul_assoc, Int.mul_assoc, Int.mul_comm (h x)]
theorem prd_bd {g : Nat → Int} : ∀ n, (∀ i, 1 ≤ i → i ≤ n → 0 ≤ g i ∧ g i ≤ 100) → 0 ≤ prd g n ∧ prd g n ≤ ((100 ^ n : Nat) : Int)
  | 0, _ => by simp [prd]
  | n + 1, h => by
    have h1 := prd_bd n (fun i a b => h i a (by omega))
    have h2 := h (n + 1) (by omega) (by omega)
    refine ⟨Int.mul_nonneg h1.1 h2.1, ?_⟩
    have := Int.mul_le_mul h1.2 h2.2 h2.1 (Int.natCast_nonneg _)
    rw [Nat.pow_succ, Int.natCast_mul]
    exact this
theorem prd_small {g : Nat → Int} {n : Nat} (hn : n ≤ 7) (h : ∀ i, 1 ≤ i → i ≤ n → 0 ≤ g i ∧ g i ≤ 100) : 0 ≤ prd g n ∧ prd g n ≤ 100000000000000 := by
  have h1 := prd_bd n h
  have h2 : 100 ^ n ≤ 100 ^ 7 := Nat.pow_le_pow_right (by decide) hn
  have h3 : (100 : Nat) ^ 7 = 100000000000000 := by decide
  omega
def fac (ls L : List Int) (i : Nat) : Int := if L.contains (i : Int) then 100 - ls.getD i 0 else 100
def shr (ls L : List Int) : Int := prd (fac ls L) 7
theorem fac_bd {ps ls ds : List Int} (hg : goodC ps ls ds = true) {L : List Int} (hL : ∀ y ∈ L, 0 ≤ y ∧ y < ps.length) (i : Nat) : 0 ≤ fac ls L i ∧ fac ls L i ≤ 100 := by
  unfold fac
  split
  · rename_i h
    have h1 := hL _ (List.contains_iff_mem.1 h)
    have h2 := cost_ls hg (i : Int) (by omega) h1.2
    rw [Int.toNat_natCast] at h2
    omega
  · omega
theorem shr_bd {ps ls ds : List Int} (hg : goodC ps ls ds = true) {L : List Int} (hL : ∀ y ∈ L, 0 ≤ y ∧ y < ps.length) : 0 ≤ shr ls L ∧ shr ls L ≤ 100000000000000 :=
  prd_small (by decide) (fun i _ _ => fac_bd hg hL i)
theorem shr_nil (ls : List Int) : shr ls [] = 100000000000000 := rfl
theorem shr_congr {ls L M : List Int} (h : ∀ i : Nat, 1 ≤ i → i ≤ 7 → L.contains (i : Int) = M.contains (i : Int)) : shr ls L = shr ls M :=
  prd_congr 7 (fun i h1 h2 => by unfold fac; rw [h i h1 h2])
theorem shr_snoc {ls L : List Int} (h : asc L) (k : Nat) (hk : k < L.length) (h1 : 1 ≤ L.getD k 0) (h7 : L.getD k 0 ≤ 7) :
    shr ls (L.take (k + 1)) = shr ls (L.take k) / 100 * (100 - ls.getD (L.getD k 0).toNat 0) ∧ (∃ q, shr ls (L.take k) = 100 * q) := by
  have hc := asc_take h k hk
  have ht := take_snoc L 0 k hk
  generalize L.getD k 0 = x at *
  obtain ⟨n, rfl⟩ := Int.eq_ofNat_of_zero_le (show 0 ≤ x by omega)
  obtain ⟨q, e1, e2⟩ := prd_upd (g := fac ls (L.take k)) (h := fac ls (L.take (k + 1))) (x := n) (by unfold fac; rw [hc]; rfl)
    (fun i hi => by
      unfold fac; rw [ht]
      have : ((L.take k ++ [(n : Int)]).contains (i : Int)) = (L.take k).contains (i : Int) := by
        rw [Bool.eq_iff_iff, List.contains_iff_mem, List.contains_iff_mem]
        simp only [List.mem_append, List.mem_singleton]
        constructor
        · rintro (h | h)
          · exact h
          · omega
        · exact .inl
      rw [this]) 7 (by omega) (by omega)
  have e3 : fac ls (L.take (k + 1)) n = 100 - ls.getD n 0 := by
    unfold fac; rw [ht, if_pos (by rw [List.contains_iff_mem]; simp)]
  refine ⟨?_, q, e1⟩
  unfold shr
  rw [e1, e2, e3, Int.mul_ediv_cancel_left _ (by decide), Int.toNat_natCast]
theorem up_desc {ps : List Int} (hg : goodT ps = true) : ∀ (n : Nat) (x : Int), x < n → x < ps.length → (up ps x).Pairwise (· > ·) ∧ (∀ y ∈ up ps x, y ≤ x) ∧ (0 ≤ x → ∃ r, up ps x = r ++ [0])
  | 0, x, h, _ => by rw [up_neg ps (by omega)]; exact ⟨.nil, by simp, fun h => by omega⟩
  | n + 1, x, h, h1 => by
    by_cases h0 : x < 0
    · rw [up_neg ps h0]; exact ⟨.nil, by simp, fun h => by omega⟩
    · have hp := parent_lt hg (x := x) (by omega) h1
      obtain ⟨i1, i2, i3⟩ := up_desc hg n (ps.getD x.toNat 0) (by omega) (by omega)
      rw [up_step hg (by omega) h1]
      refine ⟨List.pairwise_cons.2 ⟨fun y hy => by have := i2 y hy; omega, i1⟩, ?_, fun _ => ?_⟩
      · intro y hy
        rcases List.mem_cons.1 hy with rfl | hy
        · omega
        · have := i2 y hy; omega
      · by_cases hx : x = 0
        · subst hx
          have := goodT_root hg
          rw [Int.toNat_zero, this, up_neg ps (by decide)]
          exact ⟨[], rfl⟩
        · have h2 := goodT_get hg x.toNat (by omega) (by omega)
          obtain ⟨r, e⟩ := i3 (by omega)
          exact ⟨x :: r, by rw [e]; rfl⟩
theorem path_asc {ps : List Int} (hg : goodT ps = true) {x : Int} (h1 : x < ps.length) : asc (path ps x) := by
  have hl := goodT_len hg
  have := (up_desc hg 8 x (by omega) h1).1
  unfold asc path
  exact List.pairwise_reverse.2 this
theorem path_head {ps : List Int} (hg : goodT ps = true) {x : Int} (h0 : 0 ≤ x) (h1 : x < ps.length) : ∃ r, path ps x = 0 :: r := by
  have hl := goodT_len hg
  obtain ⟨r, e⟩ := (up_desc hg 8 x (by omega) h1).2.2 h0
  exact ⟨r.reverse, by unfold path; rw [e]; simp⟩
/-- The share of a node: over the links above it. -/
def sh (ps ls : List Int) (x : Int) : Int := shr ls (path ps x)
theorem sh_tail {ps ls r : List Int} {x : Int} (h : path ps x = 0 :: r) : shr ls r = sh ps ls x := by
  unfold sh; rw [h]
  apply shr_congr
  intro i h1 _
  rw [Bool.eq_iff_iff, List.contains_iff_mem, List.contains_iff_mem, List.mem_cons]
  constructor
  · exact .inr
  · rintro (h | h)
    · omega
    · exact h
theorem sh_bd {ps ls ds : List Int} (hg : goodC ps ls ds = true) {x : Int} (hx : x < ps.length) : 0 ≤ sh ps ls x ∧ sh ps ls x ≤ 100000000000000 :=
  shr_bd hg (path_mem (goodC_all hg).1 hx)
/-- The last of P that stands in Q. -/
def meetTo (P Q : List Int) : Nat → Int
  | 0 => 0
  | k + 1 => if Q.contains (P.getD k 0) then P.getD k 0 else meetTo P Q k
def meet (ps : List Int) (a b : Int) : Int := meetTo (path ps a) (path ps b) (path ps a).length
theorem meetTo_spec {P Q : List Int} (hP : asc P) (h0 : ∀ y ∈ P, 0 ≤ y) : ∀ k, k ≤ P.length → (∀ i, i < k → Q.contains (P.getD i 0) = true → P.getD i 0 ≤ meetTo P Q k) ∧ (meetTo P Q k = 0 ∨ ∃ i, i < k ∧ P.getD i 0 = meetTo P Q k ∧ Q.contains (P.getD i 0) = true)
  | 0, _ => ⟨fun i h => by omega, .inl rfl⟩
  | k + 1, hk => by
    obtain ⟨i1, i2⟩ := meetTo_spec hP h0 k (by omega)
    unfold meetTo
    have lt : ∀ i, i < k → P.getD i 0 < P.getD k 0 := fun i hi => by
      rw [List.getD_eq_getElem?_getD, List.getD_eq_getElem?_getD, List.getElem?_eq_getElem (by omega), List.getElem?_eq_getElem (by omega)]
      exact (List.pairwise_iff_getElem.1 hP) i k (by omega) (by omega) hi
    split
    · rename_i hc
      refine ⟨fun i hi _ => ?_, .inr ⟨k, by omega, rfl, hc⟩⟩
      by_cases e : i = k
      · subst e; omega
      · have := lt i (by omega); omega
    · rename_i hc
      refine ⟨fun i hi hq => ?_, ?_⟩
      · by_cases e : i = k
        · subst e; exact absurd hq hc
        · exact i1 i (by omega) hq
      · rcases i2 with h | ⟨i, hi, e, hq⟩
        · exact .inl h
        · exact .inr ⟨i, by omega, e, hq⟩
theorem meet_mem {P Q : List Int} (hP : asc P) (h0 : ∀ y ∈ P, 0 ≤ y) (z1 : (0 : Int) ∈ P) (z2 : (0 : Int) ∈ Q) : meetTo P Q P.length ∈ P ∧ meetTo P Q P.length ∈ Q ∧ ∀ y, y ∈ P → y ∈ Q → y ≤ meetTo P Q P.length := by
  obtain ⟨h1, h2⟩ := meetTo_spec (Q := Q) hP h0 P.length (Nat.le_refl _)
  refine ⟨?_, ?_, fun y hy hq => ?_⟩
  · rcases h2 with h | ⟨i, hi, e, hq⟩
    · rw [h]; exact z1
    · rw [← e]; exact mem_getD hi
  · rcases h2 with h | ⟨i, hi, e, hq⟩
    · rw [h]; exact z2
    · rw [← e]; exact List.contains_iff_mem.1 hq
  · obtain ⟨i, hi, rfl⟩ := List.mem_iff_getElem.1 hy
    have e : P[i] = P.getD i 0 := by rw [List.getD_eq_getElem?_getD, List.getElem?_eq_getElem hi]; rfl
    rw [e] at hq ⊢
    exact h1 i hi (List.contains_iff_mem.2 hq)
theorem meet_both {ps : List Int} (hg : goodT ps = true) {a b : Int} (ha : 0 ≤ a ∧ a < ps.length) (hb : 0 ≤ b ∧ b < ps.length) : meet ps a b ∈ path ps a ∧ meet ps a b ∈ path ps b ∧ ∀ y, y ∈ path ps a → y ∈ path ps b → y ≤ meet ps a b := by
  obtain ⟨r, e⟩ := path_head hg ha.1 ha.2
  obtain ⟨r', e'⟩ := path_head hg hb.1 hb.2
  exact meet_mem (path_asc hg ha.2) (fun y hy => (path_mem hg ha.2 y hy).1) (by rw [e]; simp) (by rw [e']; simp)
theorem meet_comm {ps : List Int} (hg : goodT ps = true) {a b : Int} (ha : 0 ≤ a ∧ a < ps.length) (hb : 0 ≤ b ∧ b < ps.length) : meet ps a b = meet ps b a := by
  obtain ⟨h1, h2, h3⟩ := meet_both hg ha hb
  obtain ⟨k1, k2, k3⟩ := meet_both hg hb ha
  have := h3 _ k2 k1
  have := k3 _ h2 h1
  omega
theorem meet_in {ps : List Int} (hg : goodT ps = true) {a b : Int} (ha : 0 ≤ a ∧ a < ps.length) (hb : 0 ≤ b ∧ b < ps.length) : 0 ≤ meet ps a b ∧ meet ps a b < ps.length :=
  path_mem hg ha.2 _ (meet_both hg ha hb).1
def btw (ps ds : List Int) (a b : Int) : Int := del ps ds a + del ps ds b - 2 * del ps ds (meet ps a b)
theorem btw_comm {ps ds : List Int} (hg : goodT ps = true) {a b : Int} (ha : 0 ≤ a ∧ a < ps.length) (hb : 0 ≤ b ∧ b < ps.length) : btw ps ds a b = btw ps ds b a := by
  unfold btw; rw [meet_comm hg ha hb]; omega
theorem btw_bd {ps ls ds : List Int} (h : goodC ps ls ds = true) {a b : Int} (ha : 0 ≤ a ∧ a < ps.length) (hb : 0 ≤ b ∧ b < ps.length) : -16000 ≤ btw ps ds a b ∧ btw ps ds a b ≤ 16000 := by
  have h1 := del_bd h ha.2
  have h2 := del_bd h hb.2
  have h3 := del_bd h (meet_in (goodC_all h).1 ha hb).2
  unfold btw; omega
end Go.Proofs.Ytppdbnopgcjgjaa
