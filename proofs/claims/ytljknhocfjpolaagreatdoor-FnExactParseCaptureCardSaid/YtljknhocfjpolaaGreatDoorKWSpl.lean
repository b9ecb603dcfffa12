/- A text's parts between bytes, in plain words. -/
import Derived.Test.YtljknhocfjpolaaGreatDoorJ3
import Derived.Lib.Split
import Derived.Lib.IndexBytes
namespace Go.Proofs.YtljknhocfjpolaaGreatDoor
open Go.RowKit
set_option maxHeartbeats 400000
def spl (b : UInt8) : List UInt8 → List (List UInt8)
  | [] => [[]]
  | c :: l => if c = b then [] :: spl b l else match spl b l with
    | [] => [[c]]
    | p :: ps => (c :: p) :: ps
theorem spl_ne (b : UInt8) : ∀ l, spl b l ≠ []
  | [] => by simp [spl]
  | c :: l => by
    rw [spl]
    split
    · simp
    · split <;> simp
theorem spl_hit {b : UInt8} (r : List UInt8) : ∀ {p : List UInt8}, (∀ c ∈ p, c ≠ b) → spl b (p ++ b :: r) = p :: spl b r
  | [], _ => by rw [List.nil_append, spl, if_pos rfl]
  | c :: p, h => by
    rw [List.cons_append, spl, if_neg (h c (by simp)), spl_hit r (fun x hx => h x (by simp [hx]))]
theorem spl_end {b : UInt8} : ∀ {p : List UInt8}, (∀ c ∈ p, c ≠ b) → spl b p = [p]
  | [], _ => rfl
  | c :: p, h => by
    rw [spl, if_neg (h c (by simp)), spl_end (fun x hx => h x (by simp [hx]))]
theorem spl_cut (b : UInt8) : ∀ l : List UInt8, (∀ c ∈ l, c ≠ b) ∨ ∃ p r, l = p ++ b :: r ∧ ∀ c ∈ p, c ≠ b
  | [] => .inl (fun _ h => by cases h)
  | c :: l => by
    by_cases hc : c = b
    · exact .inr ⟨[], l, by rw [hc]; rfl, fun _ h => by cases h⟩
    · rcases spl_cut b l with h | ⟨p, r, h1, h2⟩
      · exact .inl (fun x hx => by
          rcases List.mem_cons.1 hx with rfl | hx
          · exact hc
          · exact h x hx)
      · exact .inr ⟨c :: p, r, by rw [h1]; rfl, fun x hx => by
          rcases List.mem_cons.1 hx with rfl | hx
          · exact hc
          · exact h2 x hx⟩
theorem indexB_miss {b : UInt8} : ∀ {p : List UInt8}, (∀ c ∈ p, c ≠ b) → Lib.indexByte p b = -1
  | [], _ => rfl
  | c :: p, h => by
    have n1 : (c == b) = false := by rw [beq_eq_false_iff_ne]; exact h c (by simp)
    rw [Lib.indexByte, n1, indexB_miss (fun x hx => h x (by simp [hx]))]; rfl
theorem indexB_hit {b : UInt8} (r : List UInt8) : ∀ {p : List UInt8}, (∀ c ∈ p, c ≠ b) → Lib.indexByte (p ++ b :: r) b = p.length
  | [], _ => by rw [List.nil_append, Lib.indexByte]; simp
  | c :: p, h => by
    have n1 : (c == b) = false := by rw [beq_eq_false_iff_ne]; exact h c (by simp)
    rw [List.cons_append, Lib.indexByte, n1, indexB_hit r (fun x hx => h x (by simp [hx]))]
    have n2 : ((p.length : Int) == -1) = false := by rw [beq_eq_false_iff_ne]; omega
    simp [n2]
theorem split_spl (b : UInt8) : ∀ (n : Nat) (l : List UInt8), l.length ≤ n → Lib.splitK [b] 0 (Lib.count l [b]) l = spl b l
  | n, l, hn => by
    rcases spl_cut b l with h | ⟨p, r, rfl, h2⟩
    · have hi : Lib.index l [b] = -1 := by rw [Lib.index_one, indexB_miss h]
      rw [Lib.count_miss hi, spl_end h]; rfl
    · have hi : Lib.index (p ++ b :: r) [b] = p.length := by rw [Lib.index_one, indexB_hit r h2]
      have n2 : ((p.length : Int) == -1) = false := by rw [beq_eq_false_iff_ne]; omega
      have hd : (p ++ b :: r).drop (p.length + 1) = r := by rw [← List.drop_drop, List.drop_left]; rfl
      rw [Lib.count_hit (by simp) hi, Nat.add_comm 1, Lib.splitK, hi, n2]
      simp only [Bool.false_eq_true, if_false, Int.toNat_natCast, Nat.add_zero, List.length_singleton]
      rw [hd, List.take_left, spl_hit r h2]
      cases n with
      | zero => simp at hn
      | succ n => rw [split_spl b n r (by simp at hn; omega)]
def mkS (l : List UInt8) : ByteArray := ⟨l.toArray⟩
theorem mkS_data (l : List UInt8) : (mkS l).data.toList = l := by simp [mkS]
theorem mkS_of (s : ByteArray) : mkS s.data.toList = s := by
  apply ByteArray.ext; simp [mkS]
theorem mkS_size (l : List UInt8) : (mkS l).size = l.length := by show l.toArray.size = _; simp
theorem mkS_app (a b : List UInt8) : mkS (a ++ b) = mkS a ++ mkS b := by
  apply ByteArray.ext; apply Array.ext'; simp [mkS]
def splS (s : ByteArray) (b : UInt8) : List ByteArray := (spl b s.data.toList).map mkS
theorem map_data_inj : ∀ {L M : List ByteArray}, L.map (·.data.toList) = M.map (·.data.toList) → L = M
  | [], [], _ => rfl
  | [], m :: M, h => by simp at h
  | x :: L, [], h => by simp at h
  | x :: L, m :: M, h => by
    rw [List.map_cons, List.map_cons] at h
    injection h with h1 h2
    rw [map_data_inj h2]
    congr 1
    apply ByteArray.ext
    exact Array.ext' h1
theorem splS_tie (s : ByteArray) (b : UInt8) : Lib.splitB ⟨#[b]⟩ 0 (Lib.countB s ⟨#[b]⟩) s = splS s b := by
  apply map_data_inj
  rw [Lib.splitB_data, splS, List.map_map, show ((fun x : ByteArray => x.data.toList) ∘ mkS) = id from funext fun l => mkS_data l, List.map_id]
  exact split_spl b _ _ (Nat.le_refl _)
theorem spl_len (b : UInt8) : ∀ l : List UInt8, (spl b l).length ≤ l.length + 1
  | [] => by simp [spl]
  | c :: l => by
    have ih := spl_len b l
    rw [spl]
    split
    · simp; omega
    · split
      · simp
      · rename_i e; rw [e] at ih; simp at ih ⊢; omega
theorem spl_size (b : UInt8) : ∀ (l : List UInt8) (p : List UInt8), p ∈ spl b l → p.length ≤ l.length
  | [], p, h => by simp [spl] at h; simp [h]
  | c :: l, p, h => by
    rw [spl] at h
    split at h
    · rcases List.mem_cons.1 h with rfl | h
      · simp
      · have := spl_size b l p h; simp; omega
    · split at h
      · rw [List.mem_singleton.1 h]; simp
      · rename_i q ps e
        rcases List.mem_cons.1 h with rfl | h
        · have := spl_size b l q (by rw [e]; simp); simp; omega
        · have := spl_size b l p (by rw [e]; simp [h]); simp; omega
theorem splS_len (s : ByteArray) (b : UInt8) : (splS s b).length ≤ s.size + 1 := by
  rw [splS, List.length_map]
  have := spl_len b s.data.toList
  have e : s.data.toList.length = s.size := by simp
  omega
theorem splS_pos (s : ByteArray) (b : UInt8) : 0 < (splS s b).length := by
  rw [splS, List.length_map]
  exact List.length_pos_iff.2 (spl_ne b _)
theorem splS_size {s : ByteArray} {b : UInt8} {x : ByteArray} (h : x ∈ splS s b) : x.size ≤ s.size := by
  obtain ⟨p, hp, rfl⟩ := List.mem_map.1 h
  have := spl_size b _ p hp
  rw [mkS_size]
  have e : s.data.toList.length = s.size := by simp
  omega
theorem splS_at {s : ByteArray} {b : UInt8} (i : Nat) (h : i < (splS s b).length) : ((splS s b).getD i ByteArray.empty).size ≤ s.size := by
  rw [List.getD_eq_getElem?_getD, List.getElem?_eq_getElem h]
  exact splS_size (List.getElem_mem h)
/-- Parts that are put together, taken apart again. -/
def jnB (b : UInt8) : List (List UInt8) → List UInt8
  | [] => []
  | [p] => p
  | p :: q :: ps => p ++ b :: jnB b (q :: ps)
theorem spl_join {b : UInt8} : ∀ {ps : List (List UInt8)}, ps ≠ [] → (∀ p ∈ ps, ∀ c ∈ p, c ≠ b) → spl b (jnB b ps) = ps
  | [], h, _ => absurd rfl h
  | [p], _, h => spl_end (h p (by simp))
  | p :: q :: ps, _, h => by
    rw [jnB, spl_hit _ (h p (by simp)), spl_join (by simp) (fun x hx => h x (by simp [hx]))]
end Go.Proofs.YtljknhocfjpolaaGreatDoor
