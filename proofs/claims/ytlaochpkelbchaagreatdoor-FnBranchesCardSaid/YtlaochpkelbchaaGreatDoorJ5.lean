/- General words on bytes and strings. The laws' helpers on slices of strings: copy, compare, size, mark. Items: texts of letters. -/
import Derived.Test.YtlaochpkelbchaaGreatDoorJ2
import Derived.Laws.BytesArg
import Derived.Lib.BufferRead
import Derived.Shelf.Strings.SlTrimAscii
namespace Go.RowKit
def vBytes (l : List UInt8) : List Value := l.map (fun b => Value.int .u8 (b.toNat : Int))
theorem vBytes_len (l : List UInt8) : (vBytes l).length = l.length := by simp [vBytes]
/-- string(b) of a slice that reads as the bytes l. -/
theorem conv_rd {P : Program} {w : World} {src dst e : TypeId} {v : Value} {l : List UInt8} {n : Nat} (hs : P.underlying src = some (.slice e)) (he : P.underlying e = some (.int .u8)) (hd : P.underlying dst = some .string)
    (h : Rd w 1 v n (vBytes l)) : (convert src dst v).run P w = .ok (.string ⟨l.toArray⟩) w := by
  obtain ⟨h1, p, cap, rfl, h4⟩ := h
  obtain rfl : n = l.length := by rw [vBytes_len] at h1; omega
  rcases h4 with h0 | ⟨b, off, rfl, h6⟩
  · obtain rfl : l = [] := List.eq_nil_of_length_eq_zero h0
    cases p with
    | none => exact Lib.run_convert_nil_bytes w src dst e cap hs he hd
    | some a => exact run_convert_bytes_back w src dst e a cap [] hs he hd (fun j hj => by simp at hj)
  · refine run_convert_bytes_back w src dst e ⟨b, off, none⟩ cap l hs he hd (fun j hj => ?_)
    have := h6 j (by rw [vBytes_len]; exact hj)
    have hplain : (⟨b, off, none⟩ : Addr).add j = ⟨b, off + j, none⟩ := by unfold Addr.add; split <;> simp_all
    rw [hplain, this]
    simp [vBytes]
end Go.RowKit
namespace Go.Proofs.YtlaochpkelbchaaGreatDoor
open Go.RowKit
set_option maxHeartbeats 400000
set_option maxRecDepth 100000
theorem infoStr : (Tryz.prog.info? 9).map (fun i => (i.zero, i.size, i.bytes)) = some (some (.string ByteArray.empty), 1, 16) := by kernel_rfl
def vStrs (xs : List ByteArray) : List Value := xs.map Value.string
theorem vStrs_len (xs : List ByteArray) : (vStrs xs).length = xs.length := by simp [vStrs]
theorem vStrs_get (xs : List ByteArray) (i : Nat) (h : i < xs.length) : (vStrs xs)[i]? = some (.string (xs.getD i ByteArray.empty)) := by
  simp [vStrs, h]
def chars (xs : List ByteArray) : Nat := (xs.map ByteArray.size).sum
theorem chars_take (xs : List ByteArray) (k : Nat) (h : k < xs.length) : chars (xs.take (k + 1)) = chars (xs.take k) + (xs.getD k ByteArray.empty).size := by
  rw [take_snoc xs ByteArray.empty k h]
  simp [chars]
theorem chars_le (xs : List ByteArray) (k : Nat) : chars (xs.take k) ≤ chars xs := by
  have : chars xs = chars (xs.take k) + chars (xs.drop k) := by
    unfold chars
    rw [← List.sum_append, ← List.map_append, List.take_append_drop]
  omega
theorem opened_strs {H : Type} {enc : TypeId × Value → H} {W : World} {v : Value} {d : DataW H} {ps : List MemPlace} {r : Reach} {b : Nat} (hval : Value.okWide Tryz.prog W r b 68 v)
    (h : DataW.Trod enc Tryz.prog W 0 (fun _ => true) true 68 v d ps) : ∃ xs : List ByteArray, Rd W 1 v xs.length (vStrs xs) ∧ xs.length ≤ maxLen ∧ ∀ x ∈ xs, x.size ≤ maxLen := by
  obtain ⟨fuel, h⟩ := h
  obtain ⟨a, len, cap, rfl⟩ := Go.WideShapes.okWide_slice Tryz.underlying68 hval
  obtain ⟨css, h1, h2, h3⟩ := rd_of_trod (d := 3) Tryz.underlying68 (ks := [.s]) (by kernel_rfl) (by kernel_rfl) (by decide) h
  obtain ⟨xs, rfl, hx⟩ := exists_map (f := fun x => [Value.string x]) (ok := fun x => x.size ≤ maxLen) (l := css) (fun cs hcs => by
    obtain ⟨a, rfl, ⟨a, rfl, ha⟩⟩ := (h1 cs hcs).one
    exact ⟨a, rfl, ha⟩)
  have e : vStrs xs = xs.flatMap (fun x => [Value.string x]) := by
    clear h1 h2 h3 hx
    unfold vStrs
    induction xs with
    | nil => rfl
    | cons x xs ih => rw [List.map_cons, List.flatMap_cons, ih]; rfl
  exact ⟨xs, by rw [e]; exact h2.map, by simpa using h3, hx⟩
end Go.Proofs.YtlaochpkelbchaaGreatDoor
namespace Go.Proofs.YtlaochpkelbchaaGreatDoor
open Go.RowKit
set_option maxRecDepth 100000
set_option maxHeartbeats 400000
def isLet (b : UInt8) : Bool := decide (97 ≤ b.toNat) && decide (b.toNat ≤ 122)
def lets (l : List UInt8) : Bool := (List.range l.length).all (fun i => isLet (l.getD i 0))
def itm (m : Nat) (s : ByteArray) : Bool := lets s.data.toList && decide (s.size ≤ m)
def az : ByteArray := ⟨#[97, 98, 99, 100, 101, 102, 103, 104, 105, 106, 107, 108, 109, 110, 111, 112, 113, 114, 115, 116, 117, 118, 119, 120, 121, 122]⟩
theorem az_has (b : UInt8) : az.data.toList.contains b = isLet b := by
  have h : ∀ n : Fin 256, az.data.toList.contains (UInt8.ofNat n.val) = isLet (UInt8.ofNat n.val) := by decide +kernel
  have := h ⟨b.toNat, UInt8.toNat_lt b⟩
  simpa using this
theorem lets_eq (l : List UInt8) : lets l = l.all isLet := by
  unfold lets
  rw [Bool.eq_iff_iff, List.all_eq_true, List.all_eq_true]
  constructor
  · intro h x hx
    obtain ⟨i, hi, rfl⟩ := List.mem_iff_getElem.1 hx
    have := h i (List.mem_range.2 hi)
    simpa [List.getD_eq_getElem?_getD, hi] using this
  · intro h i hi
    have hi' := List.mem_range.1 hi
    have := h l[i] (List.getElem_mem hi')
    simpa [List.getD_eq_getElem?_getD, hi'] using this
theorem dropWhile_nil {α : Type} (p : α → Bool) : ∀ l : List α, l.dropWhile p = [] ↔ l.all p = true
  | [] => by simp
  | x :: l => by
    rw [List.dropWhile_cons]
    cases h : p x
    · simp [h]
    · simp only [if_true, List.all_cons, h, Bool.true_and]
      exact dropWhile_nil p l
theorem all_dropWhile {α : Type} (p : α → Bool) : ∀ l : List α, (l.dropWhile p).all p = true → l.all p = true
  | [], _ => by simp
  | x :: l, h => by
    rw [List.dropWhile_cons] at h
    cases hx : p x
    · rw [hx] at h; simpa using h
    · rw [hx] at h
      simp only [if_true] at h
      simp only [List.all_cons, hx, Bool.true_and]
      exact all_dropWhile p l h
theorem trim_nil (l : List UInt8) : (Lib.trimS l az.data.toList = []) ↔ lets l = true := by
  have e : (fun b => az.data.toList.contains b) = isLet := funext az_has
  unfold Lib.trimS Lib.trimLeftS Lib.trimRightS
  rw [e, dropWhile_nil, lets_eq, List.all_reverse]
  constructor
  · intro h
    have := all_dropWhile isLet l.reverse h
    rwa [List.all_reverse] at this
  · intro h
    have h2 : l.reverse.dropWhile isLet = [] := (dropWhile_nil _ _).2 (by rw [List.all_reverse]; exact h)
    rw [h2]; rfl
/-- The bytes of a string, one by one. -/
theorem byte_at (s : ByteArray) (i : Nat) (h : i < s.size) : s[i] = s.data.toList.getD i 0 := by
  rw [List.getD_eq_getElem?_getD, List.getElem?_eq_getElem (by simpa using h)]; rfl
theorem az_ascii : ∀ (j : Nat) b, az.data.toList[j]? = some b → b.toNat < 128 := fun j b h => by
  have hm : b ∈ az.data.toList := List.mem_of_getElem? h
  have hall : az.data.toList.all (fun b => decide (b.toNat < 128)) = true := by decide
  simpa using List.all_eq_true.1 hall b hm
def ren160 : Go.Shelf.Ren := ⟨fun x => if x = 119 then 138 else if x = 120 then 128 else if x = 137 then 137 else if x = 151 then 111 else if x = 152 then 127 else if x = 160 then 74 else if x = 197 then 108 else if x = 217 then 101 else if x = 224 then 103 else if x = 225 then 102 else if x = 227 then 91 else if x = 228 then 110 else if x = 231 then 89 else if x = 232 then 90 else if x = 233 then 92 else if x = 234 then 93 else if x = 235 then 94 else if x = 236 then 95 else if x = 260 then 126 else if x = 266 then 119 else if x = 271 then 112 else x, fun x => if x = 0 then 0 else if x = 3 then 3 else if x = 4 then 4 else if x = 5 then 5 else if x = 9 then 9 else if x = 21 then 21 else if x = 46 then 91 else if x = 105 then 116 else if x = 116 then 106 else if x = 117 then 107 else if x = 119 then 148 else if x = 124 then 110 else if x = 138 then 150 else if x = 139 then 151 else x, fun x => if x = 3 then 4 else if x = 4 then 5 else x⟩
theorem lays160 : Go.Proofs.Lays.n160 Tryz.prog ren160 := by constructor <;> first | kernel_rfl | (intro w; kernel_rfl)
theorem strings_Trim (s : ByteArray) (w : World) (h : s.size ≤ 1048576) :
    Calls Tryz.prog 74 #[.string s, .string az] w fun e w' => e = .returned (.string ⟨(Lib.trimS s.data.toList az.data.toList).toArray⟩) ∧ Ext w w' := by
  by_cases h0 : s.size = 0
  · have he : s.data.toList = [] := List.eq_nil_of_length_eq_zero (by simpa using h0)
    have hs : s = ⟨#[]⟩ := by cases s; simp at he; simp [he]
    rw [he]
    subst hs
    have e2 : Lib.trimS [] az.data.toList = [] := rfl
    rw [e2]
    exact (Any.strings_Trim_empty lays160 ⟨#[]⟩ az w (.inl rfl)).mono fun _ _ ⟨a, b⟩ => ⟨a, b ▸ Ext.refl _⟩
  · exact (Any.strings_Trim_set lays160 (fun w => by kernel_rfl) (by kernel_rfl) s az w (by decide) (by omega) (by omega) (by decide) az_ascii).mono fun _ _ ⟨a, q, b⟩ => ⟨a, by subst b; exact (((Ext.refl w).alloc _).alloc _).drewN q⟩
end Go.Proofs.YtlaochpkelbchaaGreatDoor
