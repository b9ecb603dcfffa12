/- General words on bytes and strings. The laws' helpers on slices of strings: copy, compare, size, mark. Items: texts of letters. -/
import Derived.Test.YtljknhocfjpolaaGreatDoorJ2
import Derived.Laws.BytesArg
import Derived.Lib.BufferRead
import Derived.Shelf.Strings.SlTrimAscii
namespace Go.RowKit
def vBytes (l : List UInt8) : List Value := l.map (fun b => Value.int .u8 (b.toNat : Int))
theorem vBytes_len (l : List UInt8) : (vBytes l).length = l.length := by simp [vBytes]
/-- string(b) of a slice that reads as the bytes l. -/
theorem conv_rd {P : Program} {w : World} {src dst e : TypeId} {v : Value} {l : List UInt8} {n : Nat} (hs : P.underlying src = some (.slice e)) (he : P.underlying e = some (.int .u8)) (hd : P.underlying dst = some .string)
    (h : Rd w 1 v n (vBytes l)) : (convert src dst v).run P w = .ok (.string ⟨l.toArray⟩) w := by
  obtain ⟨h1, p, cap, rfl, h4⟩ := h
  obtain rfl : n = l.length := by rw [vBytes_len] at h1; omega
  rcases h4 with h0 | ⟨b, off, rfl, h6⟩
  · obtain rfl : l = [] := List.eq_nil_of_length_eq_zero h0
    cases p with
    | none => exact Lib.run_convert_nil_bytes w src dst e cap hs he hd
    | some a => exact run_convert_bytes_back w src dst e a cap [] hs he hd (fun j hj => by simp at hj)
  · refine run_convert_bytes_back w src dst e ⟨b, off, none⟩ cap l hs he hd (fun j hj => ?_)
    have := h6 j (by rw [vBytes_len]; exact hj)
    have hplain : (⟨b, off, none⟩ : Addr).add j = ⟨b, off + j, none⟩ := by unfold Addr.add; split <;> simp_all
    rw [hplain, this]
    simp [vBytes]
end Go.RowKit
namespace Go.Proofs.YtljknhocfjpolaaGreatDoor
open Go.RowKit
set_option maxHeartbeats 400000
set_option maxRecDepth 100000
theorem infoStr : (Tryz.prog.info? 9).map (fun i => (i.zero, i.size, i.bytes)) = some (some (.string ByteArray.empty), 1, 16) := by kernel_rfl
def vStrs (xs : List ByteArray) : List Value := xs.map Value.string
theorem vStrs_len (xs : List ByteArray) : (vStrs xs).length = xs.length := by simp [vStrs]
theorem vStrs_get (xs : List ByteArray) (i : Nat) (h : i < xs.length) : (vStrs xs)[i]? = some (.string (xs.getD i ByteArray.empty)) := by
  simp [vStrs, h]
def chars (xs : List ByteArray) : Nat := (xs.map ByteArray.size).sum
theorem chars_take (xs : List ByteArray) (k : Nat) (h : k < xs.length) : chars (xs.take (k + 1)) = chars (xs.take k) + (xs.getD k ByteArray.empty).size := by
  rw [take_snoc xs ByteArray.empty k h]
  simp [chars]
theorem chars_le (xs : List ByteArray) (k : Nat) : chars (xs.take k) ≤ chars xs := by
  have : chars xs = chars (xs.take k) + chars (xs.drop k) := by
    unfold chars
    rw [← List.sum_append, ← List.map_append, List.take_append_drop]
  omega
theorem laws_markText (k : Int) (w : World) (hk : 0 < k) (hk1 : k ≤ 1099511627776) :
    Calls Tryz.prog 45 #[.int .i64 k] w fun e w' => ∃ s, e = .returned (.string s) ∧ Ext w w' := by
  have t0 : decide (k ≤ 0) = false := by simp; omega
  go_enter Tryz.func45, Tryz.ntmps45
  go_wp2
  go_loopw [0, 3] (fun v0 v3 wr => ∃ (m : Nat) (s : ByteArray), s.size + m ≤ 1099511627776 ∧ v0 = .int .i64 m ∧ v3 = .string s ∧ Ext w wr) (fun v0 _ _ => (intOf v0).toNat)
  case atStart => exact ⟨k.toNat, ByteArray.empty, by simp; omega, by rw [Int.toNat_of_nonneg (by omega)], rfl, Ext.refl _⟩
  case round =>
    obtain ⟨m, s, hm, rfl, rfl, hx⟩ := hrel
    have Hx := hid hx
    clear hx
    have hs1 : ¬ 9223372036854775807 < 1 + s.size := by omega
    by_cases h0 : 0 < m
    · have t1 : decide ((0 : Int) < m) = true := by simp; omega
      have w1 : IntKind.i64.wrap (48 + (m : Int) % 10) = 48 + (m : Int) % 10 := IntWalk.i64_in _ (by omega)
      have w2 : IntKind.u8.wrap (48 + (m : Int) % 10) = 48 + (m : Int) % 10 := by
        exact IntWalk.u8_in _ (by omega)
      have hb : ((UInt8.ofNat (48 + m % 10)).toNat : Int) = 48 + (m : Int) % 10 := by
        rw [UInt8.toNat_ofNat_of_lt' (by show _ < 256; omega)]
        omega
      have hr : Rd (wr.alloc (.cells #[.int .u8 (48 + (m : Int) % 10)] 5)) 1 (.slice (some ⟨wr.heap.size, 0, none⟩) 1 1) 1 (vBytes [UInt8.ofNat (48 + m % 10)]) := by
        have := Rd.own (World.ownsRow_lit (base := 0) (e := 5) (size := 1) wr #[.int .u8 (48 + (m : Int) % 10)] 1 (Nat.zero_le _) (by decide) rfl)
        have e : vBytes [UInt8.ofNat (48 + m % 10)] = [.int .u8 (48 + (m : Int) % 10)] := by simp only [vBytes, List.map_cons, List.map_nil, hb]
        rw [e]
        simpa using this
      have hcv := conv_rd (P := Tryz.prog) Tryz.underlying28 Tryz.underlying5 Tryz.underlying9 hr
      clear hr hb
      go_wp2
      go_roundw
      case rel =>
        refine ⟨m / 10, _, ?_, by go_num, rfl, Hx.out.alloc _⟩
        rw [ByteArray.size_append]
        show 1 + s.size + m / 10 ≤ _
        omega
      case measure => simp [intOf]; omega
    · obtain rfl : m = 0 := by omega
      go_wp2
      go_ret
      exact ⟨_, rfl, Hx.out⟩
theorem opened_strs {H : Type} {enc : TypeId × Value → H} {W : World} {v : Value} {d : DataW H} {ps : List MemPlace} {r : Reach} {b : Nat} (hval : Value.okWide Tryz.prog W r b 53 v)
    (h : DataW.Trod enc Tryz.prog W 0 (fun _ => true) true 53 v d ps) : ∃ xs : List ByteArray, Rd W 1 v xs.length (vStrs xs) ∧ xs.length ≤ maxLen ∧ ∀ x ∈ xs, x.size ≤ maxLen := by
  obtain ⟨fuel, h⟩ := h
  obtain ⟨a, len, cap, rfl⟩ := Go.WideShapes.okWide_slice Tryz.underlying53 hval
  obtain ⟨css, h1, h2, h3⟩ := rd_of_trod (d := 3) Tryz.underlying53 (ks := [.s]) (by kernel_rfl) (by kernel_rfl) (by decide) h
  obtain ⟨xs, rfl, hx⟩ := exists_map (f := fun x => [Value.string x]) (ok := fun x => x.size ≤ maxLen) (l := css) (fun cs hcs => by
    obtain ⟨a, rfl, ⟨a, rfl, ha⟩⟩ := (h1 cs hcs).one
    exact ⟨a, rfl, ha⟩)
  have e : vStrs xs = xs.flatMap (fun x => [Value.string x]) := by
    clear h1 h2 h3 hx
    unfold vStrs
    induction xs with
    | nil => rfl
    | cons x xs ih => rw [List.map_cons, List.flatMap_cons, ih]; rfl
  exact ⟨xs, by rw [e]; exact h2.map, by simpa using h3, hx⟩
end Go.Proofs.YtljknhocfjpolaaGreatDoor
namespace Go.Proofs.YtljknhocfjpolaaGreatDoor
open Go.RowKit
set_option maxRecDepth 100000
set_option maxHeartbeats 400000
def isLet (b : UInt8) : Bool := decide (97 ≤ b.toNat) && decide (b.toNat ≤ 122)
def lets (l : List UInt8) : Bool := (List.range l.length).all (fun i => isLet (l.getD i 0))
def itm (m : Nat) (s : ByteArray) : Bool := lets s.data.toList && decide (s.size ≤ m)
def az : ByteArray := ⟨#[97, 98, 99, 100, 101, 102, 103, 104, 105, 106, 107, 108, 109, 110, 111, 112, 113, 114, 115, 116, 117, 118, 119, 120, 121, 122]⟩
theorem az_has (b : UInt8) : az.data.toList.contains b = isLet b := by
  have h : ∀ n : Fin 256, az.data.toList.contains (UInt8.ofNat n.val) = isLet (UInt8.ofNat n.val) := by decide +kernel
  have := h ⟨b.toNat, UInt8.toNat_lt b⟩
  simpa using this
theorem lets_eq (l : List UInt8) : lets l = l.all isLet := by
  unfold lets
  rw [Bool.eq_iff_iff, List.all_eq_true, List.all_eq_true]
  constructor
  · intro h x hx
    obtain ⟨i, hi, rfl⟩ := List.mem_iff_getElem.1 hx
    have := h i (List.mem_range.2 hi)
    simpa [List.getD_eq_getElem?_getD, hi] using this
  · intro h i hi
    have hi' := List.mem_range.1 hi
    have := h l[i] (List.getElem_mem hi')
    simpa [List.getD_eq_getElem?_getD, hi'] using this
theorem dropWhile_nil {α : Type} (p : α → Bool) : ∀ l : List α, l.dropWhile p = [] ↔ l.all p = true
  | [] => by simp
  | x :: l => by
    rw [List.dropWhile_cons]
    cases h : p x
    · simp [h]
    · simp only [if_true, List.all_cons, h, Bool.true_and]
      exact dropWhile_nil p l
theorem all_dropWhile {α : Type} (p : α → Bool) : ∀ l : List α, (l.dropWhile p).all p = true → l.all p = true
  | [], _ => by simp
  | x :: l, h => by
    rw [List.dropWhile_cons] at h
    cases hx : p x
    · rw [hx] at h; simpa using h
    · rw [hx] at h
      simp only [if_true] at h
      simp only [List.all_cons, hx, Bool.true_and]
      exact all_dropWhile p l h
theorem trim_nil (l : List UInt8) : (Lib.trimS l az.data.toList = []) ↔ lets l = true := by
  have e : (fun b => az.data.toList.contains b) = isLet := funext az_has
  unfold Lib.trimS Lib.trimLeftS Lib.trimRightS
  rw [e, dropWhile_nil, lets_eq, List.all_reverse]
  constructor
  · intro h
    have := all_dropWhile isLet l.reverse h
    rwa [List.all_reverse] at this
  · intro h
    have h2 : l.reverse.dropWhile isLet = [] := (dropWhile_nil _ _).2 (by rw [List.all_reverse]; exact h)
    rw [h2]; rfl
/-- The bytes of a string, one by one. -/
theorem byte_at (s : ByteArray) (i : Nat) (h : i < s.size) : s[i] = s.data.toList.getD i 0 := by
  rw [List.getD_eq_getElem?_getD, List.getElem?_eq_getElem (by simpa using h)]; rfl
theorem az_ascii : ∀ (j : Nat) b, az.data.toList[j]? = some b → b.toNat < 128 := fun j b h => by
  have hm : b ∈ az.data.toList := List.mem_of_getElem? h
  have hall : az.data.toList.all (fun b => decide (b.toNat < 128)) = true := by decide
  simpa using List.all_eq_true.1 hall b hm
def ren160 : Go.Shelf.Ren := ⟨fun x => if x = 119 then 188 else if x = 120 then 181 else if x = 137 then 85 else if x = 151 then 162 else if x = 152 then 180 else if x = 160 then 123 else if x = 197 then 152 else if x = 217 then 116 else if x = 224 then 168 else if x = 225 then 167 else if x = 227 then 144 else if x = 228 then 161 else if x = 231 then 142 else if x = 232 then 143 else if x = 233 then 145 else if x = 234 then 146 else if x = 235 then 147 else if x = 236 then 148 else if x = 260 then 166 else if x = 266 then 135 else if x = 271 then 163 else x, fun x => if x = 0 then 0 else if x = 3 then 3 else if x = 4 then 4 else if x = 5 then 5 else if x = 9 then 9 else if x = 21 then 21 else if x = 46 then 103 else if x = 105 then 130 else if x = 116 then 124 else if x = 117 then 125 else if x = 119 then 153 else if x = 124 then 128 else if x = 138 then 155 else if x = 139 then 156 else x, fun x => if x = 3 then 2 else if x = 4 then 3 else x⟩
theorem lays160 : Go.Proofs.Lays.n160 Tryz.prog ren160 := by constructor <;> first | kernel_rfl | (intro w; kernel_rfl)
theorem strings_Trim (s : ByteArray) (w : World) (h : s.size ≤ 1048576) :
    Calls Tryz.prog 123 #[.string s, .string az] w fun e w' => e = .returned (.string ⟨(Lib.trimS s.data.toList az.data.toList).toArray⟩) ∧ Ext w w' := by
  by_cases h0 : s.size = 0
  · have he : s.data.toList = [] := List.eq_nil_of_length_eq_zero (by simpa using h0)
    have hs : s = ⟨#[]⟩ := by cases s; simp at he; simp [he]
    rw [he]
    subst hs
    have e2 : Lib.trimS [] az.data.toList = [] := rfl
    rw [e2]
    exact (Any.strings_Trim_empty lays160 ⟨#[]⟩ az w (.inl rfl)).mono fun _ _ ⟨a, b⟩ => ⟨a, b ▸ Ext.refl _⟩
  · exact (Any.strings_Trim_set lays160 (fun w => by kernel_rfl) (by kernel_rfl) s az w (by decide) (by omega) (by omega) (by decide) az_ascii).mono fun _ _ ⟨a, q, b⟩ => ⟨a, by subst b; exact (((Ext.refl w).alloc _).alloc _).drewN q⟩
theorem lit_az : Value.string ⟨#[97, 98, 99, 100, 101, 102, 103, 104, 105, 106, 107, 108, 109, 110, 111, 112, 113, 114, 115, 116, 117, 118, 119, 120, 121, 122]⟩ = .string az := rfl
theorem impl_isItem (s : ByteArray) (w : World) (h : s.size ≤ 1048576) :
    Calls Tryz.prog 94 #[.string s] w fun e w' => e = .returned (.bool (itm 8 s)) ∧ Ext w w' := by
  by_cases h8 : s.size ≤ 8
  · have hi : itm 8 s = lets s.data.toList := by simp [itm, h8]
    have ht := strings_Trim s
    have hn := trim_nil s.data.toList
    rw [hi]
    generalize Lib.trimS s.data.toList az.data.toList = l at ht hn
    have Hn := hid hn
    clear hn hi
    cases hl : l.isEmpty
    · have t0 : ((⟨l.toArray⟩ : ByteArray).toList.isEmpty) = false := by rw [Lib.toList_data]; exact hl
      have t1 : (!(⟨l.toArray⟩ : ByteArray).toList.isEmpty) = true := by rw [t0]; rfl
      have hlt : lets s.data.toList = false := by
        cases h : lets s.data.toList
        · rfl
        · rw [Hn.out.2 h] at hl; simp at hl
      rw [hlt]
      have Ht := hid ht
      have Hl := hid hl
      clear ht hl hlt
      go_enter Tryz.func94, Tryz.ntmps94
      go_wp2_with fail
      go_at_call 123
      refine (Ht.out w h).mono ?_
      rintro e w' ⟨rfl, z, rfl⟩
      go_wp2
      go_ret
      exact ⟨by rw [Hl.out]; rfl, (by repeat' (first | exact Ext.refl _ | assumption | refine Ext.alloc ?_ _ | refine Ext.ext ?_ _ | refine Ext.drew ?_ | refine Ext.drewN ?_ _))⟩
    · have hl0 : l = [] := by simpa using hl
      have hlt : lets s.data.toList = true := Hn.out.1 hl0
      subst hl0
      rw [hlt]
      have Ht := hid ht
      clear ht hl hlt
      go_enter Tryz.func94, Tryz.ntmps94
      go_wp2_with fail
      go_at_call 123
      refine (Ht.out w h).mono ?_
      rintro e w' ⟨rfl, z, rfl⟩
      go_wp2
      go_ret
      exact ⟨rfl, (by repeat' (first | exact Ext.refl _ | assumption | refine Ext.alloc ?_ _ | refine Ext.ext ?_ _ | refine Ext.drew ?_ | refine Ext.drewN ?_ _))⟩
  · have hi : itm 8 s = false := by simp [itm, h8]
    rw [hi]
    have t0 : decide ((s.size : Int) ≤ 8) = false := by simp; omega
    clear hi
    go_enter Tryz.func94, Tryz.ntmps94
    go_wp2
    go_ret
    exact ⟨rfl, (by repeat' (first | exact Ext.refl _ | assumption | refine Ext.alloc ?_ _ | refine Ext.ext ?_ _ | refine Ext.drew ?_ | refine Ext.drewN ?_ _))⟩
theorem spec_l4Letters (s : ByteArray) (m : Nat) (w : World) (h : s.size ≤ 1048576) (_hm : m ≤ 1048576) :
    Calls Tryz.prog 134 #[.string s, .int .i64 m] w fun e w' => e = .returned (.bool (itm m s)) ∧ Ext w w' := by
  go_enter Tryz.func134, Tryz.ntmps134
  go_wp2
  go_loopw [5] (fun v5 wr => ∃ k : Nat, k ≤ s.size ∧ v5 = .int .i64 k ∧ (∀ i, i < k → isLet (s.data.toList.getD i 0) = true) ∧ Ext w wr) (fun v5 _ => s.size - (intOf v5).toNat)
  case atStart => exact ⟨0, Nat.zero_le _, rfl, fun _ h => absurd h (Nat.not_lt_zero _), Ext.refl _⟩
  case round =>
    obtain ⟨k, hk, rfl, hall, z, rfl⟩ := hrel
    by_cases hlt : k < s.size
    · have hb := byte_at s k hlt
      have next : isLet (s.data.toList.getD k 0) = true → ∀ i, i < k + 1 → isLet (s.data.toList.getD i 0) = true := fun h => upTo_succ hall h
      have bad : isLet (s.data.toList.getD k 0) = false → itm m s = false := fun h => by
        have : lets s.data.toList = false := allUpto (by simpa using hlt) h
        simp [itm, this]
      rw [← hb] at next bad
      have hd : isLet s[k] = (decide (97 ≤ s[k].toNat) && decide (s[k].toNat ≤ 122)) := rfl
      clear hb hall
      have Next := hid next
      have Bad := hid bad
      clear next bad
      by_cases h1 : 97 ≤ s[k].toNat
      · have t1 : decide ((s[k].toNat : Int) < 97) = false := by simp; omega
        by_cases h2 : s[k].toNat ≤ 122
        · have t2 : decide ((122 : Int) < (s[k].toNat : Int)) = false := by simp; omega
          have hy : isLet s[k] = true := by simp [hd, h1, h2]
          have Hy := hid hy
          clear hy hd h1 h2
          go_wp2
          go_roundw
          case rel => exact ⟨k + 1, by omega, by go_num, Next.out Hy.out, (by repeat' (first | exact Ext.refl _ | assumption | refine Ext.alloc ?_ _ | refine Ext.ext ?_ _ | refine Ext.drew ?_ | refine Ext.drewN ?_ _))⟩
          case measure => simp [intOf]; omega
        · have t2 : decide ((122 : Int) < (s[k].toNat : Int)) = true := by simp; omega
          have hy : isLet s[k] = false := by simp [hd, h2]
          have Hy := hid hy
          clear hy hd h1 h2
          go_wp2
          go_ret
          exact ⟨by rw [Bad.out Hy.out]; rfl, (by repeat' (first | exact Ext.refl _ | assumption | refine Ext.alloc ?_ _ | refine Ext.ext ?_ _ | refine Ext.drew ?_ | refine Ext.drewN ?_ _))⟩
      · have t1 : decide ((s[k].toNat : Int) < 97) = true := by simp; omega
        have hy : isLet s[k] = false := by simp [hd, h1]
        have Hy := hid hy
        clear hy hd h1
        go_wp2
        go_ret
        exact ⟨by rw [Bad.out Hy.out]; rfl, (by repeat' (first | exact Ext.refl _ | assumption | refine Ext.alloc ?_ _ | refine Ext.ext ?_ _ | refine Ext.drew ?_ | refine Ext.drewN ?_ _))⟩
    · have hf : lets s.data.toList = true := allTo (fun i hi => hall i (by simp at hi; omega))
      have hr : itm m s = decide (s.size ≤ m) := by simp [itm, hf]
      have Hr := hid hr
      clear hr hf hall
      go_wp2
      go_ret
      exact ⟨by rw [Hr.out]; rfl, (by repeat' (first | exact Ext.refl _ | assumption | refine Ext.alloc ?_ _ | refine Ext.ext ?_ _ | refine Ext.drew ?_ | refine Ext.drewN ?_ _))⟩
end Go.Proofs.YtljknhocfjpolaaGreatDoor
