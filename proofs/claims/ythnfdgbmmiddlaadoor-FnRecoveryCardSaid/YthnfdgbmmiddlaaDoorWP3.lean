/- Parities: what a text says. -/
import Derived.Test.YthnfdgbmmiddlaaDoorWP2
namespace Go.Proofs.YthnfdgbmmiddlaaDoor
open Go.RowKit
set_option maxHeartbeats 400000
def pn (c : UInt8) : Int := Lib.indexByte abc.data.toList c
def pnums (s : ByteArray) : List Int := s.data.toList.map pn
theorem pn_all : ((List.range 256).all fun n => pn (UInt8.ofNat n) == (if n = 45 then 0 else if 97 ≤ n ∧ n ≤ 122 then (n : Int) - 96 else -1)) = true := by decide +kernel
theorem pn_eq (c : UInt8) : pn c = if c.toNat = 45 then 0 else if 97 ≤ c.toNat ∧ c.toNat ≤ 122 then (c.toNat : Int) - 96 else -1 := by
  have h1 := (List.all_eq_true.1 pn_all) c.toNat (List.mem_range.2 c.toNat_lt)
  rw [UInt8.ofNat_toNat, beq_iff_eq] at h1
  exact h1
def parsedP (s : ByteArray) : List Int := if isPar (pnums s) then pnums s else []
theorem parsedP_no {s : ByteArray} (h : isPar (pnums s) = false) : parsedP s = [] := by simp [parsedP, h]
theorem parsedP_yes {s : ByteArray} (h : isPar (pnums s) = true) : parsedP s = pnums s := by simp [parsedP, h]
theorem pnums_len (s : ByteArray) : (pnums s).length = s.size := by show _ = s.data.size; rw [pnums, List.length_map, Array.length_toList]
theorem pnums_get (s : ByteArray) (k : Nat) (h : k < s.size) : (pnums s).getD k 0 = pn (s[k]'h) := by
  have h' : k < (pnums s).length := by rw [pnums_len]; exact h
  rw [List.getD_eq_getElem?_getD, List.getElem?_eq_getElem h']
  simp only [pnums, List.getElem_map, Option.getD_some]
  rfl
theorem pnums_snoc (s : ByteArray) (k : Nat) (h : k < s.size) : (pnums s).take (k + 1) = (pnums s).take k ++ [pn (s[k]'h)] := by
  rw [take_snoc (pnums s) 0 k (by rw [pnums_len]; exact h), pnums_get s k h]
theorem vInts_snoc (xs : List Int) (x : Int) : vInts (xs ++ [x]) = vInts xs ++ [.int .i64 x] := by simp [vInts]
theorem abc_IndexByte (b : UInt8) (w : World) :
    Calls Tryd.prog 48 #[.string ⟨#[45, 97, 98, 99, 100, 101, 102, 103, 104, 105, 106, 107, 108, 109, 110, 111, 112, 113, 114, 115, 116, 117, 118, 119, 120, 121, 122]⟩, .int .u8 (b.toNat : Int)] w
      fun e w' => e = .returned (.int .i64 (pn b)) ∧ w = w' := by
  have h := strings_IndexByte abc (b.toNat : Int) w
  have e : ((b.toNat : Int).toNat).toUInt8 = b := by simp
  rw [e] at h
  exact h
theorem impl_ParseParity (s : ByteArray) (w : World) (h2 : s.size ≤ 1048576) :
    Calls Tryd.prog 15 #[.string s] w fun e w' => ∃ r, e = .returned (.tuple #[r, .bool (isPar (pnums s))]) ∧ w'.ownsRow w.heap.size 3 1 r (parsedP s).length (vInts (parsedP s)) ∧ Ext w w' := by
  obtain ⟨i0, hi, hz0, hz1, hz2⟩ := info_parts infoInt
  go_enter Tryd.func15, Tryd.ntmps15
  go_wp2
  go_loopw [8, 4] (fun v8 v4 wr => ∃ k : Nat, k ≤ s.size ∧ v8 = .int .i64 k ∧ wr.ownsRow w.heap.size 3 1 v4 k (vInts ((pnums s).take k)) ∧ Ext w wr) (fun v8 _ _ => s.size - (intOf v8).toNat)
  case atStart => exact ⟨0, Nat.zero_le _, rfl, World.ownsRow_nil _ _ _ _, Ext.refl _⟩
  case round =>
    obtain ⟨k, hk, rfl, hown, hx⟩ := hrel
    have Hx := hid hx; clear hx
    by_cases hlt : k < s.size
    · have hsn := pnums_snoc s k hlt
      have Hsn := hid hsn; clear hsn
      go_wp2_with (first | (go_at_call 48; refine (abc_IndexByte _ _).mono ?_; rintro e w' ⟨rfl, rfl⟩) | (at_builtin; refine wpList_append_own _ rfl _ _ 25 rfl w.heap.size 3 i0 (.int .i64 0) 1 8 Tryd.underlying25 hi hz0 hz1 hz2 rfl (by decide) _ _ _ rfl (hown.alloc _) ⟨_, 0, none⟩ 1 1 [.int .i64 (pn (s[k]'hlt))] rfl rfl ?c1 ?c2 ?c3 ?c4 ?c5 ?_))
      case c1 =>
        intro j u hj
        cases j with
        | zero => simp at hj; subst hj; simp [Addr.add]
        | succ j => simp at hj
      case c2 => simp [Value.oneCell']
      case c3 => unfold maxLen; simp; omega
      case c4 => omega
      case c5 => have := Hx.out.size; simp; omega
      intro v' w1 hown' hgrow _
      have hx2 : Ext w w1 := (Hx.out.alloc _).grown hgrow (fun j hj => (hown.lt j hj).1)
      have Hx2 := hid hx2; clear hx2 hgrow
      go_wp2
      go_roundw
      case rel => exact ⟨k + 1, by omega, by go_num, by rw [Hsn.out, vInts_snoc]; exact hown', Hx2.out⟩
      case measure => simp [intOf]; omega
    · obtain rfl : k = s.size := by omega
      rw [List.take_of_length_le (by rw [pnums_len]; exact Nat.le_refl _)] at hown
      have hr := Rd.own hown
      rw [← pnums_len] at hr
      have h3 : (pnums s).length ≤ 1048576 := by rw [pnums_len]; exact h2
      have Hr := hid hr; clear hr
      have Hown := hid hown; clear hown
      cases hp : isPar (pnums s)
      · have Hp := hid hp
        go_wp2_with (go_at_call 35; refine (impl_isParity (pnums s) _ _ (by simpa [pnums_len] using Hr.out) h3).mono ?_; rintro e w' ⟨rfl, z1, rfl⟩)
        go_ret2
        rw [parsedP_no Hp.out, Hp.out]
        exact ⟨_, rfl, World.ownsRow_nil _ _ _ _, Hx.out.ext _⟩
      · have Hp := hid hp
        go_wp2_with (go_at_call 35; refine (impl_isParity (pnums s) _ _ (by simpa [pnums_len] using Hr.out) h3).mono ?_; rintro e w' ⟨rfl, z1, rfl⟩)
        go_ret2
        rw [parsedP_yes Hp.out, Hp.out]
        exact ⟨_, rfl, by simpa [pnums_len] using own_ext Hown.out ⟨_, rfl⟩, Hx.out.ext _⟩
/-- What one sign says to the reference. -/
def okC (c : UInt8) : Bool := inB (pn c) 0 26
theorem spec_ParseParity (s : ByteArray) (w : World) (h2 : s.size ≤ 1048576) :
    Calls Tryd.prog 18 #[.string s] w fun e w' => ∃ r, e = .returned (.tuple #[r, .bool (isPar (pnums s))]) ∧ w'.ownsRow w.heap.size 3 1 r (parsedP s).length (vInts (parsedP s)) ∧ Ext w w' := by
  obtain ⟨i0, hi, hz0, hz1, hz2⟩ := info_parts infoInt
  go_enter Tryd.func18, Tryd.ntmps18
  go_wp2
  go_loopw [5, 4] (fun v5 v4 wr => ∃ k : Nat, k ≤ s.size ∧ k ≤ 9 ∧ v5 = .int .i64 k ∧ (∀ i, i < k → inB ((pnums s).getD i 0) 0 26 = true) ∧ wr.ownsRow w.heap.size 3 1 v4 k (vInts ((pnums s).take k)) ∧ Ext w wr) (fun v5 _ _ => s.size - (intOf v5).toNat)
  case atStart => exact ⟨0, Nat.zero_le _, by omega, rfl, fun _ h => absurd h (Nat.not_lt_zero _), World.ownsRow_lit w #[] 0 (Nat.le_refl _) (Nat.zero_le _) rfl, (by repeat' (first | exact Ext.refl _ | assumption | refine Ext.alloc ?_ _ | refine Ext.ext ?_ _ | refine Ext.drew ?_ | refine Ext.drewN ?_ _))⟩
  case round =>
    obtain ⟨k, hk, hk9, rfl, hall, hown, hx⟩ := hrel
    have Hx := hid hx; clear hx
    by_cases hlt : k < s.size ∧ k ≤ 8
    · obtain ⟨hlt, hk8⟩ := hlt
      have next : inB (pn (s[k]'hlt)) 0 26 = true → ∀ i, i < k + 1 → inB ((pnums s).getD i 0) 0 26 = true := fun h => upTo_succ hall (by rw [pnums_get s k hlt]; exact h)
      have bad : inB (pn (s[k]'hlt)) 0 26 = false → isPar (pnums s) = false := fun h => by
        rw [isPar_mk, allIn, allUpto (k := k) (by rw [pnums_len]; exact hlt) (by rw [pnums_get s k hlt]; exact h), Bool.and_false]
      have hsn := pnums_snoc s k hlt
      have hpn := pn_eq (s[k]'hlt)
      have hl6 := (s[k]'hlt).toNat_lt
      clear hall
      have Next := hid next; clear next
      have Bad := hid bad; clear bad
      have Hsn := hid hsn; clear hsn
      have Hpn := hid hpn; clear hpn
      by_cases h45 : (s[k]'hlt).toNat = 45
      · have t0 : (((s[k]'hlt).toNat : Int) != 45) = false := by rw [h45]; rfl
        have e0 : pn (s[k]'hlt) = 0 := by rw [Hpn.out, if_pos h45]
        have E0 := hid e0; clear e0 h45
        go_wp2_with (first | (go_at_call 52; refine (spec_l1In _ _ _ _).mono ?_; rintro e w' ⟨rfl, rfl⟩) | (at_builtin; refine wpList_append_own _ rfl _ _ 25 rfl w.heap.size 3 i0 (.int .i64 0) 1 8 Tryd.underlying25 hi hz0 hz1 hz2 rfl (by decide) _ _ _ rfl (hown.alloc _) ⟨_, 0, none⟩ 1 1 [.int .i64 0] rfl rfl ?c1 ?c2 ?c3 ?c4 ?c5 ?_))
        case c1 =>
          intro j u hj
          cases j with
          | zero => simp at hj; subst hj; simp [Addr.add]
          | succ j => simp at hj
        case c2 => simp [Value.oneCell']
        case c3 => unfold maxLen; simp; omega
        case c4 => omega
        case c5 => have := Hx.out.size; simp; omega
        intro v' w1 hown' hgrow _
        have hx2 : Ext w w1 := (Hx.out.alloc _).grown hgrow (fun j hj => (hown.lt j hj).1)
        have Hx2 := hid hx2; clear hx2 hgrow
        go_wp2
        go_roundw
        case rel => exact ⟨k + 1, by omega, by omega, by go_num, Next.out (by rw [E0.out]; rfl), by rw [Hsn.out, vInts_snoc, E0.out]; exact hown', Hx2.out⟩
        case measure => simp [intOf]; omega
      · have t0 : (((s[k]'hlt).toNat : Int) != 45) = true := by simp; omega
        by_cases hin : 97 ≤ (s[k]'hlt).toNat ∧ (s[k]'hlt).toNat ≤ 122
        · have e0 : pn (s[k]'hlt) = ((s[k]'hlt).toNat : Int) - 97 + 1 := by rw [Hpn.out, if_neg h45, if_pos hin]; omega
          have t1 : inB (((s[k]'hlt).toNat : Int) - 97 + 1) 1 26 = true := by rw [inB_iff]; omega
          have hok : inB (pn (s[k]'hlt)) 0 26 = true := by rw [e0, inB_iff]; omega
          have Hok := hid hok; clear hok
          have E0 := hid e0; clear e0 h45 hin
          go_wp2_with (first | (go_at_call 52; refine (spec_l1In _ _ _ _).mono ?_; rintro e w' ⟨rfl, rfl⟩) | (at_builtin; refine wpList_append_own _ rfl _ _ 25 rfl w.heap.size 3 i0 (.int .i64 0) 1 8 Tryd.underlying25 hi hz0 hz1 hz2 rfl (by decide) _ _ _ rfl (hown.alloc _) ⟨_, 0, none⟩ 1 1 [.int .i64 (((s[k]'hlt).toNat : Int) - 97 + 1)] rfl rfl ?c1 ?c2 ?c3 ?c4 ?c5 ?_))
          case c1 =>
            intro j u hj
            cases j with
            | zero => simp at hj; subst hj; simp [Addr.add]
            | succ j => simp at hj
          case c2 => simp [Value.oneCell']
          case c3 => unfold maxLen; simp; omega
          case c4 => omega
          case c5 => have := Hx.out.size; simp; omega
          intro v' w1 hown' hgrow _
          have hx2 : Ext w w1 := (Hx.out.alloc _).grown hgrow (fun j hj => (hown.lt j hj).1)
          have Hx2 := hid hx2; clear hx2 hgrow
          go_wp2
          go_roundw
          case rel => exact ⟨k + 1, by omega, by omega, by go_num, Next.out Hok.out, by rw [Hsn.out, vInts_snoc, E0.out]; exact hown', Hx2.out⟩
          case measure => simp [intOf]; omega
        · have e0 : isPar (pnums s) = false := Bad.out (by rw [Hpn.out, if_neg h45, if_neg hin]; rfl)
          have t1 : inB (((s[k]'hlt).toNat : Int) - 97 + 1) 1 26 = false := by
            rw [← Bool.not_eq_true, inB_iff]; omega
          clear h45 hin
          have E0 := hid e0; clear e0
          go_wp2_with (go_at_call 52; refine (spec_l1In _ _ _ _).mono ?_; rintro e w' ⟨rfl, rfl⟩)
          go_ret2
          rw [E0.out, parsedP_no E0.out]
          exact ⟨_, rfl, World.ownsRow_lit wr #[] 0 (Hx.out.size) (Nat.zero_le _) rfl, Hx.out.alloc _⟩
    · have hcase : isPar (pnums s) = decide (s.size = 8) ∧ (s.size = 8 → k = 8) := by
        constructor
        · by_cases h8 : s.size = 8
          · have : allIn (pnums s) = true := allTo (fun i hi => hall i (by rw [pnums_len] at hi; omega))
            rw [isPar_mk, this, pnums_len, h8]; rfl
          · rw [isPar_mk, pnums_len]; simp [h8]; intro h; omega
        · omega
      obtain ⟨hc1, hc2⟩ := hcase
      obtain ⟨pq, cq, rfl⟩ := own_shape hown
      have Hown := hid hown; clear hown hall
      by_cases h8 : s.size = 8
      · obtain rfl := hc2 h8
        have t0 : ((s.size : Int) != 8) = false := by rw [h8]; rfl
        have t1 : decide ((8 : Int) < s.size) = false := by rw [h8]; rfl
        have hp : isPar (pnums s) = true := by rw [hc1]; simp [h8]
        have H8 := hid h8; clear h8 hc1 hc2
        have Hp := hid hp; clear hp
        rw [List.take_of_length_le (by rw [pnums_len, H8.out]; exact Nat.le_refl _)] at Hown
        go_wp2
        go_ret2
        rw [parsedP_yes Hp.out, Hp.out]
        exact ⟨_, rfl, by rw [pnums_len, H8.out]; exact Hown.out, Hx.out⟩
      · have hp : isPar (pnums s) = false := by rw [hc1]; simp [h8]
        have Hp := hid hp; clear hp hc1 hc2
        by_cases hks : k < s.size
        · obtain rfl : k = 9 := by omega
          have t0 : decide ((9 : Int) < s.size) = true := by simp; omega
          clear hlt
          go_wp2
          go_ret2
          rw [parsedP_no Hp.out, Hp.out]
          exact ⟨_, rfl, World.ownsRow_lit wr #[] 0 (Hx.out.size) (Nat.zero_le _) rfl, Hx.out.alloc _⟩
        · obtain rfl : k = s.size := by omega
          have t0 : ((s.size : Int) != 8) = true := by simp; omega
          clear hlt
          go_wp2
          go_ret2
          rw [parsedP_no Hp.out, Hp.out]
          exact ⟨_, rfl, World.ownsRow_lit wr #[] 0 (Hx.out.size) (Nat.zero_le _) rfl, Hx.out.alloc _⟩
end Go.Proofs.YthnfdgbmmiddlaaDoor
