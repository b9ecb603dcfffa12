/- The message of a pending: the reference's l23Whole. -/
import Derived.Test.YtnngklclehffhaaDoorKWPt2
namespace Go.Proofs.YtnngklclehffhaaDoor
open Go.RowKit
set_option maxHeartbeats 1000000
set_option maxRecDepth 100000
def catS (l : List ByteArray) : ByteArray := l.foldl (· ++ ·) ⟨#[]⟩
theorem catS_snoc (l : List ByteArray) (x : ByteArray) : catS (l ++ [x]) = catS l ++ x := by rw [catS, List.foldl_append]; rfl
theorem catS_data (l : List ByteArray) (a : ByteArray) : (l.foldl (· ++ ·) a).data.toList = a.data.toList ++ (l.map (·.data.toList)).flatten := by
  induction l generalizing a with
  | nil => simp
  | cons x r ih => rw [List.foldl_cons, ih, List.map_cons, List.flatten_cons, ← List.append_assoc]; congr 1
theorem catS_join (l : List ByteArray) : catS l = joinS l ⟨#[]⟩ := by
  have h : (catS l).data.toList = (joinS l ⟨#[]⟩).data.toList := by rw [joinS_cat, catS, catS_data]; rfl
  exact ByteArray.ext (Array.ext' h)
theorem catS_le (l : List ByteArray) (k : Nat) : (catS (l.take k)).size ≤ (joinS l ⟨#[]⟩).size := by
  rw [← catS_join]
  have e : catS l = (l.drop k).foldl (· ++ ·) (catS (l.take k)) := by rw [catS, catS, ← List.foldl_append, List.take_append_drop]
  have h : (catS l).data.toList.length = (catS (l.take k)).data.toList.length + (((l.drop k).map (·.data.toList)).flatten).length := by rw [e, catS_data, List.length_append]
  have h1 : (catS l).data.toList.length = (catS l).size := by simp
  have h2 : (catS (l.take k)).data.toList.length = (catS (l.take k)).size := by simp
  omega
theorem size_add (a b : ByteArray) : (a ++ b).size = a.size + b.size := by simp
theorem wh_no {h : List Bool} {k : Nat} (hk : k < h.length) (e : h.getD k false = false) : (!h.contains false) = false := by
  have hm : false ∈ h := by rw [← e]; exact getD_mem' hk
  rw [show h.contains false = true from List.contains_iff_mem.2 hm]; rfl
theorem wh_yes {h : List Bool} (e : ∀ k, k < h.length → h.getD k false = true) : (!h.contains false) = true := by
  have hm : h.contains false = false := by
    rw [Bool.eq_false_iff]
    intro hc
    obtain ⟨k, hk, hx⟩ := List.mem_iff_getElem.1 (List.contains_iff_mem.1 hc)
    have := e k hk
    rw [List.getD_eq_getElem?_getD, List.getElem?_eq_getElem hk, hx] at this
    exact absurd this (by decide)
  rw [hm]; rfl
theorem spec_l23Whole (p : Pnd) (u v : Value) (w : World) (hu : Rd w 1 u p.d.length (vStrs p.d)) (hv : Rd w 1 v p.h.length (vBools p.h)) (hl : p.d.length = p.h.length) (h2 : p.h.length ≤ 1048576) (hz : (joinS p.d ⟨#[]⟩).size ≤ 1048576) :
    Calls Tryd.prog 53 #[.agg #[.int .i64 p.n, u, v]] w fun e w' => e = .returned (.tuple #[.string (if whP p then joinS p.d ⟨#[]⟩ else ⟨#[]⟩), .bool (whP p)]) ∧ Ext w w' := by
  obtain ⟨n, d, h⟩ := p
  dsimp only at hu hv hl h2 hz ⊢
  obtain ⟨S, O, hSO⟩ : ∃ S O, (if whP ⟨n, d, h⟩ then joinS d ⟨#[]⟩ else ⟨#[]⟩) = S ∧ whP ⟨n, d, h⟩ = O := ⟨_, _, rfl, rfl⟩
  rw [hSO.1, hSO.2]
  have HSO := hid hSO
  have XB : Ext w (w.alloc (.cells #[.int .i64 n, u, v] 62)) := (by repeat' (first | exact Ext.refl _ | assumption | refine Ext.alloc ?_ _ | refine Ext.ext ?_ _ | refine Ext.drew ?_ | refine Ext.drewN ?_ _))
  have HB : (w.alloc (.cells #[.int .i64 n, u, v] 62)).heap[w.heap.size]? = some (.cells #[.int .i64 n, u, v] 62 (0, 0)) := heap_at _ rfl
  have Hu := hid (hu.ext XB)
  have Hv := hid (hv.ext XB)
  obtain ⟨p, cap, rfl, h4⟩ := rd_block hu
  obtain ⟨p', cap', rfl, h4'⟩ := rd_block hv
  have H4 := hid h4
  have H4' := hid h4'
  have Hl := hid hl
  have hct : Hid (∀ k, k < d.length → catS (d.take (k + 1)) = catS (d.take k) ++ d.getD k ByteArray.empty) := fun k hk => by rw [take_snoc d ByteArray.empty k hk, catS_snoc]
  have Hsz : Hid (∀ k, (catS (d.take k)).size ≤ 1048576) := fun k => Nat.le_trans (catS_le d k) hz
  clear hu hv h4 h4' hSO hl hz
  go_enter Tryd.func53, Tryd.ntmps53
  go_wp2_with fail
  generalize (w.alloc (.cells #[.int .i64 n, .slice p d.length cap, .slice p' h.length cap'] 62)) = W at *
  obtain ⟨⟨b0, b1, b2⟩, -, -⟩ := box3 HB
  generalize w.heap.size = Q at *
  go_loopw [5, 4] (fun v5 v4 wr => ∃ k : Nat, k ≤ h.length ∧ v5 = .int .i64 k ∧ v4 = .string (catS (d.take k)) ∧ Hid (∀ i, i < k → h.getD i false = true) ∧ Ext W wr) (fun v5 _ _ => h.length - (intOf v5).toNat)
  case atStart => exact ⟨0, Nat.zero_le _, rfl, rfl, fun _ h => absurd h (Nat.not_lt_zero _), Ext.refl _⟩
  case round =>
    obtain ⟨k, hk, rfl, rfl, hall, z, rfl⟩ := hrel
    by_cases hlt : k < h.length
    · have hkd : k < d.length := by have := Hl.out; omega
      obtain ⟨b, off, rfl⟩ := H4.out.resolve_left (by omega)
      obtain ⟨b', off', rfl⟩ := H4'.out.resolve_left (by omega)
      have c0 := strs_at Hu.out k hkd
      have d0 := bools_at Hv.out k hlt
      have hck := hct.out k hkd
      have hs0 := Hsz.out k
      have hs1 := Hsz.out (k + 1)
      have hs2 := size_add (catS (d.take k)) (d.getD k ByteArray.empty)
      rw [hck, hs2] at hs1
      clear hs2
      have next := hid (fun e => upTo_succ (p := fun i => h.getD i false = true) hall.out (k := k) e)
      have bad := hid (fun e => wh_no (h := h) hlt e)
      generalize d.getD k ByteArray.empty = s at *
      generalize h.getD k false = hb at *
      generalize catS (d.take k) = C at *
      have Hck := hid hck
      have n1 : (k : Int) < (d.length : Int) := by omega
      have n2 : (k : Int) < (h.length : Int) := by omega
      have n0 : (0 : Int) ≤ (k : Int) := by omega
      clear hall hck
      cases hb
      · have HO : Hid (O = false ∧ S = ⟨#[]⟩) := by
          have h0 : whP ⟨n, d, h⟩ = false := bad.out rfl
          have h9 := HSO.out
          rw [h0] at h9
          exact ⟨h9.2.symm, h9.1.symm⟩
        clear next bad
        go_wp2
        go_ret2
        exact ⟨by rw [HO.out.1, HO.out.2]; rfl, XB.trans (by repeat' (first | exact Ext.refl _ | assumption | refine Ext.alloc ?_ _ | refine Ext.ext ?_ _ | refine Ext.drew ?_ | refine Ext.drewN ?_ _))⟩
      · have Nx := hid (next.out rfl)
        clear next bad
        go_wp2
        go_roundw
        case rel => exact ⟨k + 1, by omega, by go_num, by rw [Hck.out], Nx, (by repeat' (first | exact Ext.refl _ | assumption | refine Ext.alloc ?_ _ | refine Ext.ext ?_ _ | refine Ext.drew ?_ | refine Ext.drewN ?_ _))⟩
        case measure => simp [intOf]; omega
    · obtain rfl : k = h.length := by omega
      have HO : Hid (O = true ∧ S = catS (d.take h.length)) := by
        have h0 : whP ⟨n, d, h⟩ = true := wh_yes hall.out
        have h9 := HSO.out
        rw [h0] at h9
        refine ⟨h9.2.symm, ?_⟩
        rw [List.take_of_length_le (by have := Hl.out; omega), catS_join]
        exact h9.1.symm
      clear hall
      go_wp2
      go_ret2
      exact ⟨by rw [HO.out.1, HO.out.2]; rfl, XB.trans (by repeat' (first | exact Ext.refl _ | assumption | refine Ext.alloc ?_ _ | refine Ext.ext ?_ _ | refine Ext.drew ?_ | refine Ext.drewN ?_ _))⟩
end Go.Proofs.YtnngklclehffhaaDoor
