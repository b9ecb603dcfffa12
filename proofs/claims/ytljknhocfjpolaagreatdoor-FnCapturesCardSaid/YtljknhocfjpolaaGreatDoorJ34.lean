/- Two captures joined: the program's walk. The laws' comparison of captures. A text's parts between bytes, in plain words. -/
import Derived.Test.YtljknhocfjpolaaGreatDoorKWConc
import Derived.Test.YtljknhocfjpolaaGreatDoorKWSort
import Derived.Test.YtljknhocfjpolaaGreatDoorKWJoinC
import Derived.Test.YtljknhocfjpolaaGreatDoorKWFCaptured
import Derived.Deep.DeepCutAuto
import Derived.Test.YtljknhocfjpolaaGreatDoorJ2
import Derived.Lib.Split
import Derived.Lib.IndexBytes
namespace Go.Proofs.YtljknhocfjpolaaGreatDoor
open Go.RowKit
set_option maxHeartbeats 1000000
set_option maxRecDepth 100000
theorem jD_len (a b : List Cap) : (jD a b).length ≤ 1048576 := by
  rw [jD]
  split
  · rename_i h
    rw [jB, Bool.and_eq_true, Bool.and_eq_true, decide_eq_true_eq] at h
    rw [← insTo_all a b (srt_of h.1) (srt_of h.2.1), insTo_len, List.length_append]
    omega
  · simp
theorem impl_JoinCaptures (a b : List Cap) (va vb : Value) (w : World) (h : Rd w 8 va a.length (a.flatMap Cap.cs)) (k : Rd w 8 vb b.length (b.flatMap Cap.cs)) (h2 : a.length ≤ 1048576) (k2 : b.length ≤ 1048576) (h3 : Cap.chars a ≤ 1048576) (k3 : Cap.chars b ≤ 1048576) :
    Calls Tryz.prog 25 #[va, vb] w fun e w' => ∃ r, e = .returned (.tuple #[r, .bool (jB a b)]) ∧ w'.ownsRow w.heap.size 48 8 r (jD a b).length ((jD a b).flatMap Cap.cs) ∧ Ext w w' := by
  have Ha := hid h
  have Hb := hid k
  obtain ⟨-, pa, ca, rfl, -⟩ := h
  obtain ⟨-, pb, cb, rfl, -⟩ := k
  have hA := hid (fun w h => impl_IsCapture a (.slice pa a.length ca) w h h2 h3)
  have hB := hid (fun w h => impl_IsCapture b (.slice pb b.length cb) w h k2 k3)
  have t1 : IntKind.i64.wrap ((a.length : Int) + (b.length : Int)) = (a.length : Int) + (b.length : Int) := IntWalk.i64_in _ (by omega)
  cases hj : jB a b
  · have hD : jD a b = [] := by rw [jD, hj]; rfl
    rw [hD]
    cases e1 : capB a
    · rw [e1] at hA
      clear e1 hj hD
      go_enter Tryz.func25, Tryz.ntmps25
      go_wp2_with fail
      go_at_call 15
      refine (hA.out _ Ha.out).mono ?_
      rintro e w1 ⟨rfl, hx⟩
      have Hx := hid hx
      clear hx
      go_wp2
      go_ret2
      exact ⟨_, rfl, World.ownsRow_nil _ _ _ _, Hx.out⟩
    · rw [e1] at hA
      cases e2 : capB b
      · rw [e2] at hB
        clear e1 e2 hj hD
        go_enter Tryz.func25, Tryz.ntmps25
        go_wp2_with fail
        go_at_call 15
        refine (hA.out _ Ha.out).mono ?_
        rintro e w1 ⟨rfl, hx⟩
        have Hx := hid hx
        clear hx hA
        go_wp2_with fail
        go_at_call 15
        refine (hB.out _ (Hb.out.ext Hx.out)).mono ?_
        rintro e w2 ⟨rfl, hx⟩
        have Hx2 := hid (Hx.out.trans hx)
        clear hx
        go_wp2
        go_ret2
        exact ⟨_, rfl, World.ownsRow_nil _ _ _ _, Hx2.out⟩
      · rw [e2] at hB
        have hl : ¬ a.length + b.length ≤ 10 := fun h => by rw [jB, e1, e2, decide_eq_true h] at hj; cases hj
        have t2 : decide ((10 : Int) < (a.length : Int) + (b.length : Int)) = true := by simp; omega
        clear e1 e2 hj hD
        go_enter Tryz.func25, Tryz.ntmps25
        go_wp2_with fail
        go_at_call 15
        refine (hA.out _ Ha.out).mono ?_
        rintro e w1 ⟨rfl, hx⟩
        have Hx := hid hx
        clear hx hA
        go_wp2_with fail
        go_at_call 15
        refine (hB.out _ (Hb.out.ext Hx.out)).mono ?_
        rintro e w2 ⟨rfl, hx⟩
        have Hx2 := hid (Hx.out.trans hx)
        clear hx
        go_wp2
        go_ret2
        exact ⟨_, rfl, World.ownsRow_nil _ _ _ _, Hx2.out⟩
  · have hD : jD a b = mg a b := by rw [jD, hj]; rfl
    have hj9 := hj
    rw [jB, Bool.and_eq_true, Bool.and_eq_true, decide_eq_true_eq] at hj9
    obtain ⟨e1, e2, hl⟩ := hj9
    rw [e1] at hA
    rw [e2] at hB
    have hsort := insTo_all a b (srt_of e1) (srt_of e2)
    have hlen : (a ++ b).length = (mg a b).length := by rw [← hsort, insTo_len]
    rw [hD]
    have t2 : decide ((10 : Int) < (a.length : Int) + (b.length : Int)) = false := by simp; omega
    clear e1 e2 hj hD
    go_enter Tryz.func25, Tryz.ntmps25
    go_wp2_with fail
    go_at_call 15
    refine (hA.out _ Ha.out).mono ?_
    rintro e w1 ⟨rfl, hx⟩
    have Hx := hid hx
    clear hx hA
    go_wp2_with fail
    go_at_call 15
    refine (hB.out _ (Hb.out.ext Hx.out)).mono ?_
    rintro e w2 ⟨rfl, hx⟩
    have Hx2 := hid (Hx.out.trans hx)
    clear hx hB Hx
    go_wp2_with fail
    go_at_call 66
    have XC : Ext w2 (w2.alloc (.cells #[.slice pa a.length ca, .slice pb b.length cb] 22)) := (by repeat' (first | exact Ext.refl _ | assumption | refine Ext.alloc ?_ _ | refine Ext.ext ?_ _ | refine Ext.drew ?_ | refine Ext.drewN ?_ _))
    have q0 : (w2.alloc (.cells #[.slice pa a.length ca, .slice pb b.length cb] 22)).cell? ⟨w2.heap.size, 0, none⟩ = some (.slice pa a.length ca) := by rw [cell_of_row _ _ 0 _ _ (0, 0) (heap_at _ rfl)]; rfl
    have q1 : (w2.alloc (.cells #[.slice pa a.length ca, .slice pb b.length cb] 22)).cell? ⟨w2.heap.size, 0 + 1, none⟩ = some (.slice pb b.length cb) := by rw [cell_of_row _ _ (0 + 1) _ _ (0, 0) (heap_at _ rfl)]; rfl
    refine (slices_Concat_caps a b _ _ w2.heap.size 0 _ (Ha.out.ext (Hx2.out.trans XC)) (Hb.out.ext (Hx2.out.trans XC)) q0 q1 hl).mono ?_
    rintro e w3 ⟨r, rfl, ho, hx⟩
    have HO := hid (own_mono ho (Hx2.out.trans XC).size)
    have HX := hid ((Hx2.out.trans XC).trans hx)
    have hlen2 : (a ++ b).length ≤ 10 := by rw [List.length_append]; exact hl
    have hs := hid (fun w h => slices_SortStable_cap (a ++ b) w.heap.size _ r w h rfl hlen2)
    obtain ⟨rp, rc, rfl⟩ := own_shape ho
    clear ho hx XC q0 q1 Hx2
    have hs2 := hid (slices_SortStable_cap (a ++ b) w.heap.size (a ++ b).length (.slice rp (a ++ b).length rc) w3 HO.out rfl hlen2)
    have hown := hid (fun j e => (HO.out.lt j e).1)
    have HL := hid hlen
    have HS := hid hsort
    clear hs hlen hsort hlen2 HO
    generalize (a ++ b).length = N at *
    go_wp2_with fail
    go_at_call 67
    refine (hs2.out).mono ?_
    rintro e w4 ⟨rfl, ho, hg⟩
    have HF : Hid (w4.ownsRow w.heap.size 48 8 (.slice rp N rc) (mg a b).length ((mg a b).flatMap Cap.cs) ∧ Ext w w4) := by
      refine ⟨?_, HX.out.grown hg hown.out⟩
      rw [← HL.out, ← HS.out]
      exact ho
    clear ho hg
    go_wp2
    go_ret2
    exact ⟨_, rfl, HF.out.1, HF.out.2⟩
end Go.Proofs.YtljknhocfjpolaaGreatDoor
namespace Go.Proofs.YtljknhocfjpolaaGreatDoor
open Go.RowKit
set_option maxHeartbeats 1000000
set_option maxRecDepth 100000
theorem laws_rCaptures (xs : List Cap) (v u : Value) (w : World) (hv : Rd w 8 v xs.length (xs.flatMap Cap.cs)) (hu : Rd w 8 u xs.length (xs.flatMap Cap.cs)) (hn : xs.length ≤ 1048576) :
    Calls Tryz.prog 16 #[v, u] w fun e w' => e = .returned (.bool true) ∧ Ext w w' := by
  obtain ⟨h1, p, cap, rfl, h4⟩ := hv
  obtain ⟨h1', p', cap', rfl, h4'⟩ := hu
  clear h1 h1'
  have H4 := hid h4; clear h4
  have H4' := hid h4'; clear h4'
  go_enter Tryz.func16, Tryz.ntmps16
  go_wp2
  go_loopw [5] (fun v5 wr => ∃ (k : Nat), k ≤ xs.length ∧ v5 = .int .i64 k ∧ Ext w wr) (fun v5 _ => xs.length - (intOf v5).toNat)
  case atStart => exact ⟨0, Nat.zero_le _, rfl, Ext.refl _⟩
  case round =>
    obtain ⟨k, hk, rfl, z, rfl⟩ := hrel
    by_cases hlt : k < xs.length
    · obtain ⟨b, off, rfl, h6⟩ := H4.out.resolve_left (by omega)
      obtain ⟨b', off', rfl, h6'⟩ := H4'.out.resolve_left (by omega)
      obtain ⟨c0, c1, c2, c3, c4, c5, c6, c7⟩ := Cap.at xs h6 k hlt
      obtain ⟨e0, e1, e2, e3, e4, e5, e6, e7⟩ := Cap.at xs h6' k hlt
      generalize xs.getD k .z = d at c0 e0 c1 e1 c2 e2 c3 e3 c4 e4 c5 e5 c6 e6 c7 e7
      have H6 := hid h6; clear h6
      have H6' := hid h6'; clear h6'
      go_wp2
      refine wp_region_ext (by kernel_rfl) (by kernel_rfl) ?_
      repeat (go_big_quiet_step ((first | fail)))
      refine wpQuiet_nil ?_
      rintro _ ⟨zq, rfl⟩
      go_wp2
      go_roundw
      case rel => exact ⟨k + 1, by omega, by go_num, ((Ext.refl _).ext _).ext _⟩
      case measure => simp [intOf]; omega
    · go_wp2
      go_ret
      exact ⟨rfl, (Ext.refl _).ext _⟩
end Go.Proofs.YtljknhocfjpolaaGreatDoor
namespace Go.Proofs.YtljknhocfjpolaaGreatDoor
open Go.RowKit
set_option maxHeartbeats 400000
def spl (b : UInt8) : List UInt8 → List (List UInt8)
  | [] => [[]]
  | c :: l => if c = b then [] :: spl b l else match spl b l with
    | [] => [[c]]
    | p :: ps => (c :: p) :: ps
theorem spl_ne (b : UInt8) : ∀ l, spl b l ≠ []
  | [] => by simp [spl]
  | c :: l => by
    rw [spl]
    split
    · simp
    · split <;> simp
theorem spl_hit {b : UInt8} (r : List UInt8) : ∀ {p : List UInt8}, (∀ c ∈ p, c ≠ b) → spl b (p ++ b :: r) = p :: spl b r
  | [], _ => by rw [List.nil_append, spl, if_pos rfl]
  | c :: p, h => by
    rw [List.cons_append, spl, if_neg (h c (by simp)), spl_hit r (fun x hx => h x (by simp [hx]))]
theorem spl_end {b : UInt8} : ∀ {p : List UInt8}, (∀ c ∈ p, c ≠ b) → spl b p = [p]
  | [], _ => rfl
  | c :: p, h => by
    rw [spl, if_neg (h c (by simp)), spl_end (fun x hx => h x (by simp [hx]))]
theorem spl_cut (b : UInt8) : ∀ l : List UInt8, (∀ c ∈ l, c ≠ b) ∨ ∃ p r, l = p ++ b :: r ∧ ∀ c ∈ p, c ≠ b
  | [] => .inl (fun _ h => by cases h)
  | c :: l => by
    by_cases hc : c = b
    · exact .inr ⟨[], l, by rw [hc]; rfl, fun _ h => by cases h⟩
    · rcases spl_cut b l with h | ⟨p, r, h1, h2⟩
      · exact .inl (fun x hx => by
          rcases List.mem_cons.1 hx with rfl | hx
          · exact hc
          · exact h x hx)
      · exact .inr ⟨c :: p, r, by rw [h1]; rfl, fun x hx => by
          rcases List.mem_cons.1 hx with rfl | hx
          · exact hc
          · exact h2 x hx⟩
theorem indexB_miss {b : UInt8} : ∀ {p : List UInt8}, (∀ c ∈ p, c ≠ b) → Lib.indexByte p b = -1
  | [], _ => rfl
  | c :: p, h => by
    have n1 : (c == b) = false := by rw [beq_eq_false_iff_ne]; exact h c (by simp)
    rw [Lib.indexByte, n1, indexB_miss (fun x hx => h x (by simp [hx]))]; rfl
theorem indexB_hit {b : UInt8} (r : List UInt8) : ∀ {p : List UInt8}, (∀ c ∈ p, c ≠ b) → Lib.indexByte (p ++ b :: r) b = p.length
  | [], _ => by rw [List.nil_append, Lib.indexByte]; simp
  | c :: p, h => by
    have n1 : (c == b) = false := by rw [beq_eq_false_iff_ne]; exact h c (by simp)
    rw [List.cons_append, Lib.indexByte, n1, indexB_hit r (fun x hx => h x (by simp [hx]))]
    have n2 : ((p.length : Int) == -1) = false := by rw [beq_eq_false_iff_ne]; omega
    simp [n2]
theorem split_spl (b : UInt8) : ∀ (n : Nat) (l : List UInt8), l.length ≤ n → Lib.splitK [b] 0 (Lib.count l [b]) l = spl b l
  | n, l, hn => by
    rcases spl_cut b l with h | ⟨p, r, rfl, h2⟩
    · have hi : Lib.index l [b] = -1 := by rw [Lib.index_one, indexB_miss h]
      rw [Lib.count_miss hi, spl_end h]; rfl
    · have hi : Lib.index (p ++ b :: r) [b] = p.length := by rw [Lib.index_one, indexB_hit r h2]
      have n2 : ((p.length : Int) == -1) = false := by rw [beq_eq_false_iff_ne]; omega
      have hd : (p ++ b :: r).drop (p.length + 1) = r := by rw [← List.drop_drop, List.drop_left]; rfl
      rw [Lib.count_hit (by simp) hi, Nat.add_comm 1, Lib.splitK, hi, n2]
      simp only [Bool.false_eq_true, if_false, Int.toNat_natCast, Nat.add_zero, List.length_singleton]
      rw [hd, List.take_left, spl_hit r h2]
      cases n with
      | zero => simp at hn
      | succ n => rw [split_spl b n r (by simp at hn; omega)]
def mkS (l : List UInt8) : ByteArray := ⟨l.toArray⟩
theorem mkS_data (l : List UInt8) : (mkS l).data.toList = l := by simp [mkS]
theorem mkS_of (s : ByteArray) : mkS s.data.toList = s := by
  apply ByteArray.ext; simp [mkS]
theorem mkS_size (l : List UInt8) : (mkS l).size = l.length := by show l.toArray.size = _; simp
theorem mkS_app (a b : List UInt8) : mkS (a ++ b) = mkS a ++ mkS b := by
  apply ByteArray.ext; apply Array.ext'; simp [mkS]
def splS (s : ByteArray) (b : UInt8) : List ByteArray := (spl b s.data.toList).map mkS
theorem map_data_inj : ∀ {L M : List ByteArray}, L.map (·.data.toList) = M.map (·.data.toList) → L = M
  | [], [], _ => rfl
  | [], m :: M, h => by simp at h
  | x :: L, [], h => by simp at h
  | x :: L, m :: M, h => by
    rw [List.map_cons, List.map_cons] at h
    injection h with h1 h2
    rw [map_data_inj h2]
    congr 1
    apply ByteArray.ext
    exact Array.ext' h1
theorem splS_tie (s : ByteArray) (b : UInt8) : Lib.splitB ⟨#[b]⟩ 0 (Lib.countB s ⟨#[b]⟩) s = splS s b := by
  apply map_data_inj
  rw [Lib.splitB_data, splS, List.map_map, show ((fun x : ByteArray => x.data.toList) ∘ mkS) = id from funext fun l => mkS_data l, List.map_id]
  exact split_spl b _ _ (Nat.le_refl _)
theorem spl_len (b : UInt8) : ∀ l : List UInt8, (spl b l).length ≤ l.length + 1
  | [] => by simp [spl]
  | c :: l => by
    have ih := spl_len b l
    rw [spl]
    split
    · simp; omega
    · split
      · simp
      · rename_i e; rw [e] at ih; simp at ih ⊢; omega
theorem spl_size (b : UInt8) : ∀ (l : List UInt8) (p : List UInt8), p ∈ spl b l → p.length ≤ l.length
  | [], p, h => by simp [spl] at h; simp [h]
  | c :: l, p, h => by
    rw [spl] at h
    split at h
    · rcases List.mem_cons.1 h with rfl | h
      · simp
      · have := spl_size b l p h; simp; omega
    · split at h
      · rw [List.mem_singleton.1 h]; simp
      · rename_i q ps e
        rcases List.mem_cons.1 h with rfl | h
        · have := spl_size b l q (by rw [e]; simp); simp; omega
        · have := spl_size b l p (by rw [e]; simp [h]); simp; omega
theorem splS_len (s : ByteArray) (b : UInt8) : (splS s b).length ≤ s.size + 1 := by
  rw [splS, List.length_map]
  have := spl_len b s.data.toList
  have e : s.data.toList.length = s.size := by simp
  omega
theorem splS_pos (s : ByteArray) (b : UInt8) : 0 < (splS s b).length := by
  rw [splS, List.length_map]
  exact List.length_pos_iff.2 (spl_ne b _)
theorem splS_size {s : ByteArray} {b : UInt8} {x : ByteArray} (h : x ∈ splS s b) : x.size ≤ s.size := by
  obtain ⟨p, hp, rfl⟩ := List.mem_map.1 h
  have := spl_size b _ p hp
  rw [mkS_size]
  have e : s.data.toList.length = s.size := by simp
  omega
theorem splS_at {s : ByteArray} {b : UInt8} (i : Nat) (h : i < (splS s b).length) : ((splS s b).getD i ByteArray.empty).size ≤ s.size := by
  rw [List.getD_eq_getElem?_getD, List.getElem?_eq_getElem h]
  exact splS_size (List.getElem_mem h)
/-- Parts that are put together, taken apart again. -/
def jnB (b : UInt8) : List (List UInt8) → List UInt8
  | [] => []
  | [p] => p
  | p :: q :: ps => p ++ b :: jnB b (q :: ps)
theorem spl_join {b : UInt8} : ∀ {ps : List (List UInt8)}, ps ≠ [] → (∀ p ∈ ps, ∀ c ∈ p, c ≠ b) → spl b (jnB b ps) = ps
  | [], h, _ => absurd rfl h
  | [p], _, h => spl_end (h p (by simp))
  | p :: q :: ps, _, h => by
    rw [jnB, spl_hit _ (h p (by simp)), spl_join (by simp) (fun x hx => h x (by simp [hx]))]
end Go.Proofs.YtljknhocfjpolaaGreatDoor
