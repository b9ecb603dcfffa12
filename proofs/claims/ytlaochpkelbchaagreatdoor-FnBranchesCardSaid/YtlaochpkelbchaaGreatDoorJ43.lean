/- A function's two results of which the first is a struct in a variable. The group of a text: the program's walk. -/
import Derived.Test.YtlaochpkelbchaaGreatDoorJ2
import Derived.Test.YtlaochpkelbchaaGreatDoorKWPgL
import Derived.Test.YtlaochpkelbchaaGreatDoorKWRd2
import Derived.Deep.RegionHeld3
namespace Go
section
variable {P : Program} {fn : Func} {p u : Tmp} {ty : TypeId} {tmps : Array Value} {w : World} {g : Nat} {t : TypeId} {cs : Array Value} {d : TypeDesc} {a : Value}
/-- Two results: a struct in a variable, and a value. -/
theorem results_ct (hp : tmps.getD p undef = .pointer (some ⟨g, 0, none⟩)) (hg : w.heap[g]? = some (.cells cs t (0, 0))) (hu : P.underlying ty = some d) (hd : (match d with | .struct _ | .array _ _ => true | _ => false) = true) (hi : (P.info? ty).map (·.size) = some cs.size)
    (h : fn.results = #[.cell p ty, .tmp u]) (ha : tmps.getD u undef = a) : (results fn tmps).run P w = .ok (.tuple #[.agg cs, a]) w := by
  simp only [Array.getD_eq_getD_getElem?] at hp ha
  simp only [results, h]
  simp [Result.andThen, hp, ha, asAddr, run_loadVar_row w g t ty cs (0, 0) d hg hu hd hi]
end
end Go
namespace Go.RowKit
theorem blkx {W W' : World} {T : Nat} {o : Obj} (ho : W.heap[T]? = some o) (hx : Ext W W') : W'.heap[T]? = some o := (hx.heap (Array.getElem?_eq_some_iff.1 ho).1).trans ho
end Go.RowKit
namespace Go.Proofs.YtlaochpkelbchaaGreatDoor
open Go.RowKit
set_option maxHeartbeats 1000000
set_option maxRecDepth 100000
def pgN (o : Option (ByteArray × List Int)) : ByteArray := (o.map (·.1)).getD ⟨#[]⟩
def pgM (o : Option (ByteArray × List Int)) : List Int := (o.map (·.2)).getD []
theorem rd_shp {w : World} {k n : Nat} {v : Value} {cs : List Value} (h : Rd w k v n cs) : ∃ p c, v = .slice p n c := by
  obtain ⟨-, p, c, e, -⟩ := h
  exact ⟨p, c, e⟩
theorem cut_size (s sep : List UInt8) : (Lib.cut s sep).1.length ≤ s.length ∧ (Lib.cut s sep).2.1.length ≤ s.length - sep.length := by
  rw [Lib.cut]
  split
  · exact ⟨by rw [List.length_take]; omega, by rw [List.length_drop]; omega⟩
  · exact ⟨Nat.le_refl _, Nat.zero_le _⟩
theorem cutN_size (s : ByteArray) : (cutN s).size ≤ s.size := by
  rw [cutN, mkS_size]
  have := (cut_size s.data.toList COL.data.toList).1
  have e : s.data.toList.length = s.size := by simp
  omega
theorem cutR_size (s : ByteArray) : (cutR s).size ≤ s.size - 2 := by
  rw [cutR, mkS_size]
  have := (cut_size s.data.toList COL.data.toList).2
  have e2 : COL.data.toList.length = 2 := rfl
  have e : s.data.toList.length = s.size := by simp
  omega
theorem impl_ParseGroup (s : ByteArray) (w : World) (hv : Vrs w) (ht : Tab w) (h : s.size ≤ 1048576) :
    Calls Tryz.prog 16 #[.string s] w fun e w' => ∃ r, e = .returned (.tuple #[.agg #[.string (pgN (PGi s)), r], .bool (PGi s).isSome]) ∧ w'.ownsRow w.heap.size 3 1 r (pgM (PGi s)).length (vInts (pgM (PGi s))) ∧ Ext w w' := by
  have hcN := cutN_size s
  have hcR := cutR_size s
  have hlen := splS_len (cutR s) 44
  have hat := fun i (hi : i < (splS (cutR s) 44).length) => splS_at (s := cutR s) i hi
  have hcut := hid (fun w hv => strings_Cut s COL w hv h)
  have hdef : PGi s = (pIs (splS (cutR s) 44)).bind fun ms => if okP s (cutN s) ms then some (cutN s, ms) else none := rfl
  have hokP : ∀ ms, okP s (cutN s) ms = (okG (cutN s) ms && decide (grpT (cutN s) ms = s)) := fun ms => rfl
  change Hid (∀ w, Vrs w → Calls Tryz.prog 42 #[.string s, .string ⟨#[58, 32]⟩] w fun e w' => e = .returned (.tuple #[.string (cutN s), .string (cutR s), .bool (Lib.cut s.data.toList COL.data.toList).2.2]) ∧ Ext w w') at hcut
  generalize (Lib.cut s.data.toList COL.data.toList).2.2 = found at hcut
  generalize PGi s = O at *
  generalize cutN s = N at *
  generalize cutR s = R at *
  have hsp := hid (fun w hv => strings_Split R 44 w hv (by omega))
  generalize splS R 44 = L at *
  have hpi := hid (fun v w h hv ht => impl_parseInts L v w h hv ht (by omega) (fun i hi => by have := hat i hi; omega))
  have Hv := hid hv
  have Ht := hid ht
  have Hdef := hid hdef
  have HokP := hid hokP
  clear hv ht hat hdef hokP
  have hB0 : Hid ((w.alloc (.cells #[.string ⟨#[]⟩, .slice none 0 0] 28)).heap[w.heap.size]? = some (.cells #[.string ⟨#[]⟩, .slice none 0 0] 28 (0, 0))) := heap_at _ rfl
  have HX0 : Hid (Ext w (w.alloc (.cells #[.string ⟨#[]⟩, .slice none 0 0] 28))) := (by repeat' (first | exact Ext.refl _ | assumption | refine Ext.alloc ?_ _ | refine Ext.ext ?_ _ | refine Ext.drew ?_ | refine Ext.drewN ?_ _))
  go_enter Tryz.func16, Tryz.ntmps16
  go_wp2_with fail
  generalize w.alloc (.cells #[.string ⟨#[]⟩, .slice none 0 0] 28) = W0 at *
  go_at_call 42
  refine (hcut.out _ (Hv.out.ext (HX0.out.trans (by repeat' (first | exact Ext.refl _ | assumption | refine Ext.alloc ?_ _ | refine Ext.ext ?_ _ | refine Ext.drew ?_ | refine Ext.drewN ?_ _))))).mono ?_
  rintro e w1 ⟨rfl, hx⟩
  have X1 := hid (And.intro (HX0.out.trans hx) (blkx hB0.out hx))
  clear hx hcut hB0 HX0
  go_wp2_with fail
  go_at_call 44
  refine (hsp.out _ (Hv.out.ext (X1.out.1.trans (by repeat' (first | exact Ext.refl _ | assumption | refine Ext.alloc ?_ _ | refine Ext.ext ?_ _ | refine Ext.drew ?_ | refine Ext.drewN ?_ _))))).mono ?_
  rintro e w2 ⟨rfl, hr, hx⟩
  have X2 := hid (And.intro (And.intro (X1.out.1.trans hx) (blkx X1.out.2 hx)) hr)
  clear hx hr hsp X1
  go_wp2_with fail
  go_at_call 43
  refine (hpi.out _ _ X2.out.2 (Hv.out.ext X2.out.1.1) (Ht.out.ext X2.out.1.1)).mono ?_
  rintro e w3 ⟨r, rfl, ho, hx⟩
  have X3 := hid (And.intro (X2.out.1.1.trans hx) (blkx X2.out.1.2 hx))
  have hsz : w.heap.size + 1 ≤ w2.heap.size := (Array.getElem?_eq_some_iff.1 X2.out.1.2).1
  obtain ⟨rp, rc, rfl⟩ := own_shape ho
  have Ho := hid (own_mono ho hsz)
  clear hx ho hpi X2 hsz
  cases hp : pIs L with
  | none =>
    have hO := Hdef.out
    rw [hp] at hO
    have HO : Hid (O = none) := hO
    rw [hp] at Ho
    obtain ⟨⟨b0, b1⟩, ⟨f0, f1⟩, hbl⟩ := box2 X3.out.2
    clear hO hp
    go_wp2
    refine bodyPost_ret (results_ct rfl (box2_set (t := 28) X3.out.2 _ _) Tryz.underlying28 rfl (by kernel_rfl) rfl rfl) rfl ⟨_, (by rw [HO.out]; rfl), ?_, ?_⟩
    · rw [HO.out]; exact World.ownsRow_nil _ _ _ _
    · exact ((X3.out.1).setCell (Nat.le_refl _) _).setCell (Nat.le_refl _) _
  | some ms =>
    rw [hp] at Ho
    have hO := Hdef.out
    rw [hp, Option.bind_some, HokP.out ms] at hO
    have hml : ms.length ≤ 1048576 := by have := pIs_len hp; omega
    have hg := hid (fun w k => impl_GroupText N ms (.slice rp ms.length rc) w k (by omega) hml)
    have hO0 := hO
    clear hp
    have hB4 : ∀ W4 : World, W4.heap[w.heap.size]? = some (.cells #[.string ⟨#[]⟩, .slice none 0 0] 28 (0, 0)) → W4.heap.size > w.heap.size := fun W4 h => (Array.getElem?_eq_some_iff.1 h).1
    have b0 : (w3.alloc (.cells #[.string N, .slice rp ms.length rc] 28)).cell? ⟨w3.heap.size, 0, none⟩ = some (.string N) := by rw [cell_of_row _ _ 0 _ _ (0, 0) (heap_at _ rfl)]; rfl
    have b1 : (w3.alloc (.cells #[.string N, .slice rp ms.length rc] 28)).cell? ⟨w3.heap.size, 1, none⟩ = some (.slice rp ms.length rc) := by rw [cell_of_row _ _ 1 _ _ (0, 0) (heap_at _ rfl)]; rfl
    have hx4 : Ext w3 (w3.alloc (.cells #[.string N, .slice rp ms.length rc] 28)) := (by repeat' (first | exact Ext.refl _ | assumption | refine Ext.alloc ?_ _ | refine Ext.ext ?_ _ | refine Ext.drew ?_ | refine Ext.drewN ?_ _))
    have X4 := hid (And.intro (X3.out.1.trans hx4) (And.intro (blkx X3.out.2 hx4) (own_ext Ho.out hx4)))
    have hlt : w.heap.size < w3.heap.size := hB4 _ X3.out.2
    clear hx4 Ho X3 hO hB4 Hdef HokP
    go_wp2_with fail
    generalize (w3.alloc (.cells #[.string N, .slice rp ms.length rc] 28)) = W4 at *
    generalize w3.heap.size = Q at *
    go_at_call 14
    refine (hg.out _ (Rd.own X4.out.2.2)).mono ?_
    rintro e w5 ⟨rfl, hx⟩
    have d0 := hx.cell b0
    have d1 := hx.cell b1
    have X5 := hid (And.intro (X4.out.1.trans hx) (And.intro (blkx X4.out.2.1 hx) (own_ext X4.out.2.2 hx)))
    clear hx b0 b1 X4 hg
    obtain ⟨⟨b0, b1⟩, ⟨f0, f1⟩, hbl⟩ := box2 X5.out.2.1
    cases e1 : okG N ms
    · rw [e1] at hO0
      have HO : Hid (O = none) := hO0
      clear hO0 e1
      go_wp2
      refine bodyPost_ret (results_ct rfl (box2_set (t := 28) X5.out.2.1 _ _) Tryz.underlying28 rfl (by kernel_rfl) rfl rfl) rfl ⟨_, (by rw [HO.out]; rfl), ?_, ?_⟩
      · rw [HO.out]; exact World.ownsRow_nil _ _ _ _
      · exact ((X5.out.1).setCell (Nat.le_refl _) _).setCell (Nat.le_refl _) _
    · rw [e1, Bool.true_and] at hO0
      rw [grT_yes e1]
      by_cases he : grpT N ms = s
      · have te := str_yes he
        rw [if_pos (by simpa using he)] at hO0
        have HO := hid hO0
        clear hO0 e1 he
        go_wp2
        refine bodyPost_ret (results_ct rfl (box2_set (t := 28) X5.out.2.1 _ _) Tryz.underlying28 rfl (by kernel_rfl) rfl rfl) rfl ⟨_, (by rw [HO.out]; rfl), ?_, ?_⟩
        · rw [HO.out]; exact own_mono (own_set (own_set X5.out.2.2 (Nat.lt_succ_self _) _) (Nat.lt_succ_self _) _) (Nat.le_succ _)
        · exact ((X5.out.1).setCell (Nat.le_refl _) _).setCell (Nat.le_refl _) _
      · have te := str_no he
        rw [if_neg (by simpa using he)] at hO0
        have HO : Hid (O = none) := hO0
        clear hO0 e1 he
        go_wp2
        refine bodyPost_ret (results_ct rfl (box2_set (t := 28) X5.out.2.1 _ _) Tryz.underlying28 rfl (by kernel_rfl) rfl rfl) rfl ⟨_, (by rw [HO.out]; rfl), ?_, ?_⟩
        · rw [HO.out]; exact World.ownsRow_nil _ _ _ _
        · exact ((X5.out.1).setCell (Nat.le_refl _) _).setCell (Nat.le_refl _) _
end Go.Proofs.YtlaochpkelbchaaGreatDoor
