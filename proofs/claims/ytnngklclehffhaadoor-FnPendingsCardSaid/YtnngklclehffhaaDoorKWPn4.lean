/- Lists of pendings in the laws' own words: comparisons, sizes. -/
import Derived.Test.YtnngklclehffhaaDoorKWPn3
import Derived.Test.YtnngklclehffhaaDoorJ8
namespace Go.Proofs.YtnngklclehffhaaDoor
open Go.RowKit
set_option maxHeartbeats 400000
set_option maxRecDepth 100000
theorem laws_eqPending (n : Int) (d : List ByteArray) (h : List Bool) (u v u' v' : Value) (w : World) (hu : Rd w 1 u d.length (vStrs d)) (hv : Rd w 1 v h.length (vBools h)) (hu' : Rd w 1 u' d.length (vStrs d)) (hv' : Rd w 1 v' h.length (vBools h)) (h2 : d.length ≤ 1048576) (k2 : h.length ≤ 1048576) :
    Calls Tryd.prog 42 #[.agg #[.int .i64 n, u, v], .agg #[.int .i64 n, u', v']] w fun e w' => e = .returned (.bool true) ∧ Ext w w' := by
  have c1 := hid (fun w a b => laws_eqStringS d u u' w a b h2)
  have c2 := hid (fun w a b => laws_eqBoolS h v v' w a b k2)
  have Hu := hid hu
  have Hu' := hid hu'
  have Hv := hid hv
  have Hv' := hid hv'
  clear hu hu' hv hv'
  go_enter Tryd.func42, Tryd.ntmps42
  go_wp2_with fail
  go_at_call 80
  refine (c1.out _ (Hu.out.ext (by repeat' (first | exact Ext.refl _ | assumption | refine Ext.alloc ?_ _ | refine Ext.ext ?_ _ | refine Ext.drew ?_ | refine Ext.drewN ?_ _))) (Hu'.out.ext (by repeat' (first | exact Ext.refl _ | assumption | refine Ext.alloc ?_ _ | refine Ext.ext ?_ _ | refine Ext.drew ?_ | refine Ext.drewN ?_ _)))).mono ?_
  rintro e w' ⟨rfl, z1, rfl⟩
  go_wp2_with fail
  go_at_call 81
  refine (c2.out _ (Hv.out.ext (by repeat' (first | exact Ext.refl _ | assumption | refine Ext.alloc ?_ _ | refine Ext.ext ?_ _ | refine Ext.drew ?_ | refine Ext.drewN ?_ _))) (Hv'.out.ext (by repeat' (first | exact Ext.refl _ | assumption | refine Ext.alloc ?_ _ | refine Ext.ext ?_ _ | refine Ext.drew ?_ | refine Ext.drewN ?_ _)))).mono ?_
  rintro e w' ⟨rfl, z2, rfl⟩
  go_wp2
  go_ret
  exact ⟨rfl, (by repeat' (first | exact Ext.refl _ | assumption | refine Ext.alloc ?_ _ | refine Ext.ext ?_ _ | refine Ext.drew ?_ | refine Ext.drewN ?_ _))⟩
theorem laws_eqPendingS (ps : List Pnd) (es ds : List Pe) (v u : Value) (w : World) (hv : PRd w v ps es) (hu : PRd w u ps ds) (hn : ps.length ≤ 1048576) (hm : ∀ i, i < ps.length → (ps.getD i .z).d.length ≤ 1048576 ∧ (ps.getD i .z).h.length ≤ 1048576) :
    Calls Tryd.prog 13 #[v, u] w fun e w' => e = .returned (.bool true) ∧ Ext w w' := by
  have Hv := hid hv
  have Hu := hid hu
  have Hm := hid hm
  obtain ⟨p, cap, rfl, h4⟩ := hv.form
  obtain ⟨p', cap', rfl, h4'⟩ := hu.form
  have H4 := hid h4
  have H4' := hid h4'
  clear h4 h4' hv hu hm
  go_enter Tryd.func13, Tryd.ntmps13
  go_wp2
  go_loopw [5] (fun v5 wr => ∃ (k : Nat), k ≤ ps.length ∧ v5 = .int .i64 k ∧ Ext w wr) (fun v5 _ => ps.length - (intOf v5).toNat)
  case atStart => exact ⟨0, Nat.zero_le _, rfl, Ext.refl _⟩
  case round =>
    obtain ⟨k, hk, rfl, z, rfl⟩ := hrel
    by_cases hlt : k < ps.length
    · obtain ⟨b, off, rfl⟩ := H4.out.resolve_left (by omega)
      obtain ⟨b', off', rfl⟩ := H4'.out.resolve_left (by omega)
      obtain ⟨⟨c0, c1, c2⟩, hcr⟩ := Hv.out.at k hlt
      obtain ⟨⟨d0, d1, d2⟩, hdr⟩ := Hu.out.at k hlt
      have hc := hid (fun w a b c d => laws_eqPending (ps.getD k .z).n (ps.getD k .z).d (ps.getD k .z).h (es.getD k .z).u (es.getD k .z).v (ds.getD k .z).u (ds.getD k .z).v w a b c d (Hm.out k hlt).1 (Hm.out k hlt).2)
      have Hcr := hid hcr
      have Hdr := hid hdr
      clear hcr hdr
      generalize ps.getD k .z = G at *
      generalize (es.getD k .z).u = x at *
      generalize (ds.getD k .z).u = y at *
      generalize (es.getD k .z).v = x' at *
      generalize (ds.getD k .z).v = y' at *
      obtain ⟨n, d, h⟩ := G
      dsimp only at c0 d0 hc Hcr Hdr
      go_wp2
      refine wp_region_ext (by kernel_rfl) (by kernel_rfl) ?_
      repeat (go_big_quiet_step ((first | (go_at_call 42; exact Calls.quiet_ext (hc.out _ (Hcr.out.1.ext (by repeat' (first | exact Ext.refl _ | assumption | refine Ext.alloc ?_ _ | refine Ext.ext ?_ _ | refine Ext.drew ?_ | refine Ext.drewN ?_ _))) (Hcr.out.2.ext (by repeat' (first | exact Ext.refl _ | assumption | refine Ext.alloc ?_ _ | refine Ext.ext ?_ _ | refine Ext.drew ?_ | refine Ext.drewN ?_ _))) (Hdr.out.1.ext (by repeat' (first | exact Ext.refl _ | assumption | refine Ext.alloc ?_ _ | refine Ext.ext ?_ _ | refine Ext.drew ?_ | refine Ext.drewN ?_ _))) (Hdr.out.2.ext (by repeat' (first | exact Ext.refl _ | assumption | refine Ext.alloc ?_ _ | refine Ext.ext ?_ _ | refine Ext.drew ?_ | refine Ext.drewN ?_ _))))))))
      refine wpQuiet_nil ?_
      rintro _ ⟨zq, rfl⟩
      go_wp2
      go_roundw
      case rel => exact ⟨k + 1, by omega, by go_num, ((Ext.refl _).ext _).ext _⟩
      case measure => simp [intOf]; omega
    · go_wp2
      go_ret
      exact ⟨rfl, (Ext.refl _).ext _⟩
/-- Bytes and parts of all pendings. -/
def Pnd.sz (p : Pnd) : Nat := p.d.length + chars p.d + p.h.length
def Pnd.sum (ps : List Pnd) : Nat := (ps.map Pnd.sz).sum
theorem Pnd.sum_take (ps : List Pnd) (k : Nat) (h : k < ps.length) : Pnd.sum (ps.take (k + 1)) = Pnd.sum (ps.take k) + (ps.getD k .z).sz := by
  rw [take_snoc ps .z k h]
  simp [Pnd.sum]
theorem Pnd.sum_le (ps : List Pnd) (k : Nat) : Pnd.sum (ps.take k) ≤ Pnd.sum ps := by
  have : Pnd.sum ps = Pnd.sum (ps.take k) + Pnd.sum (ps.drop k) := by
    unfold Pnd.sum
    rw [← List.sum_append, ← List.map_append, List.take_append_drop]
  omega
theorem Pnd.sum_at {ps : List Pnd} {n : Nat} (h2 : Pnd.sum ps ≤ n) {k : Nat} (hk : k < ps.length) : (ps.getD k .z).d.length ≤ n ∧ (ps.getD k .z).h.length ≤ n ∧ chars (ps.getD k .z).d ≤ n := by
  have h1 := Pnd.sum_take ps k hk
  have h3 := Pnd.sum_le ps (k + 1)
  unfold Pnd.sz at h1
  omega
theorem laws_szPending (n : Int) (d : List ByteArray) (h : List Bool) (u v : Value) (left : Int) (w : World) (hu : Rd w 1 u d.length (vStrs d)) (hv : Rd w 1 v h.length (vBools h)) (hn : ((d.length + chars d + h.length : Nat) : Int) ≤ left) (hl : left ≤ 1048576) :
    Calls Tryd.prog 37 #[.agg #[.int .i64 n, u, v], .int .i64 left] w fun e w' => e = .returned (.int .i64 (left - (d.length + chars d + h.length : Nat))) ∧ Ext w w' := by
  have c1 := hid (fun w a => laws_szStringS d u left w a (by omega) hl)
  have c2 := hid (fun w a => laws_szBoolS (vBools h) v (left - d.length - chars d) h.length 1 w a (by omega) (by omega))
  have t1 : decide (left - (d.length : Int) - chars d < 0) = false := by simp; omega
  have t2 : decide (left - (d.length : Int) - chars d - h.length < 0) = false := by simp; omega
  have Hu := hid hu
  have Hv := hid hv
  have he : left - (d.length : Int) - chars d - h.length = left - (d.length + chars d + h.length : Nat) := by omega
  have He := hid he
  clear hu hv he
  go_enter Tryd.func37, Tryd.ntmps37
  go_wp2_with fail
  go_at_call 71
  refine (c1.out _ (Hu.out.ext (by repeat' (first | exact Ext.refl _ | assumption | refine Ext.alloc ?_ _ | refine Ext.ext ?_ _ | refine Ext.drew ?_ | refine Ext.drewN ?_ _)))).mono ?_
  rintro e w' ⟨rfl, z1, rfl⟩
  go_wp2_with fail
  go_at_call 72
  refine (c2.out _ (Hv.out.ext (by repeat' (first | exact Ext.refl _ | assumption | refine Ext.alloc ?_ _ | refine Ext.ext ?_ _ | refine Ext.drew ?_ | refine Ext.drewN ?_ _)))).mono ?_
  rintro e w' ⟨rfl, rfl⟩
  go_wp2
  go_ret
  exact ⟨by rw [He.out]; rfl, (by repeat' (first | exact Ext.refl _ | assumption | refine Ext.alloc ?_ _ | refine Ext.ext ?_ _ | refine Ext.drew ?_ | refine Ext.drewN ?_ _))⟩
theorem laws_szPending_big (n : Int) (d : List ByteArray) (h : List Bool) (u v : Value) (left : Int) (w : World) (hu : Rd w 1 u d.length (vStrs d)) (hv : Rd w 1 v h.length (vBools h)) (hn : left < ((d.length + chars d + h.length : Nat) : Int)) (hl0 : 0 ≤ left) (hl : left ≤ 1048576) (hd : d.length ≤ maxLen) (hh : h.length ≤ maxLen) (hsz : ∀ x ∈ d, x.size ≤ maxLen) :
    Calls Tryd.prog 37 #[.agg #[.int .i64 n, u, v], .int .i64 left] w fun e w' => e = .returned (.int .i64 (-1)) ∧ Ext w w' := by
  have Hu := hid hu
  have Hv := hid hv
  by_cases hc : left < (d.length : Int) + chars d
  · have c1 := hid (fun w a => laws_szStringS_big d u left w a hc hl0 hl hd hsz)
    clear hu hv hsz
    go_enter Tryd.func37, Tryd.ntmps37
    go_wp2_with fail
    go_at_call 71
    refine (c1.out _ (Hu.out.ext (by repeat' (first | exact Ext.refl _ | assumption | refine Ext.alloc ?_ _ | refine Ext.ext ?_ _ | refine Ext.drew ?_ | refine Ext.drewN ?_ _)))).mono ?_
    rintro e w' ⟨rfl, z1, rfl⟩
    go_wp2
    go_ret
    exact ⟨rfl, (by repeat' (first | exact Ext.refl _ | assumption | refine Ext.alloc ?_ _ | refine Ext.ext ?_ _ | refine Ext.drew ?_ | refine Ext.drewN ?_ _))⟩
  · have c1 := hid (fun w a => laws_szStringS d u left w a (by omega) hl)
    have c2 := hid (fun w a => laws_szBoolS_big (vBools h) v (left - d.length - chars d) 1 h.length w a (by omega) (by omega) hh)
    have t1 : decide (left - (d.length : Int) - chars d < 0) = false := by simp; omega
    clear hu hv hsz
    go_enter Tryd.func37, Tryd.ntmps37
    go_wp2_with fail
    go_at_call 71
    refine (c1.out _ (Hu.out.ext (by repeat' (first | exact Ext.refl _ | assumption | refine Ext.alloc ?_ _ | refine Ext.ext ?_ _ | refine Ext.drew ?_ | refine Ext.drewN ?_ _)))).mono ?_
    rintro e w' ⟨rfl, z1, rfl⟩
    go_wp2_with fail
    go_at_call 72
    refine (c2.out _ (Hv.out.ext (by repeat' (first | exact Ext.refl _ | assumption | refine Ext.alloc ?_ _ | refine Ext.ext ?_ _ | refine Ext.drew ?_ | refine Ext.drewN ?_ _)))).mono ?_
    rintro e w' ⟨rfl, rfl⟩
    go_wp2
    go_ret
    exact ⟨rfl, (by repeat' (first | exact Ext.refl _ | assumption | refine Ext.alloc ?_ _ | refine Ext.ext ?_ _ | refine Ext.drew ?_ | refine Ext.drewN ?_ _))⟩
theorem laws_szPendingS (ps : List Pnd) (es : List Pe) (v : Value) (left : Int) (w : World) (hv : PRd w v ps es) (hn : (ps.length : Int) + Pnd.sum ps ≤ left) (hl : left ≤ 1048576) :
    Calls Tryd.prog 9 #[v, .int .i64 left] w fun e w' => e = .returned (.int .i64 (left - ps.length - Pnd.sum ps)) ∧ Ext w w' := by
  have Hv := hid hv
  obtain ⟨p, cap, rfl, h4⟩ := hv.form
  have H4 := hid h4
  clear h4 hv
  have t0 : decide (left - (ps.length : Int) < 0) = false := by simp; omega
  have w0 : IntKind.i64.wrap (left - (ps.length : Int)) = left - ps.length := IntWalk.i64_in _ (by omega)
  go_enter Tryd.func9, Tryd.ntmps9
  go_wp2
  go_loopw [5, 1] (fun v5 v1 wr => ∃ (k : Nat), k ≤ ps.length ∧ v5 = .int .i64 k ∧ v1 = .int .i64 (left - ps.length - Pnd.sum (ps.take k)) ∧ Ext w wr) (fun v5 _ _ => ps.length - (intOf v5).toNat)
  case atStart => exact ⟨0, Nat.zero_le _, rfl, by simp [Pnd.sum], Ext.refl _⟩
  case round =>
    obtain ⟨k, hk, rfl, rfl, z, rfl⟩ := hrel
    by_cases hlt : k < ps.length
    · obtain ⟨b, off, rfl⟩ := H4.out.resolve_left (by omega)
      obtain ⟨⟨c0, c1, c2⟩, hcr⟩ := Hv.out.at k hlt
      have ht := Pnd.sum_take ps k hlt
      have hl1 := Pnd.sum_le ps (k + 1)
      have Hcr := hid hcr
      clear hcr
      generalize ps.getD k .z = G at *
      generalize (es.getD k .z).u = x at *
      generalize (es.getD k .z).v = x' at *
      obtain ⟨n, d, h⟩ := G
      dsimp only [Pnd.sz] at c0 Hcr ht
      generalize hT : Pnd.sum (ps.take k) = T at *
      have hc := hid (fun w a b => laws_szPending n d h x x' (left - (ps.length : Int) - T) w a b (by omega) (by omega))
      generalize d.length + chars d + h.length = S at *
      have t1 : decide (left - (ps.length : Int) - T - (S : Int) < 0) = false := by simp; omega
      have Ht := hid ht; clear ht hT
      go_wp2_with (go_at_call 37; refine (hc.out _ (Hcr.out.1.ext (by repeat' (first | exact Ext.refl _ | assumption | refine Ext.alloc ?_ _ | refine Ext.ext ?_ _ | refine Ext.drew ?_ | refine Ext.drewN ?_ _))) (Hcr.out.2.ext (by repeat' (first | exact Ext.refl _ | assumption | refine Ext.alloc ?_ _ | refine Ext.ext ?_ _ | refine Ext.drew ?_ | refine Ext.drewN ?_ _)))).mono ?_; rintro e w' ⟨rfl, z1, rfl⟩)
      go_roundw
      case rel => exact ⟨k + 1, by omega, by go_num, by rw [Ht.out]; congr 1; omega, (by repeat' (first | exact Ext.refl _ | assumption | refine Ext.alloc ?_ _ | refine Ext.ext ?_ _ | refine Ext.drew ?_ | refine Ext.drewN ?_ _))⟩
      case measure => simp [intOf]; omega
    · obtain rfl : k = ps.length := by omega
      go_wp2
      go_ret
      exact ⟨by rw [List.take_length]; rfl, (by repeat' (first | exact Ext.refl _ | assumption | refine Ext.alloc ?_ _ | refine Ext.ext ?_ _ | refine Ext.drew ?_ | refine Ext.drewN ?_ _))⟩
theorem laws_szPendingS_big (ps : List Pnd) (es : List Pe) (v : Value) (left : Int) (w : World) (hv : PRd w v ps es) (hn : left < (ps.length : Int) + Pnd.sum ps) (hl0 : 0 ≤ left) (hl : left ≤ 1048576) (hm : ps.length ≤ maxLen)
    (hsz : ∀ i, i < ps.length → (ps.getD i .z).d.length ≤ maxLen ∧ (ps.getD i .z).h.length ≤ maxLen ∧ ∀ x ∈ (ps.getD i .z).d, x.size ≤ maxLen) :
    Calls Tryd.prog 9 #[v, .int .i64 left] w fun e w' => e = .returned (.int .i64 (-1)) ∧ Ext w w' := by
  have Hv := hid hv
  obtain ⟨p, cap, rfl, h4⟩ := hv.form
  have H4 := hid h4
  clear h4 hv
  have Hsz := hid hsz; clear hsz
  have hml : maxLen = 9223372036854775807 := rfl
  have w0 : IntKind.i64.wrap (left - (ps.length : Int)) = left - ps.length := IntWalk.i64_in _ (by omega)
  by_cases hc : left - (ps.length : Int) < 0
  · have t0 : decide (left - (ps.length : Int) < 0) = true := by simp; omega
    go_enter Tryd.func9, Tryd.ntmps9
    go_wp2
    go_returns
    exact ⟨rfl, (by repeat' (first | exact Ext.refl _ | assumption | refine Ext.alloc ?_ _ | refine Ext.ext ?_ _ | refine Ext.drew ?_ | refine Ext.drewN ?_ _))⟩
  · have t0 : decide (left - (ps.length : Int) < 0) = false := by simp; omega
    go_enter Tryd.func9, Tryd.ntmps9
    go_wp2
    go_loopw [5, 1] (fun v5 v1 wr => ∃ (k : Nat), k ≤ ps.length ∧ v5 = .int .i64 k ∧ v1 = .int .i64 (left - ps.length - Pnd.sum (ps.take k)) ∧ (ps.length : Int) + Pnd.sum (ps.take k) ≤ left ∧ Ext w wr) (fun v5 _ _ => ps.length - (intOf v5).toNat)
    case atStart => exact ⟨0, Nat.zero_le _, rfl, by simp [Pnd.sum], by simp [Pnd.sum]; omega, Ext.refl _⟩
    case round =>
      obtain ⟨k, hk, rfl, rfl, hk2, z, rfl⟩ := hrel
      by_cases hlt : k < ps.length
      · obtain ⟨b, off, rfl⟩ := H4.out.resolve_left (by omega)
        obtain ⟨⟨c0, c1, c2⟩, hcr⟩ := Hv.out.at k hlt
        have ht := Pnd.sum_take ps k hlt
        have hx := Hsz.out k hlt
        have Hcr := hid hcr
        clear hcr
        generalize ps.getD k .z = G at *
        generalize (es.getD k .z).u = x at *
        generalize (es.getD k .z).v = x' at *
        obtain ⟨n, d, h⟩ := G
        dsimp only [Pnd.sz] at c0 Hcr ht hx
        generalize hT : Pnd.sum (ps.take k) = T at *
        by_cases hc1 : left - (ps.length : Int) - T - (d.length + chars d + h.length : Nat) < 0
        · have hcc := hid (fun w a b => laws_szPending_big n d h x x' (left - (ps.length : Int) - T) w a b (by omega) (by omega) (by omega) hx.1 hx.2.1 hx.2.2)
          clear ht hT hx hml
          go_wp2_with (go_at_call 37; refine (hcc.out _ (Hcr.out.1.ext (by repeat' (first | exact Ext.refl _ | assumption | refine Ext.alloc ?_ _ | refine Ext.ext ?_ _ | refine Ext.drew ?_ | refine Ext.drewN ?_ _))) (Hcr.out.2.ext (by repeat' (first | exact Ext.refl _ | assumption | refine Ext.alloc ?_ _ | refine Ext.ext ?_ _ | refine Ext.drew ?_ | refine Ext.drewN ?_ _)))).mono ?_; rintro e w' ⟨rfl, z1, rfl⟩)
          go_ret
          exact ⟨rfl, (by repeat' (first | exact Ext.refl _ | assumption | refine Ext.alloc ?_ _ | refine Ext.ext ?_ _ | refine Ext.drew ?_ | refine Ext.drewN ?_ _))⟩
        · have hcc := hid (fun w a b => laws_szPending n d h x x' (left - (ps.length : Int) - T) w a b (by omega) (by omega))
          generalize d.length + chars d + h.length = S at *
          have t1 : decide (left - (ps.length : Int) - T - (S : Int) < 0) = false := by simp; omega
          have Ht := hid ht; clear ht hT hx hml
          go_wp2_with (go_at_call 37; refine (hcc.out _ (Hcr.out.1.ext (by repeat' (first | exact Ext.refl _ | assumption | refine Ext.alloc ?_ _ | refine Ext.ext ?_ _ | refine Ext.drew ?_ | refine Ext.drewN ?_ _))) (Hcr.out.2.ext (by repeat' (first | exact Ext.refl _ | assumption | refine Ext.alloc ?_ _ | refine Ext.ext ?_ _ | refine Ext.drew ?_ | refine Ext.drewN ?_ _)))).mono ?_; rintro e w' ⟨rfl, z1, rfl⟩)
          go_roundw
          case rel => exact ⟨k + 1, by omega, by go_num, by rw [Ht.out]; congr 1; omega, by rw [Ht.out]; omega, (by repeat' (first | exact Ext.refl _ | assumption | refine Ext.alloc ?_ _ | refine Ext.ext ?_ _ | refine Ext.drew ?_ | refine Ext.drewN ?_ _))⟩
          case measure => simp [intOf]; omega
      · obtain rfl : k = ps.length := by omega
        rw [List.take_length] at hk2
        omega
theorem strs_of_trod {H : Type} {enc : TypeId × Value → H} {W : World} {v : Value} {fuel : Nat} {x : DataW H × List MemPlace}
    (h : DataW.trod enc Tryd.prog W 0 (fun _ => true) true fuel 58 [v] = some x) : ∃ xs : List ByteArray, Rd W 1 v xs.length (vStrs xs) ∧ xs.length ≤ maxLen ∧ ∀ x ∈ xs, x.size ≤ maxLen := by
  obtain ⟨css, h1, h2, h3⟩ := rd_of_trod (d := 3) Tryd.underlying58 (ks := [.s]) (by kernel_rfl) (by kernel_rfl) (by decide) h
  obtain ⟨xs, rfl, hx⟩ := exists_map (f := fun x => [Value.string x]) (ok := fun x => x.size ≤ maxLen) (l := css) (fun cs hcs => by
    obtain ⟨a, rfl, ⟨a, rfl, ha⟩⟩ := (h1 cs hcs).one
    exact ⟨a, rfl, ha⟩)
  have e : vStrs xs = xs.flatMap (fun x => [Value.string x]) := by
    clear h1 h2 h3 hx
    unfold vStrs
    induction xs with
    | nil => rfl
    | cons x xs ih => rw [List.map_cons, List.flatMap_cons, ih]; rfl
  exact ⟨xs, by rw [e]; exact h2.map, by simpa using h3, hx⟩
theorem bools_of_trod {H : Type} {enc : TypeId × Value → H} {W : World} {v : Value} {fuel : Nat} {x : DataW H × List MemPlace}
    (h : DataW.trod enc Tryd.prog W 0 (fun _ => true) true fuel 59 [v] = some x) : ∃ xs : List Bool, Rd W 1 v xs.length (vBools xs) ∧ xs.length ≤ maxLen := by
  obtain ⟨css, h1, h2, h3⟩ := rd_of_trod (d := 3) Tryd.underlying59 (ks := [.b]) (by kernel_rfl) (by kernel_rfl) (by decide) h
  obtain ⟨xs, rfl, -⟩ := exists_map (f := fun x => [Value.bool x]) (ok := fun _ => True) (l := css) (fun cs hcs => by
    obtain ⟨a, rfl, ⟨a, rfl⟩⟩ := (h1 cs hcs).one
    exact ⟨a, rfl, trivial⟩)
  have e : vBools xs = xs.flatMap (fun x => [Value.bool x]) := by
    clear h1 h2 h3
    unfold vBools
    induction xs with
    | nil => rfl
    | cons x xs ih => rw [List.map_cons, List.flatMap_cons, ih]; rfl
  exact ⟨xs, by rw [e]; exact h2.map, by simpa using h3⟩
theorem opened_pendings {H : Type} {enc : TypeId × Value → H} {W : World} {v : Value} {d : DataW H} {qs : List MemPlace} {r : Reach} {b : Nat} (hval : Value.okWide Tryd.prog W r b 22 v)
    (h : DataW.Trod enc Tryd.prog W 0 (fun _ => true) true 22 v d qs) : ∃ (ps : List Pnd) (es : List Pe), PRd W v ps es ∧ ps.length ≤ maxLen ∧ ∀ i, i < ps.length → (ps.getD i .z).d.length ≤ maxLen ∧ (ps.getD i .z).h.length ≤ maxLen ∧ ∀ x ∈ (ps.getD i .z).d, x.size ≤ maxLen := by
  obtain ⟨fuel, h⟩ := h
  obtain ⟨a, len, cap, rfl⟩ := Go.WideShapes.okWide_slice Tryd.underlying22 hval
  obtain ⟨css, h1, h2, h3⟩ := rd_of_trod (d := 4) Tryd.underlying22 (ks := [.i .i64, .sl 58, .sl 59]) (by kernel_rfl) (by kernel_rfl) (by decide) h
  obtain ⟨es, rfl, hx⟩ := exists_map (f := Pe.cs) (ok := fun e => (Rd W 1 e.u e.d.length (vStrs e.d) ∧ Rd W 1 e.v e.h.length (vBools e.h)) ∧ e.d.length ≤ maxLen ∧ e.h.length ≤ maxLen ∧ ∀ x ∈ e.d, x.size ≤ maxLen) (l := css) (fun x hcs => by
    obtain ⟨a, u, v, rfl, ⟨n, rfl, -⟩, ⟨f, y, hy⟩, ⟨f', y', hy'⟩⟩ := (h1 x hcs).three
    obtain ⟨xs, hr, hl, hs⟩ := strs_of_trod hy
    obtain ⟨bs, hr', hl'⟩ := bools_of_trod hy'
    exact ⟨⟨n, xs, bs, u, v⟩, rfl, ⟨hr, hr'⟩, hl, hl', hs⟩)
  have h2' := h2.map
  refine ⟨es.map Pe.p, es, ⟨rfl, h2', fun e he => (hx e he).1⟩, by rw [List.length_map]; simpa using h3, fun i hi => ?_⟩
  rw [pes_p]
  rw [List.length_map] at hi
  exact (hx _ (getD_mem' hi)).2
end Go.Proofs.YtnngklclehffhaaDoor
