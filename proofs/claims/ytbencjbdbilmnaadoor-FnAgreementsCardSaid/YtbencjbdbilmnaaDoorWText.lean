/- The sentences of deliveries: both sides. -/
import Derived.Test.YtbencjbdbilmnaaDoorWD
import Derived.Test.YtbencjbdbilmnaaDoorWNum
import Derived.Test.YtbencjbdbilmnaaDoorWTab
namespace Go.Proofs.YtbencjbdbilmnaaDoor
open Go.RowKit
set_option maxHeartbeats 400000
set_option maxRecDepth 100000
def itemsT (n : Int) : ByteArray := if n = 0 then ⟨#[110, 111, 32, 105, 116, 101, 109, 115]⟩ else if n = 1 then ⟨#[49, 32, 105, 116, 101, 109]⟩ else itoaS n ++ ⟨#[32, 105, 116, 101, 109, 115]⟩
theorem itemsT_size (n : Int) (h : 0 ≤ n) (h1 : n ≤ 1000000) : (itemsT n).size ≤ 27 := by
  have := itoaS_size n (by omega) (by omega)
  unfold itemsT
  split
  · decide
  · split
    · decide
    · rw [ByteArray.size_append]
      show _ + 6 ≤ 27
      omega
theorem str_eq (a : ByteArray) : (⟨a.data⟩ : ByteArray) = a := rfl
theorem impl_itemsText (n : Int) (w : World) (h : 0 ≤ n) (h1 : n ≤ 1000000) (ht : Tab w) :
    Calls Tryd.prog 48 #[.int .i64 n] w fun e w' => e = .returned (.string (itemsT n)) ∧ Ext w w' := by
  have hs := itoaS_size n (by omega) (by omega)
  have hc := hid (fun w ht => strconv_Itoa n w (by omega) (by omega) ht)
  have Ht := hid ht
  clear ht
  by_cases h0 : n = 0
  · subst h0
    go_enter Tryd.func48, Tryd.ntmps48
    go_wp2_with fail
    go_ret
    exact ⟨rfl, (by repeat' (first | exact Ext.refl _ | assumption | refine Ext.alloc ?_ _ | refine Ext.ext ?_ _ | refine Ext.drew ?_ | refine Ext.drewN ?_ _))⟩
  · by_cases h11 : n = 1
    · subst h11
      go_enter Tryd.func48, Tryd.ntmps48
      go_wp2_with fail
      go_ret
      exact ⟨rfl, (by repeat' (first | exact Ext.refl _ | assumption | refine Ext.alloc ?_ _ | refine Ext.ext ?_ _ | refine Ext.drew ?_ | refine Ext.drewN ?_ _))⟩
    · have t0 : (n == 0) = false := by simp [h0]
      have t1 : (n == 1) = false := by simp [h11]
      have he : itemsT n = itoaS n ++ ⟨#[32, 105, 116, 101, 109, 115]⟩ := by rw [itemsT, if_neg h0, if_neg h11]
      have He := hid he
      clear he
      go_enter Tryd.func48, Tryd.ntmps48
      go_wp2_with (go_at_call 31; refine (hc.out _ (Ht.out.ext (by repeat' (first | exact Ext.refl _ | assumption | refine Ext.alloc ?_ _ | refine Ext.ext ?_ _ | refine Ext.drew ?_ | refine Ext.drewN ?_ _)))).mono ?_; rintro e w' ⟨rfl, z1, rfl⟩)
      go_ret
      exact ⟨by rw [He.out]; rfl, (by repeat' (first | exact Ext.refl _ | assumption | refine Ext.alloc ?_ _ | refine Ext.ext ?_ _ | refine Ext.drew ?_ | refine Ext.drewN ?_ _))⟩
theorem spec_l26Items (n : Int) (w : World) (h : 0 ≤ n) (h1 : n ≤ 1000000) :
    Calls Tryd.prog 43 #[.int .i64 n] w fun e w' => e = .returned (.string (itemsT n)) ∧ Ext w w' := by
  have hs := itoaS_size n (by omega) (by omega)
  have hc := hid (fun w => spec_l1Num n w (by omega) (by omega))
  by_cases h0 : n = 0
  · subst h0
    go_enter Tryd.func43, Tryd.ntmps43
    go_wp2_with fail
    go_ret
    exact ⟨rfl, (by repeat' (first | exact Ext.refl _ | assumption | refine Ext.alloc ?_ _ | refine Ext.ext ?_ _ | refine Ext.drew ?_ | refine Ext.drewN ?_ _))⟩
  · by_cases h11 : n = 1
    · subst h11
      go_enter Tryd.func43, Tryd.ntmps43
      go_wp2_with fail
      go_ret
      exact ⟨rfl, (by repeat' (first | exact Ext.refl _ | assumption | refine Ext.alloc ?_ _ | refine Ext.ext ?_ _ | refine Ext.drew ?_ | refine Ext.drewN ?_ _))⟩
    · have t0 : (n == 0) = false := by simp [h0]
      have t1 : (n == 1) = false := by simp [h11]
      have he : itemsT n = itoaS n ++ ⟨#[32, 105, 116, 101, 109, 115]⟩ := by rw [itemsT, if_neg h0, if_neg h11]
      have He := hid he
      clear he
      go_enter Tryd.func43, Tryd.ntmps43
      go_wp2_with (go_at_call 30; refine (hc.out _).mono ?_; rintro e w' ⟨rfl, z1, rfl⟩)
      go_ret
      exact ⟨by rw [He.out]; rfl, (by repeat' (first | exact Ext.refl _ | assumption | refine Ext.alloc ?_ _ | refine Ext.ext ?_ _ | refine Ext.drew ?_ | refine Ext.drewN ?_ _))⟩
def repT (g p : Int) : ByteArray := if p = 0 then ⟨#[]⟩ else if g = 1 then ⟨#[44, 32, 114, 101, 112, 97, 105, 114, 101, 100, 44]⟩ else if p = g then ⟨#[44, 32, 97, 108, 108, 32, 111, 102, 32, 116, 104, 101, 109, 32, 114, 101, 112, 97, 105, 114, 101, 100, 44]⟩ else ⟨#[44, 32]⟩ ++ itoaS p ++ ⟨#[32, 111, 102, 32, 116, 104, 101, 109, 32, 114, 101, 112, 97, 105, 114, 101, 100, 44]⟩
theorem repT_size (g p : Int) (h : 0 ≤ p) (h1 : p ≤ 1000000) : (repT g p).size ≤ 41 := by
  have := itoaS_size p (by omega) (by omega)
  unfold repT
  split
  · decide
  · split
    · decide
    · split
      · decide
      · rw [ByteArray.size_append, ByteArray.size_append]
        show 2 + _ + 18 ≤ 41
        omega
theorem rep0 (g : Int) : repT g 0 = ⟨#[]⟩ := by rw [repT, if_pos rfl]
theorem rep1 {p : Int} (h : p ≠ 0) : repT 1 p = ⟨#[44, 32, 114, 101, 112, 97, 105, 114, 101, 100, 44]⟩ := by rw [repT, if_neg h, if_pos rfl]
theorem rep2 {p : Int} (h : p ≠ 0) (h1 : p ≠ 1) : repT p p = ⟨#[44, 32, 97, 108, 108, 32, 111, 102, 32, 116, 104, 101, 109, 32, 114, 101, 112, 97, 105, 114, 101, 100, 44]⟩ := by rw [repT, if_neg h, if_neg h1, if_pos rfl]
theorem rep3 {g p : Int} (h : p ≠ 0) (h1 : g ≠ 1) (h2 : p ≠ g) : repT g p = ⟨#[44, 32]⟩ ++ itoaS p ++ ⟨#[32, 111, 102, 32, 116, 104, 101, 109, 32, 114, 101, 112, 97, 105, 114, 101, 100, 44]⟩ := by rw [repT, if_neg h, if_neg h1, if_neg h2]
theorem impl_repairsText (r g p l : Int) (w : World) (h : 0 ≤ p) (h1 : p ≤ 1000000) (ht : Tab w) :
    Calls Tryd.prog 49 #[.agg #[.int .i64 r, .int .i64 g, .int .i64 p, .int .i64 l]] w fun e w' => e = .returned (.string (repT g p)) ∧ Ext w w' := by
  have hc := hid (fun w ht => strconv_Itoa p w (by omega) (by omega) ht)
  have Ht := hid ht
  clear ht
  by_cases hp0 : p = 0
  · subst hp0
    rw [rep0]
    go_enter Tryd.func49, Tryd.ntmps49
    repeat (first | (go_wp2_with ((go_at_call 31; refine (hc.out _ (Ht.out.ext (by repeat' (first | exact Ext.refl _ | assumption | refine Ext.alloc ?_ _ | refine Ext.ext ?_ _ | refine Ext.drew ?_ | refine Ext.drewN ?_ _)))).mono ?_; rintro e w' ⟨rfl, z1, rfl⟩)); refine wp_region_ext (by kernel_rfl) (by kernel_rfl) ?_; (repeat (go_big_quiet_step ((go_at_call 31; exact Calls.quiet_ext (hc.out _ (Ht.out.ext (by repeat' (first | exact Ext.refl _ | assumption | refine Ext.alloc ?_ _ | refine Ext.ext ?_ _ | refine Ext.drew ?_ | refine Ext.drewN ?_ _)))))))); refine wpQuiet_nil ?_; rintro _ ⟨zq, rfl⟩))
    go_wp2_with ((go_at_call 31; refine (hc.out _ (Ht.out.ext (by repeat' (first | exact Ext.refl _ | assumption | refine Ext.alloc ?_ _ | refine Ext.ext ?_ _ | refine Ext.drew ?_ | refine Ext.drewN ?_ _)))).mono ?_; rintro e w' ⟨rfl, z1, rfl⟩))
    go_ret
    exact ⟨rfl, (by repeat' (first | exact Ext.refl _ | assumption | refine Ext.alloc ?_ _ | refine Ext.ext ?_ _ | refine Ext.drew ?_ | refine Ext.drewN ?_ _))⟩
  have t0 : (p == 0) = false := by simp [hp0]
  by_cases hg1 : g = 1
  · subst hg1
    rw [rep1 hp0]
    clear hp0
    go_enter Tryd.func49, Tryd.ntmps49
    repeat (first | (go_wp2_with ((go_at_call 31; refine (hc.out _ (Ht.out.ext (by repeat' (first | exact Ext.refl _ | assumption | refine Ext.alloc ?_ _ | refine Ext.ext ?_ _ | refine Ext.drew ?_ | refine Ext.drewN ?_ _)))).mono ?_; rintro e w' ⟨rfl, z1, rfl⟩)); refine wp_region_ext (by kernel_rfl) (by kernel_rfl) ?_; (repeat (go_big_quiet_step ((go_at_call 31; exact Calls.quiet_ext (hc.out _ (Ht.out.ext (by repeat' (first | exact Ext.refl _ | assumption | refine Ext.alloc ?_ _ | refine Ext.ext ?_ _ | refine Ext.drew ?_ | refine Ext.drewN ?_ _)))))))); refine wpQuiet_nil ?_; rintro _ ⟨zq, rfl⟩))
    go_wp2_with ((go_at_call 31; refine (hc.out _ (Ht.out.ext (by repeat' (first | exact Ext.refl _ | assumption | refine Ext.alloc ?_ _ | refine Ext.ext ?_ _ | refine Ext.drew ?_ | refine Ext.drewN ?_ _)))).mono ?_; rintro e w' ⟨rfl, z1, rfl⟩))
    go_ret
    exact ⟨rfl, (by repeat' (first | exact Ext.refl _ | assumption | refine Ext.alloc ?_ _ | refine Ext.ext ?_ _ | refine Ext.drew ?_ | refine Ext.drewN ?_ _))⟩
  have t1 : (g == 1) = false := by simp [hg1]
  by_cases hpg : p = g
  · subst hpg
    rw [rep2 hp0 hg1]
    clear hp0 hg1
    go_enter Tryd.func49, Tryd.ntmps49
    repeat (first | (go_wp2_with ((go_at_call 31; refine (hc.out _ (Ht.out.ext (by repeat' (first | exact Ext.refl _ | assumption | refine Ext.alloc ?_ _ | refine Ext.ext ?_ _ | refine Ext.drew ?_ | refine Ext.drewN ?_ _)))).mono ?_; rintro e w' ⟨rfl, z1, rfl⟩)); refine wp_region_ext (by kernel_rfl) (by kernel_rfl) ?_; (repeat (go_big_quiet_step ((go_at_call 31; exact Calls.quiet_ext (hc.out _ (Ht.out.ext (by repeat' (first | exact Ext.refl _ | assumption | refine Ext.alloc ?_ _ | refine Ext.ext ?_ _ | refine Ext.drew ?_ | refine Ext.drewN ?_ _)))))))); refine wpQuiet_nil ?_; rintro _ ⟨zq, rfl⟩))
    go_wp2_with ((go_at_call 31; refine (hc.out _ (Ht.out.ext (by repeat' (first | exact Ext.refl _ | assumption | refine Ext.alloc ?_ _ | refine Ext.ext ?_ _ | refine Ext.drew ?_ | refine Ext.drewN ?_ _)))).mono ?_; rintro e w' ⟨rfl, z1, rfl⟩))
    go_ret
    exact ⟨rfl, (by repeat' (first | exact Ext.refl _ | assumption | refine Ext.alloc ?_ _ | refine Ext.ext ?_ _ | refine Ext.drew ?_ | refine Ext.drewN ?_ _))⟩
  have t2 : (p == g) = false := by simp [hpg]
  have hf := hid (rep3 hp0 hg1 hpg)
  have hs := itoaS_size p (by omega) (by omega)
  clear hp0 hg1 hpg
  go_enter Tryd.func49, Tryd.ntmps49
  repeat (first | (go_wp2_with ((go_at_call 31; refine (hc.out _ (Ht.out.ext (by repeat' (first | exact Ext.refl _ | assumption | refine Ext.alloc ?_ _ | refine Ext.ext ?_ _ | refine Ext.drew ?_ | refine Ext.drewN ?_ _)))).mono ?_; rintro e w' ⟨rfl, z1, rfl⟩)); refine wp_region_ext (by kernel_rfl) (by kernel_rfl) ?_; (repeat (go_big_quiet_step ((go_at_call 31; exact Calls.quiet_ext (hc.out _ (Ht.out.ext (by repeat' (first | exact Ext.refl _ | assumption | refine Ext.alloc ?_ _ | refine Ext.ext ?_ _ | refine Ext.drew ?_ | refine Ext.drewN ?_ _)))))))); refine wpQuiet_nil ?_; rintro _ ⟨zq, rfl⟩))
  go_wp2_with ((go_at_call 31; refine (hc.out _ (Ht.out.ext (by repeat' (first | exact Ext.refl _ | assumption | refine Ext.alloc ?_ _ | refine Ext.ext ?_ _ | refine Ext.drew ?_ | refine Ext.drewN ?_ _)))).mono ?_; rintro e w' ⟨rfl, z1, rfl⟩))
  go_ret
  exact ⟨by rw [hf.out]; rfl, (by repeat' (first | exact Ext.refl _ | assumption | refine Ext.alloc ?_ _ | refine Ext.ext ?_ _ | refine Ext.drew ?_ | refine Ext.drewN ?_ _))⟩
theorem spec_l26Repairs (r g p l : Int) (w : World) (h : 0 ≤ p) (h1 : p ≤ 1000000) :
    Calls Tryd.prog 44 #[.agg #[.int .i64 r, .int .i64 g, .int .i64 p, .int .i64 l]] w fun e w' => e = .returned (.string (repT g p)) ∧ Ext w w' := by
  have hc := hid (fun w => spec_l1Num p w (by omega) (by omega))
  by_cases hp0 : p = 0
  · subst hp0
    rw [rep0]
    go_enter Tryd.func44, Tryd.ntmps44
    repeat (first | (go_wp2_with ((go_at_call 30; refine (hc.out _).mono ?_; rintro e w' ⟨rfl, z1, rfl⟩)); refine wp_region_ext (by kernel_rfl) (by kernel_rfl) ?_; (repeat (go_big_quiet_step ((go_at_call 30; exact Calls.quiet_ext (hc.out _))))); refine wpQuiet_nil ?_; rintro _ ⟨zq, rfl⟩))
    go_wp2_with ((go_at_call 30; refine (hc.out _).mono ?_; rintro e w' ⟨rfl, z1, rfl⟩))
    go_ret
    exact ⟨rfl, (by repeat' (first | exact Ext.refl _ | assumption | refine Ext.alloc ?_ _ | refine Ext.ext ?_ _ | refine Ext.drew ?_ | refine Ext.drewN ?_ _))⟩
  have t0 : (p == 0) = false := by simp [hp0]
  by_cases hg1 : g = 1
  · subst hg1
    rw [rep1 hp0]
    clear hp0
    go_enter Tryd.func44, Tryd.ntmps44
    repeat (first | (go_wp2_with ((go_at_call 30; refine (hc.out _).mono ?_; rintro e w' ⟨rfl, z1, rfl⟩)); refine wp_region_ext (by kernel_rfl) (by kernel_rfl) ?_; (repeat (go_big_quiet_step ((go_at_call 30; exact Calls.quiet_ext (hc.out _))))); refine wpQuiet_nil ?_; rintro _ ⟨zq, rfl⟩))
    go_wp2_with ((go_at_call 30; refine (hc.out _).mono ?_; rintro e w' ⟨rfl, z1, rfl⟩))
    go_ret
    exact ⟨rfl, (by repeat' (first | exact Ext.refl _ | assumption | refine Ext.alloc ?_ _ | refine Ext.ext ?_ _ | refine Ext.drew ?_ | refine Ext.drewN ?_ _))⟩
  have t1 : (g == 1) = false := by simp [hg1]
  by_cases hpg : p = g
  · subst hpg
    rw [rep2 hp0 hg1]
    clear hp0 hg1
    go_enter Tryd.func44, Tryd.ntmps44
    repeat (first | (go_wp2_with ((go_at_call 30; refine (hc.out _).mono ?_; rintro e w' ⟨rfl, z1, rfl⟩)); refine wp_region_ext (by kernel_rfl) (by kernel_rfl) ?_; (repeat (go_big_quiet_step ((go_at_call 30; exact Calls.quiet_ext (hc.out _))))); refine wpQuiet_nil ?_; rintro _ ⟨zq, rfl⟩))
    go_wp2_with ((go_at_call 30; refine (hc.out _).mono ?_; rintro e w' ⟨rfl, z1, rfl⟩))
    go_ret
    exact ⟨rfl, (by repeat' (first | exact Ext.refl _ | assumption | refine Ext.alloc ?_ _ | refine Ext.ext ?_ _ | refine Ext.drew ?_ | refine Ext.drewN ?_ _))⟩
  have t2 : (p == g) = false := by simp [hpg]
  have hf := hid (rep3 hp0 hg1 hpg)
  have hs := itoaS_size p (by omega) (by omega)
  clear hp0 hg1 hpg
  go_enter Tryd.func44, Tryd.ntmps44
  repeat (first | (go_wp2_with ((go_at_call 30; refine (hc.out _).mono ?_; rintro e w' ⟨rfl, z1, rfl⟩)); refine wp_region_ext (by kernel_rfl) (by kernel_rfl) ?_; (repeat (go_big_quiet_step ((go_at_call 30; exact Calls.quiet_ext (hc.out _))))); refine wpQuiet_nil ?_; rintro _ ⟨zq, rfl⟩))
  go_wp2_with ((go_at_call 30; refine (hc.out _).mono ?_; rintro e w' ⟨rfl, z1, rfl⟩))
  go_ret
  exact ⟨by rw [hf.out]; rfl, (by repeat' (first | exact Ext.refl _ | assumption | refine Ext.alloc ?_ _ | refine Ext.ext ?_ _ | refine Ext.drew ?_ | refine Ext.drewN ?_ _))⟩
def lostT (l : Int) : ByteArray := if l = 0 then ⟨#[110, 111, 110, 101]⟩ else itoaS l
def delT (x : Dlv) : ByteArray := ⟨#[82, 101, 99, 101, 105, 118, 101, 114, 32]⟩ ++ itoaS x.r ++ ⟨#[32, 103, 111, 116, 32]⟩ ++ itemsT x.g ++ repT x.g x.p ++ ⟨#[32, 97, 110, 100, 32, 108, 111, 115, 116, 32]⟩ ++ lostT x.l ++ ⟨#[46]⟩
theorem lostT_size (l : Int) (h : 0 ≤ l) (h1 : l ≤ 1000000) : (lostT l).size ≤ 21 := by
  unfold lostT
  split
  · decide
  · exact itoaS_size l (by omega) (by omega)
theorem delT_size {x : Dlv} (h : okD x = true) : (delT x).size ≤ 200 := by
  obtain ⟨⟨a1, a2⟩, ⟨b1, b2⟩, ⟨c1, c2⟩, d1, d2⟩ := okD_iff.1 h
  have := itoaS_size x.r (by omega) (by omega)
  have := itemsT_size x.g (by omega) (by omega)
  have := repT_size x.g x.p (by omega) (by omega)
  have := lostT_size x.l (by omega) (by omega)
  unfold delT
  simp only [ByteArray.size_append]
  show 9 + _ + 5 + _ + _ + 10 + _ + 1 ≤ 200
  omega
theorem impl_deliveryText (r g p l : Int) (w : World) (h : okD ⟨r, g, p, l⟩ = true) (ht : Tab w) :
    Calls Tryd.prog 29 #[.agg #[.int .i64 r, .int .i64 g, .int .i64 p, .int .i64 l]] w fun e w' => e = .returned (.string (delT ⟨r, g, p, l⟩)) ∧ Ext w w' := by
  obtain ⟨⟨a1, a2⟩, ⟨b1, b2⟩, ⟨c1, c2⟩, d1, d2⟩ := okD_iff.1 h
  dsimp only at a1 a2 b1 b2 c1 c2 d1 d2
  have hT : delT ⟨r, g, p, l⟩ = ⟨#[82, 101, 99, 101, 105, 118, 101, 114, 32]⟩ ++ itoaS r ++ ⟨#[32, 103, 111, 116, 32]⟩ ++ itemsT g ++ repT g p ++ ⟨#[32, 97, 110, 100, 32, 108, 111, 115, 116, 32]⟩ ++ lostT l ++ ⟨#[46]⟩ := rfl
  have s1 := itoaS_size r (by omega) (by omega)
  have s2 := itemsT_size g b1 b2
  have s3 := repT_size g p (by omega) (by omega)
  have s4 := lostT_size l d1 d2
  have k1 := hid (fun w ht => strconv_Itoa r w (by omega) (by omega) ht)
  have k2 := hid (fun w ht => impl_itemsText g w b1 b2 ht)
  have k3 := hid (fun w ht => impl_repairsText r g p l w c1 (by omega) ht)
  have k4 := hid (fun w ht => strconv_Itoa l w (by omega) (by omega) ht)
  have Ht := hid ht
  clear ht h
  by_cases hl : l = 0
  · subst hl
    have he : lostT 0 = ⟨#[110, 111, 110, 101]⟩ := rfl
    rw [he] at hT
    have HT := hid hT
    clear hT s4 k4 he
    generalize itemsT g = I at *
    generalize repT g p = R at *
    go_enter Tryd.func29, Tryd.ntmps29
    repeat (first | (go_wp2_with (fail); refine wp_region_ext (by kernel_rfl) (by kernel_rfl) ?_; (repeat (go_big_quiet_step (first | (go_at_call 31; exact Calls.quiet_ext (k1.out _ (Ht.out.ext (by repeat' (first | exact Ext.refl _ | assumption | refine Ext.alloc ?_ _ | refine Ext.ext ?_ _ | refine Ext.drew ?_ | refine Ext.drewN ?_ _))))) | (go_at_call 48; exact Calls.quiet_ext (k2.out _ (Ht.out.ext (by repeat' (first | exact Ext.refl _ | assumption | refine Ext.alloc ?_ _ | refine Ext.ext ?_ _ | refine Ext.drew ?_ | refine Ext.drewN ?_ _))))) | (go_at_call 49; exact Calls.quiet_ext (k3.out _ (Ht.out.ext (by repeat' (first | exact Ext.refl _ | assumption | refine Ext.alloc ?_ _ | refine Ext.ext ?_ _ | refine Ext.drew ?_ | refine Ext.drewN ?_ _)))))))); refine wpQuiet_nil ?_; rintro _ ⟨zq, rfl⟩))
    go_wp2_with (fail)
    go_ret
    exact ⟨by rw [HT.out]; rfl, (by repeat' (first | exact Ext.refl _ | assumption | refine Ext.alloc ?_ _ | refine Ext.ext ?_ _ | refine Ext.drew ?_ | refine Ext.drewN ?_ _))⟩
  · have t0 : decide (0 < l) = true := by simp; omega
    have he : lostT l = itoaS l := by rw [lostT, if_neg hl]
    rw [he] at hT s4
    have HT := hid hT
    clear hT he hl
    generalize itemsT g = I at *
    generalize repT g p = R at *
    go_enter Tryd.func29, Tryd.ntmps29
    go_wp2_with (go_at_call 31; refine (k4.out _ (Ht.out.ext (by repeat' (first | exact Ext.refl _ | assumption | refine Ext.alloc ?_ _ | refine Ext.ext ?_ _ | refine Ext.drew ?_ | refine Ext.drewN ?_ _)))).mono ?_; rintro e w' ⟨rfl, z1, rfl⟩)
    repeat (first | (go_wp2_with (fail); refine wp_region_ext (by kernel_rfl) (by kernel_rfl) ?_; (repeat (go_big_quiet_step (first | (go_at_call 31; exact Calls.quiet_ext (k1.out _ (Ht.out.ext (by repeat' (first | exact Ext.refl _ | assumption | refine Ext.alloc ?_ _ | refine Ext.ext ?_ _ | refine Ext.drew ?_ | refine Ext.drewN ?_ _))))) | (go_at_call 48; exact Calls.quiet_ext (k2.out _ (Ht.out.ext (by repeat' (first | exact Ext.refl _ | assumption | refine Ext.alloc ?_ _ | refine Ext.ext ?_ _ | refine Ext.drew ?_ | refine Ext.drewN ?_ _))))) | (go_at_call 49; exact Calls.quiet_ext (k3.out _ (Ht.out.ext (by repeat' (first | exact Ext.refl _ | assumption | refine Ext.alloc ?_ _ | refine Ext.ext ?_ _ | refine Ext.drew ?_ | refine Ext.drewN ?_ _)))))))); refine wpQuiet_nil ?_; rintro _ ⟨zq, rfl⟩))
    go_wp2_with (fail)
    go_ret
    exact ⟨by rw [HT.out]; rfl, (by repeat' (first | exact Ext.refl _ | assumption | refine Ext.alloc ?_ _ | refine Ext.ext ?_ _ | refine Ext.drew ?_ | refine Ext.drewN ?_ _))⟩
theorem spec_l26Text (r g p l : Int) (w : World) (h : okD ⟨r, g, p, l⟩ = true) :
    Calls Tryd.prog 27 #[.agg #[.int .i64 r, .int .i64 g, .int .i64 p, .int .i64 l]] w fun e w' => e = .returned (.string (delT ⟨r, g, p, l⟩)) ∧ Ext w w' := by
  obtain ⟨⟨a1, a2⟩, ⟨b1, b2⟩, ⟨c1, c2⟩, d1, d2⟩ := okD_iff.1 h
  dsimp only at a1 a2 b1 b2 c1 c2 d1 d2
  have hT : delT ⟨r, g, p, l⟩ = ⟨#[82, 101, 99, 101, 105, 118, 101, 114, 32]⟩ ++ itoaS r ++ ⟨#[32, 103, 111, 116, 32]⟩ ++ itemsT g ++ repT g p ++ ⟨#[32, 97, 110, 100, 32, 108, 111, 115, 116, 32]⟩ ++ lostT l ++ ⟨#[46]⟩ := rfl
  have s1 := itoaS_size r (by omega) (by omega)
  have s2 := itemsT_size g b1 b2
  have s3 := repT_size g p (by omega) (by omega)
  have s4 := lostT_size l d1 d2
  have k1 := hid (fun w => spec_l1Num r w (by omega) (by omega))
  have k2 := hid (fun w => spec_l26Items g w b1 b2)
  have k3 := hid (fun w => spec_l26Repairs r g p l w c1 (by omega))
  have k4 := hid (fun w => spec_l1Num l w (by omega) (by omega))
  clear h
  by_cases hl : l = 0
  · subst hl
    have he : lostT 0 ++ ⟨#[46]⟩ = (⟨#[110, 111, 110, 101, 46]⟩ : ByteArray) := rfl
    rw [ByteArray.append_assoc, he] at hT
    have HT := hid hT
    clear hT s4 k4 he
    generalize itemsT g = I at *
    generalize repT g p = R at *
    go_enter Tryd.func27, Tryd.ntmps27
    repeat (first | (go_wp2_with (fail); refine wp_region_ext (by kernel_rfl) (by kernel_rfl) ?_; (repeat (go_big_quiet_step (first | (go_at_call 30; exact Calls.quiet_ext (k1.out _)) | (go_at_call 43; exact Calls.quiet_ext (k2.out _)) | (go_at_call 44; exact Calls.quiet_ext (k3.out _))))); refine wpQuiet_nil ?_; rintro _ ⟨zq, rfl⟩))
    go_wp2_with (fail)
    go_ret
    exact ⟨by rw [HT.out]; rfl, (by repeat' (first | exact Ext.refl _ | assumption | refine Ext.alloc ?_ _ | refine Ext.ext ?_ _ | refine Ext.drew ?_ | refine Ext.drewN ?_ _))⟩
  · have t0 : (l == 0) = false := by simp [hl]
    have he : lostT l = itoaS l := by rw [lostT, if_neg hl]
    rw [he] at hT s4
    have HT := hid hT
    clear hT he hl
    generalize itemsT g = I at *
    generalize repT g p = R at *
    go_enter Tryd.func27, Tryd.ntmps27
    repeat (first | (go_wp2_with ((go_at_call 30; refine (k4.out _).mono ?_; rintro e w' ⟨rfl, z1, rfl⟩)); refine wp_region_ext (by kernel_rfl) (by kernel_rfl) ?_; (repeat (go_big_quiet_step (first | (go_at_call 30; exact Calls.quiet_ext (k1.out _)) | (go_at_call 43; exact Calls.quiet_ext (k2.out _)) | (go_at_call 44; exact Calls.quiet_ext (k3.out _))))); refine wpQuiet_nil ?_; rintro _ ⟨zq, rfl⟩))
    go_wp2_with ((go_at_call 30; refine (k4.out _).mono ?_; rintro e w' ⟨rfl, z1, rfl⟩))
    go_ret
    exact ⟨by rw [HT.out]; rfl, (by repeat' (first | exact Ext.refl _ | assumption | refine Ext.alloc ?_ _ | refine Ext.ext ?_ _ | refine Ext.drew ?_ | refine Ext.drewN ?_ _))⟩
def dtT (x : Dlv) : ByteArray := if okD x then delT x else ⟨#[]⟩
theorem impl_DeliveryText (r g p l : Int) (w : World) (ht : Tab w) :
    Calls Tryd.prog 9 #[.agg #[.int .i64 r, .int .i64 g, .int .i64 p, .int .i64 l]] w fun e w' => e = .returned (.tuple #[.string (dtT ⟨r, g, p, l⟩), .bool (okD ⟨r, g, p, l⟩)]) ∧ Ext w w' := by
  have Ht := hid ht
  clear ht
  have hc := hid (fun w => impl_IsValidDelivery r g p l w)
  cases e1 : okD ⟨r, g, p, l⟩
  · rw [e1] at hc
    have f : dtT ⟨r, g, p, l⟩ = ⟨#[]⟩ := by rw [dtT, e1]; rfl
    rw [f]
    clear e1 f
    go_enter Tryd.func9, Tryd.ntmps9
    go_wp2_with (go_at_call 28; refine (hc.out _).mono ?_; rintro e w' ⟨rfl, z1, rfl⟩)
    go_ret2
    exact ⟨rfl, (by repeat' (first | exact Ext.refl _ | assumption | refine Ext.alloc ?_ _ | refine Ext.ext ?_ _ | refine Ext.drew ?_ | refine Ext.drewN ?_ _))⟩
  · rw [e1] at hc
    have f : dtT ⟨r, g, p, l⟩ = delT ⟨r, g, p, l⟩ := by rw [dtT, e1]; rfl
    rw [f]
    have hx := hid (fun w => impl_deliveryText r g p l w e1)
    clear e1 f
    generalize delT ⟨r, g, p, l⟩ = T at *
    go_enter Tryd.func9, Tryd.ntmps9
    go_wp2_with (first | (go_at_call 28; refine (hc.out _).mono ?_; rintro e w' ⟨rfl, z1, rfl⟩) | (go_at_call 29; refine (hx.out _ (Ht.out.ext (by repeat' (first | exact Ext.refl _ | assumption | refine Ext.alloc ?_ _ | refine Ext.ext ?_ _ | refine Ext.drew ?_ | refine Ext.drewN ?_ _)))).mono ?_; rintro e w' ⟨rfl, z1, rfl⟩))
    go_ret2
    exact ⟨rfl, (by repeat' (first | exact Ext.refl _ | assumption | refine Ext.alloc ?_ _ | refine Ext.ext ?_ _ | refine Ext.drew ?_ | refine Ext.drewN ?_ _))⟩
theorem spec_DeliveryText (r g p l : Int) (w : World) :
    Calls Tryd.prog 7 #[.agg #[.int .i64 r, .int .i64 g, .int .i64 p, .int .i64 l]] w fun e w' => e = .returned (.tuple #[.string (dtT ⟨r, g, p, l⟩), .bool (okD ⟨r, g, p, l⟩)]) ∧ Ext w w' := by
  have hc := hid (fun w => spec_l26One r g p l w)
  cases e1 : okD ⟨r, g, p, l⟩
  · rw [e1] at hc
    have f : dtT ⟨r, g, p, l⟩ = ⟨#[]⟩ := by rw [dtT, e1]; rfl
    rw [f]
    clear e1 f
    go_enter Tryd.func7, Tryd.ntmps7
    go_wp2_with (go_at_call 26; refine (hc.out _).mono ?_; rintro e w' ⟨rfl, z1, rfl⟩)
    go_ret2
    exact ⟨rfl, (by repeat' (first | exact Ext.refl _ | assumption | refine Ext.alloc ?_ _ | refine Ext.ext ?_ _ | refine Ext.drew ?_ | refine Ext.drewN ?_ _))⟩
  · rw [e1] at hc
    have f : dtT ⟨r, g, p, l⟩ = delT ⟨r, g, p, l⟩ := by rw [dtT, e1]; rfl
    rw [f]
    have hx := hid (fun w => spec_l26Text r g p l w e1)
    clear e1 f
    generalize delT ⟨r, g, p, l⟩ = T at *
    go_enter Tryd.func7, Tryd.ntmps7
    go_wp2_with (first | (go_at_call 26; refine (hc.out _).mono ?_; rintro e w' ⟨rfl, z1, rfl⟩) | (go_at_call 27; refine (hx.out _).mono ?_; rintro e w' ⟨rfl, z1, rfl⟩))
    go_ret2
    exact ⟨rfl, (by repeat' (first | exact Ext.refl _ | assumption | refine Ext.alloc ?_ _ | refine Ext.ext ?_ _ | refine Ext.drew ?_ | refine Ext.drewN ?_ _))⟩
end Go.Proofs.YtbencjbdbilmnaaDoor
