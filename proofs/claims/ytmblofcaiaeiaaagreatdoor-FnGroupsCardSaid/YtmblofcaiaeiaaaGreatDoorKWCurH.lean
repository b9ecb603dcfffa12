/- Lists of groups that are drawn. -/
import Derived.Test.YtmblofcaiaeiaaaGreatDoorJ42
import Derived.Test.YtmblofcaiaeiaaaGreatDoorKWPutG2
import Derived.Test.YtmblofcaiaeiaaaGreatDoorJ3
import Derived.Maps.AppendAt
namespace Go.Proofs.YtmblofcaiaeiaaaGreatDoor
open Go.RowKit
set_option maxHeartbeats 2000000
set_option maxRecDepth 100000
/-- Small groups. -/
def SmG (gs : List Grp) : Prop := ∀ g ∈ gs, g.s.size ≤ 9 ∧ g.xs.length ≤ 21
theorem SmG.at {gs : List Grp} (h : SmG gs) (i : Nat) (hi : i < gs.length) : (gs.getD i .z).s.size ≤ 9 ∧ (gs.getD i .z).xs.length ≤ 21 := by
  rw [List.getD_eq_getElem?_getD, List.getElem?_eq_getElem hi]
  exact h _ (List.getElem_mem hi)
theorem SmG.sum {gs : List Grp} (h : SmG gs) (hn : gs.length ≤ 10) : Grp.sum gs ≤ 300 := by
  have key : ∀ l : List Grp, (∀ g ∈ l, g.s.size ≤ 9 ∧ g.xs.length ≤ 21) → Grp.sum l ≤ 30 * l.length := by
    intro l
    induction l with
    | nil => intro _; simp [Grp.sum]
    | cons g l ih =>
      intro hl
      have h1 := ih (fun x hx => hl x (by simp [hx]))
      have h2 := hl g (by simp)
      simp only [Grp.sum, List.map_cons, List.sum_cons, List.length_cons] at h1 ⊢
      omega
  have := key gs h
  omega
theorem putSt_small (gs : List Grp) (g : Grp) : ∀ k, (putSt gs g k).1.length + (if (putSt gs g k).2 then 0 else 1) ≤ k + 1
  | 0 => by rw [putSt]; split <;> simp
  | k + 1 => by
    have := putSt_small gs g k
    rw [putSt]
    dsimp only
    rw [List.length_append]
    have h1 : (if (gs.getD k .z).s = g.s then [] else [gs.getD k .z]).length ≤ 1 := by split <;> simp
    generalize (if (gs.getD k .z).s = g.s then [] else [gs.getD k .z]) = z at h1
    generalize bl (gs.getD k .z).s g.s = y
    generalize (putSt gs g k).1 = l at this
    generalize (putSt gs g k).2 = q at this
    cases q <;> cases y <;> simp at this ⊢ <;> omega
theorem putG_small (gs : List Grp) (g : Grp) : (putG gs g).length ≤ gs.length + 1 := by
  have := putSt_small gs g gs.length
  rw [putG, List.length_append]
  split at this <;> split <;> simp_all
theorem putSt_mem (gs : List Grp) (g : Grp) : ∀ k, k ≤ gs.length → ∀ x ∈ (putSt gs g k).1, x = g ∨ x ∈ gs
  | 0, _, x, hx => by rw [putSt] at hx; simp at hx
  | k + 1, hk, x, hx => by
    rw [putSt] at hx
    dsimp only at hx
    have hm : gs.getD k .z ∈ gs := by rw [List.getD_eq_getElem?_getD, List.getElem?_eq_getElem (by omega)]; exact List.getElem_mem (by omega)
    rcases List.mem_append.1 hx with h1 | h1
    · split at h1
      · rcases List.mem_append.1 h1 with h2 | h2
        · exact putSt_mem gs g k (by omega) x h2
        · exact .inl (List.mem_singleton.1 h2)
      · exact putSt_mem gs g k (by omega) x h1
    · split at h1
      · cases h1
      · exact .inr (by rw [List.mem_singleton.1 h1]; exact hm)
theorem putG_sm {gs : List Grp} {g : Grp} (h : SmG gs) (hg : g.s.size ≤ 9 ∧ g.xs.length ≤ 21) : SmG (putG gs g) := by
  intro x hx
  rw [putG] at hx
  rcases List.mem_append.1 hx with h1 | h1
  · rcases putSt_mem gs g _ (Nat.le_refl _) x h1 with rfl | h2
    · exact hg
    · exact h x h2
  · split at h1
    · cases h1
    · rw [List.mem_singleton.1 h1]; exact hg
/-- While groups are drawn. -/
def GpD (w W : World) (lo B : Nat) (v : Value) (bs : List Int) (A : Nat) (u : Value) (gs : List Grp) (ds : List Gc) : Prop :=
  Dr w W lo B v bs A ∧ W.ownsRow w.heap.size 42 2 u gs.length (ds.flatMap Gc.cs) ∧ PRd w.heap.size W u gs ds ∧ SmG gs
theorem GpD.step {w W W' : World} {lo B A A' : Nat} {v u : Value} {bs : List Int} {gs : List Grp} {ds : List Gc} (h : GpD w W lo B v bs A u gs ds) (hc : Cs W' lo B v bs A') (hg : W.grownBy W' (some B)) : GpD w W' lo B v bs A' u gs ds :=
  ⟨h.1.step hc hg, own_step h.1 h.2.1 (Nat.le_refl _) hg, h.2.2.1.step hg h.1.2.2.2, h.2.2.2⟩
theorem GpD.ext {w W W' : World} {lo B A : Nat} {v u : Value} {bs : List Int} {gs : List Grp} {ds : List Gc} (h : GpD w W lo B v bs A u gs ds) (hx : Ext W W') : GpD w W' lo B v bs A u gs ds := h.step (h.1.1.ext hx) (hx.grownBy _)
theorem GpD.more {w W : World} {lo B A A' : Nat} {v u : Value} {bs : List Int} {gs : List Grp} {ds : List Gc} (h : GpD w W lo B v bs A u gs ds) (hA : A ≤ A') : GpD w W lo B v bs A' u gs ds := ⟨h.1.more hA, h.2⟩
theorem GpD.form {w W : World} {lo B A : Nat} {v u : Value} {bs : List Int} {gs : List Grp} {ds : List Gc} (h : GpD w W lo B v bs A u gs ds) : ∃ g cap, u = .slice (some ⟨g, 0, none⟩) gs.length cap := h.2.2.1.form h.2.1
theorem GpD.rd {w W : World} {lo B A : Nat} {v u : Value} {bs : List Int} {gs : List Grp} {ds : List Gc} (h : GpD w W lo B v bs A u gs ds) : GRd W u gs ds := h.2.2.1.rd h.2.1
theorem GpD.grow {w W W' : World} {lo B A : Nat} {v u u' x : Value} {bs : List Int} {gs : List Grp} {ds : List Gc} {s : ByteArray} {xs : List Int} (h : GpD w W lo B v bs A u gs ds) (hg : W.grownBy W' u.ownBlock)
    (ho : W'.ownsRow w.heap.size 42 2 u' (gs.length + 1) (ds.flatMap Gc.cs ++ [.string s, x])) (hat : u'.ownBlock = u.ownBlock ∨ u'.ownBlock = some W.heap.size)
    (hr : Rd W 1 x xs.length (vInts xs)) (hx : ∀ b o m c, x = .slice (some ⟨b, o, none⟩) m c → 0 < m → w.heap.size ≤ b ∧ u.ownBlock ≠ some b) (hs : s.size ≤ 9) (hl : xs.length ≤ 21) : GpD w W' lo B v bs A u' (gs ++ [⟨s, xs⟩]) (ds ++ [⟨s, x⟩]) := by
  refine ⟨h.1.grow hg (fun j e => (own_row h.2.1 j e).1), ?_, (h.2.2.1.grown hg hat).snoc ⟨s, xs⟩ x (rd_turn hr hg (fun b o m c e hm => (hx b o m c e hm).2)) (fun b o m c e hm => ⟨(hx b o m c e hm).1, ?_⟩), ?_⟩
  · rw [List.length_append, gcs_snoc]; exact ho
  · rcases hat with h1 | h1
    · rw [h1]; exact (hx b o m c e hm).2
    · rw [h1]
      have := rd_lt hr (by decide) e hm
      intro e2
      have := Option.some.inj e2
      omega
  · intro g hg2
    rcases List.mem_append.1 hg2 with h1 | h1
    · exact h.2.2.2 g h1
    · rw [List.mem_singleton.1 h1]; exact ⟨hs, hl⟩
theorem spec_among2 {bs : List Int} (hb : Bts bs) {lo B A : Nat} {v : Value} (L : List Value) (u : Value) (w : World) (h : Cs w lo B v bs A) (hu : Rd w 1 u L.length L) (hub : ∀ b o m c, u = .slice (some ⟨b, o, none⟩) m c → 0 < m → b ≠ B) (hA : A ≤ 900000) (hn : 1 ≤ L.length ∧ L.length ≤ 200) (hs : ∀ y ∈ L, ∃ p n c, y = .slice p n c) :
    Calls Tryz.prog 52 #[.pointer (some ⟨B, 0, none⟩), u] w fun e w' => ∃ x : Value, e = .returned x ∧ x ∈ L ∧ Cs w' lo B v bs (A + 1) ∧ w.grownBy w' (some B) := by
  have Hn := hid (fun w h => spec_pick hb (lo := lo) (B := B) (A := A) (v := v) (L.length : Int) w h hA (by omega))
  have Hc := hid h
  have Hr := hid hu
  obtain ⟨-, p, cap, rfl, h4⟩ := hu
  obtain ⟨b, o, rfl, -⟩ := h4.resolve_left (by omega)
  have hne := hub b o _ _ rfl (by omega)
  clear h hub
  go_enter Tryz.func52, Tryz.ntmps52
  go_wp2_with fail
  go_at_call 45
  refine (Hn.out _ (Hc.out.ext (by repeat' (first | exact Ext.refl _ | assumption | refine Ext.alloc ?_ _ | refine Ext.ext ?_ _ | refine Ext.drew ?_ | refine Ext.drewN ?_ _)))).mono ?_
  rintro e w1 ⟨x, rfl, hx0, hx1, hc1, hg1⟩
  obtain ⟨j, rfl⟩ : ∃ j : Nat, x = j := ⟨x.toNat, by omega⟩
  have hr1 := rd_turn (Hr.out.ext (show Ext w _ from (by repeat' (first | exact Ext.refl _ | assumption | refine Ext.alloc ?_ _ | refine Ext.ext ?_ _ | refine Ext.drew ?_ | refine Ext.drewN ?_ _)))) hg1 (fun b' o' m' c' e _ => by cases e; intro e2; exact hne (Option.some.inj e2).symm)
  obtain ⟨-, p, cap', e9, h4'⟩ := hr1
  cases e9
  obtain ⟨b', o', e8, h6⟩ := h4'.resolve_left (by omega)
  cases e8
  have hj : j < L.length := by omega
  have c0 := h6 j hj
  have hm : L[j] ∈ L := List.getElem_mem hj
  obtain ⟨yp, yn, yc, hy⟩ := hs _ hm
  rw [hy] at c0 hm
  have K := hid (And.intro hm (And.intro hc1 hg1))
  have n0 : (0 : Int) ≤ (j : Int) := by omega
  clear hc1 hg1 h4' h6 hy hm hs
  go_wp2
  go_ret
  first | exact ⟨_, rfl, K.out.1, K.out.2.1, K.out.2.2⟩ | exact ⟨rfl, K.out.1, K.out.2.1, K.out.2.2⟩
theorem rd_pre {w : World} {g m n : Nat} {L M : List Int} (h : Rd w 1 (.slice (some ⟨g, 0, none⟩) n n) n (vInts L)) (hm : 0 < n) (hM : M = L.take m) (hl : M.length = m) : Rd w 1 (.slice (some ⟨g, 0, none⟩) m n) M.length (vInts M) := by
  obtain ⟨h1, p, cap, e, h4⟩ := h
  cases e
  obtain ⟨b', o', e, h6⟩ := h4.resolve_left (by omega)
  cases e
  refine ⟨by simp [vInts], _, _, by rw [hl], .inr ⟨_, _, rfl, fun j hj => ?_⟩⟩
  subst hM
  have hj2 : j < (L.take m).length := by simpa [vInts] using hj
  rw [List.length_take] at hj2
  rw [h6 j (by simp [vInts]; omega)]
  simp [vInts]
theorem spec_memberNode {bs : List Int} (hb : Bts bs) {lo B A : Nat} {v : Value} (w : World) (h : Cs w lo B v bs A) (hA : A ≤ 600000) :
    Calls Tryz.prog 25 #[.pointer (some ⟨B, 0, none⟩)] w fun e w' => ∃ x : Int, e = .returned (.int .i64 x) ∧ Cs w' lo B v bs (A + 2) ∧ w.grownBy w' (some B) := by
  have Hb := hid hb
  have hr0 := rd_litC w 3 #[.int .i64 1, .int .i64 2, .int .i64 3, .int .i64 5, .int .i64 7, .int .i64 0, .int .i64 8]
  have H0 : Hid (Dr w (w.alloc (.cells #[.int .i64 1, .int .i64 2, .int .i64 3, .int .i64 5, .int .i64 7, .int .i64 0, .int .i64 8] 3)) lo B v bs A ∧ Rd (w.alloc (.cells #[.int .i64 1, .int .i64 2, .int .i64 3, .int .i64 5, .int .i64 7, .int .i64 0, .int .i64 8] 3)) 1 (.slice (some ⟨w.heap.size, 0, none⟩) 7 7) 7 (vInts [1, 2, 3, 5, 7, 0, 8])) := ⟨(Dr.start h).ext (by repeat' (first | exact Ext.refl _ | assumption | refine Ext.alloc ?_ _ | refine Ext.ext ?_ _ | refine Ext.drew ?_ | refine Ext.drewN ?_ _)), hr0⟩
  clear h hb hr0
  go_enter Tryz.func25, Tryz.ntmps25
  go_wp2_with fail
  generalize (w.alloc (.cells #[.int .i64 1, .int .i64 2, .int .i64 3, .int .i64 5, .int .i64 7, .int .i64 0, .int .i64 8] 3)) = W at *
  go_at_call 45
  refine (spec_pick Hb.out 24 _ H0.out.1.1 (by omega) (by omega)).mono ?_
  rintro e w1 ⟨x, rfl, hx0, hx1, hc, hg⟩
  have hB := H0.out.1.2.2.2
  have H1 := hid (And.intro (H0.out.1.step hc hg) (rd_turn H0.out.2 hg (fun b o m c e _ e2 => by cases e; have := Option.some.inj e2; omega)))
  clear hc hg H0
  obtain ⟨n, rfl⟩ : ∃ n : Nat, x = n := ⟨x.toNat, by omega⟩
  by_cases n1 : n < 11
  · have hd : (n : Int) / 11 = 0 := by omega
    clear n1
    have hu := hid (rd_pre (m := 5) (M := [1, 2, 3, 5, 7]) H1.out.2 (by decide) rfl rfl)
    go_wp2_with fail
    go_at_call 54
    refine (spec_among Hb.out [1, 2, 3, 5, 7] _ _ H1.out.1.1 hu.out (fun b o m c e _ => by cases e; omega) (by omega) (by decide)).mono ?_
    rintro e w2 ⟨y, rfl, -, hc, hg⟩
    have H2 := hid (H1.out.1.step hc hg)
    clear hc hg H1 hu
    go_wp2
    go_ret
    exact ⟨y, rfl, (H2.out.more (by omega)).fin⟩
  by_cases n2 : n < 22
  · have hd : (n : Int) / 11 = 1 := by omega
    clear n1
    have hu := hid (rd_pre (m := 6) (M := [1, 2, 3, 5, 7, 0]) H1.out.2 (by decide) rfl rfl)
    go_wp2_with fail
    go_at_call 54
    refine (spec_among Hb.out [1, 2, 3, 5, 7, 0] _ _ H1.out.1.1 hu.out (fun b o m c e _ => by cases e; omega) (by omega) (by decide)).mono ?_
    rintro e w2 ⟨y, rfl, -, hc, hg⟩
    have H2 := hid (H1.out.1.step hc hg)
    clear hc hg H1 hu
    go_wp2
    go_ret
    exact ⟨y, rfl, (H2.out.more (by omega)).fin⟩
  · have hd : (n : Int) / 11 = 2 := by omega
    clear n1
    have hu := hid (rd_pre (m := 7) (M := [1, 2, 3, 5, 7, 0, 8]) H1.out.2 (by decide) rfl rfl)
    go_wp2_with fail
    go_at_call 54
    refine (spec_among Hb.out [1, 2, 3, 5, 7, 0, 8] _ _ H1.out.1.1 hu.out (fun b o m c e _ => by cases e; omega) (by omega) (by decide)).mono ?_
    rintro e w2 ⟨y, rfl, -, hc, hg⟩
    have H2 := hid (H1.out.1.step hc hg)
    clear hc hg H1 hu
    go_wp2
    go_ret
    exact ⟨y, rfl, (H2.out.more (by omega)).fin⟩
end Go.Proofs.YtmblofcaiaeiaaaGreatDoor
