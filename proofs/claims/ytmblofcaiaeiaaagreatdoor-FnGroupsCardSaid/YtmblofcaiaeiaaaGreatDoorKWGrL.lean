/- What the law of groups says, in plain words. -/
import Derived.Test.YtmblofcaiaeiaaaGreatDoorJ32
import Derived.Test.YtmblofcaiaeiaaaGreatDoorKWMg2
namespace Go.Proofs.YtmblofcaiaeiaaaGreatDoor
open Go.RowKit
set_option maxHeartbeats 400000
theorem put_filter {L : List Int} (h : asc L) {x : Int} (hx : L.contains x = false) : (put L x).filter (fun y => !(y == x)) = L := by
  have hm : ∀ y ∈ L, (!(y == x)) = true := fun y hy => by
    rw [Bool.not_eq_true', beq_eq_false_iff_ne]
    rintro rfl
    rw [← Bool.not_eq_true, List.contains_iff_mem] at hx
    exact hx hy
  rw [put_out h hx, List.filter_append, List.filter_cons_of_neg (by simp), List.filter_eq_self.2 (fun y hy => hm y (List.mem_of_mem_take hy)), List.filter_eq_self.2 (fun y hy => hm y (List.mem_of_mem_drop hy)), List.take_append_drop]
theorem grp_at {gs : List Grp} {p : Nat} (h : p < gs.length) : gs = gs.take p ++ gs.getD p .z :: gs.drop (p + 1) := by
  have e : gs.getD p .z = gs[p] := by rw [List.getD_eq_getElem?_getD, List.getElem?_eq_getElem h]; rfl
  rw [e, List.getElem_cons_drop, List.take_append_drop]
theorem grp_set {gs : List Grp} {p : Nat} (g : Grp) (h : p < gs.length) : gs.set p g = gs.take p ++ g :: gs.drop (p + 1) := by
  rw [List.set_eq_take_append_cons_drop, if_pos h]
theorem ers_ins {α : Type} (l : List α) (i : Nat) (x : α) (h : i ≤ l.length) : ers (ins l i x) i = l := by
  have hl : (l.take i).length = i := by rw [List.length_take]; omega
  rw [ers, ins, List.take_append_of_le_length (by omega), List.take_of_length_le (by omega)]
  rw [List.drop_append, List.drop_of_length_le (by omega), hl, show i + 1 - i = 1 by omega]
  exact List.take_append_drop i l
theorem fhas_ne {gs : List Grp} {name : ByteArray} (h : fhas gs name = false) (i : Nat) (hi : i < gs.length) : ¬ (gs.getD i .z).s = name := fun e => by
  rw [fhas_at hi e] at h; cases h
theorem jgB_all {gs : List Grp} {name : ByteArray} {x : Int} (h : jgB gs name x = true) : goodG gs = true ∧ inB x 1 7 = true ∧ (memL gs name).contains x = false ∧ goodG (jnJ gs name x) = true := by
  simp only [jgB, Bool.and_eq_true, Bool.not_eq_true'] at h
  exact ⟨h.1.1.1, h.1.1.2, h.1.2, h.2⟩
/-- Where the group stands behind a join, and what it holds. -/
theorem join_at {gs : List Grp} {name : ByteArray} {x : Int} (h : jgB gs name x = true) : fhas (jnJ gs name x) name = true ∧ memL (jnJ gs name x) name = put (memL gs name) x := by
  obtain ⟨hg, -, -, -⟩ := jgB_all h
  cases ha : fhas gs name
  · have hle := gpos_le gs name
    have hat : (jnJ gs name x).getD (gpos gs name) .z = ⟨name, put [] x⟩ := by rw [jn_out hg ha, ins_getD _ _ _ _ _ hle, if_neg (by omega), if_pos rfl]
    have hlt : gpos gs name < (jnJ gs name x).length := by rw [jn_out hg ha, ins_len _ _ _ hle]; omega
    have hf : fhas (jnJ gs name x) name = true := fhas_at hlt (by rw [hat])
    have hi : fidx (jnJ gs name x) name = gpos gs name := fidx_at hlt (fun i hi => by
      rw [jn_out hg ha, ins_getD _ _ _ _ _ hle, if_pos hi]
      exact fhas_ne ha i (by omega)) (by rw [hat])
    refine ⟨hf, ?_⟩
    rw [memL_at hf, hi, hat, memL_none ha]
  · have hp := fhas_get ha
    have e := jn_in hg ha x
    obtain ⟨hf, hi⟩ := fhas_set (name := name) (fidx gs name) ⟨(gs.getD (fidx gs name) .z).s, put (gs.getD (fidx gs name) .z).xs x⟩ hp.1 rfl ha
    rw [e]
    refine ⟨hf, ?_⟩
    rw [memL_at hf, hi, getD_set _ _ _ _ _ hp.1, if_pos rfl, memL_at ha]
theorem join_leave {gs : List Grp} {name : ByteArray} {x : Int} (h : jgB gs name x = true) : lvB (jnJ gs name x) name x = true ∧ lvI (jnJ gs name x) name x = gs := by
  obtain ⟨hg, -, hc, hgj⟩ := jgB_all h
  obtain ⟨hf, hm⟩ := join_at h
  have hB : lvB (jnJ gs name x) name x = true := by
    rw [lvB, hgB, hgj, hf, hm, List.contains_iff_mem.2 ((put_mem _ _ _).2 (.inr rfl))]; rfl
  refine ⟨hB, ?_⟩
  have hM : lvM (jnJ gs name x) name x = memL gs name := by
    rw [lvM, hm]
    cases ha : fhas gs name
    · rw [memL_none ha]; exact put_filter (L := []) List.Pairwise.nil rfl
    · exact put_filter (memL_ok' hg ha).1 hc
  rw [lvI_yes hB, hM]
  cases ha : fhas gs name
  · rw [memL_none ha, if_pos (by rfl)]
    have hle := gpos_le gs name
    have hlt : gpos gs name < (jnJ gs name x).length := by rw [jn_out hg ha, ins_len _ _ _ hle]; omega
    have hi : fidx (jnJ gs name x) name = gpos gs name := fidx_at hlt (fun i hi => by
      rw [jn_out hg ha, ins_getD _ _ _ _ _ hle, if_pos hi]
      exact fhas_ne ha i (by omega)) (by rw [jn_out hg ha, ins_getD _ _ _ _ _ hle, if_neg (by omega), if_pos rfl])
    rw [hi, jn_out hg ha]
    exact ers_ins _ _ _ hle
  · have hp := fhas_get ha
    have hne := (goodG_mem hg _ hp.1).2.1
    rw [memL_at ha, if_neg (by omega)]
    obtain ⟨-, hi⟩ := fhas_set (name := name) (fidx gs name) ⟨(gs.getD (fidx gs name) .z).s, put (gs.getD (fidx gs name) .z).xs x⟩ hp.1 rfl ha
    rw [jn_in hg ha x, hi, List.set_set]
    conv => rhs; rw [grp_at hp.1]
    rw [grp_set _ hp.1]
    congr 2
    have key : ∀ g : Grp, g.s = name → (⟨name, g.xs⟩ : Grp) = g := by rintro ⟨s, xs⟩ rfl; rfl
    exact key _ hp.2
/-- The groups of a node. -/
def gofB (gs : List Grp) (x : Int) : Bool := goodG gs && inB x 1 7
def gofTo (gs : List Grp) (x : Int) (k : Nat) : List ByteArray := ((gs.take k).filter (fun g => g.xs.contains x)).map (·.s)
def gof (gs : List Grp) (x : Int) : List ByteArray := if gofB gs x then gofTo gs x gs.length else []
theorem gof_no {gs : List Grp} {x : Int} (h : gofB gs x = false) : gof gs x = [] := by rw [gof, h]; rfl
theorem gof_yes {gs : List Grp} {x : Int} (h : gofB gs x = true) : gof gs x = gofTo gs x gs.length := by rw [gof, h]; rfl
theorem gofTo_snoc (gs : List Grp) (x : Int) (k : Nat) (h : k < gs.length) : gofTo gs x (k + 1) = gofTo gs x k ++ (if (gs.getD k .z).xs.contains x then [(gs.getD k .z).s] else []) := by
  rw [gofTo, take_snoc gs .z k h, List.filter_append, List.map_append]
  congr 1
  cases hc : (gs.getD k .z).xs.contains x
  · rw [List.filter_cons_of_neg (by rw [hc]; simp)]; rfl
  · rw [List.filter_cons_of_pos (by exact hc)]; rfl
theorem gofTo_len (gs : List Grp) (x : Int) (k : Nat) : (gofTo gs x k).length ≤ k := by
  rw [gofTo, List.length_map]
  exact Nat.le_trans (List.length_filter_le _ _) (by rw [List.length_take]; omega)
theorem gof_count {gs : List Grp} {x : Int} (h : gofB gs x = true) : (gof gs x).length = gs.countP (fun g => g.xs.contains x) := by
  rw [gof_yes h, gofTo, List.take_length, List.length_map, List.countP_eq_length_filter]
theorem join_of {gs : List Grp} {name : ByteArray} {x : Int} (h : jgB gs name x = true) : gofB (jnJ gs name x) x = true ∧ gofB gs x = true ∧ (gof (jnJ gs name x) x).length = (gof gs x).length + 1 := by
  obtain ⟨hg, hx, hc, hgj⟩ := jgB_all h
  have h1 : gofB (jnJ gs name x) x = true := by rw [gofB, hgj, hx]; rfl
  have h2 : gofB gs x = true := by rw [gofB, hg, hx]; rfl
  refine ⟨h1, h2, ?_⟩
  rw [gof_count h1, gof_count h2]
  have hput : ∀ L : List Int, (put L x).contains x = true := fun L => List.contains_iff_mem.2 ((put_mem _ _ _).2 (.inr rfl))
  cases ha : fhas gs name
  · rw [jn_out hg ha, ins]
    conv => rhs; rw [← List.take_append_drop (gpos gs name) gs]
    rw [List.countP_append, List.countP_append, List.countP_cons_of_pos (by exact hput [])]
    omega
  · have hp := fhas_get ha
    rw [memL_at ha] at hc
    rw [jn_in hg ha x, grp_set _ hp.1]
    conv => rhs; rw [grp_at hp.1]
    rw [List.countP_append, List.countP_append, List.countP_cons_of_pos (by exact hput _), List.countP_cons_of_neg (by rw [hc]; simp)]
    omega
end Go.Proofs.YtmblofcaiaeiaaaGreatDoor
