/- A range over a function that keeps what is left of a text in a cell of its own: the loop's law. The lines of a text, one by one: the library's iterator. A function's two results that lie in variables of one cell. -/
import Derived.RangeFuncWrites
import Derived.RangeFuncLeaves
import Derived.RangeFuncBox
import Derived.RangeFuncBound
import Derived.RangeFuncCalls
import Derived.Test.YtljknhocfjpolaaGreatDoorJ2
import Derived.Test.YtljknhocfjpolaaGreatDoorKWPcL
import Derived.Test.YtljknhocfjpolaaGreatDoorJ39
import Derived.Test.YtljknhocfjpolaaGreatDoorJ3
import Derived.Test.YtljknhocfjpolaaGreatDoorKWRd2
import Derived.Shelf.Abstract
import Derived.WalkKit
import Derived.OwnWalkIn
import Derived.TacticsInMore
import Derived.RegionIn
import Derived.LoopNIn
import Derived.LoopIn
namespace Go.Proofs.YtljknhocfjpolaaGreatDoor
open Go.RowKit
set_option maxHeartbeats 400000
/-- From B on whatever is no cells lies as it lay, and block Z too. -/
def KeepZ (Z B : Nat) (W W' : World) : Prop := KeepsFrom B W W' ∧ W'.heap[Z]? = W.heap[Z]?
/-- It abides new blocks, a turn of block Z, and a turn from B on of what is no cells. -/
def OwnZ (Z B : Nat) (I : World → Prop) : Prop :=
  ∀ W W' row, I W → W.grownBy W' row → (∀ r, row = some r → r = Z ∨ (B ≤ r ∧ ∃ o : Obj, W.heap[r]? = some o ∧ o.isCells = false)) → I W'
theorem OwnZ.put {Z B l : Nat} {I : World → Prop} (h : OwnZ Z B I) {W : World} {o : Obj} (o' : Obj) (hs : I W) (hB : B ≤ l) (hl : W.heap[l]? = some o) (ho : o.isCells = false) : I (W.putObj l o') :=
  h W _ (some l) hs (grownBy_putObj' W l o') (fun r e => by cases e; exact .inr ⟨hB, o, hl, ho⟩)
theorem OwnZ.alloc {Z B : Nat} {I : World → Prop} (h : OwnZ Z B I) {W : World} (hs : I W) (o : Obj) : I (W.alloc o) := h W _ none hs (World.grownBy_alloc W o none) (fun r e => by cases e)
theorem OwnZ.turn {Z B : Nat} {I : World → Prop} (h : OwnZ Z B I) {W W' : World} (hs : I W) (hg : W.grownBy W' (some Z)) : I W' := h W W' (some Z) hs hg (fun r e => by cases e; exact .inl rfl)
/-- What the iterator promises, for every loop: the pieces 'hd' of what is left come one by one, what is left turning to 'tl'. -/
def SeqText (n : Nat) (P : Program) (gf Z t : Nat) (hd tl : ByteArray → ByteArray) : Prop :=
  ∀ (l : Nat) (J : ByteArray → World → Prop) (Jx : World → Prop) (s : ByteArray) (W : World),
    (∀ R W W', J R W → W.grownBy W' (some Z) → J R W') →
    (∀ R W, J R W → 0 < R.size → R.size ≤ s.size → W.heap[Z]? = some (.cells #[.string (tl R)] t (0, 0)) →
      YieldAt Fence.wide (n - 1) P l #[.string (hd R)] W fun e W' => (e = .returned (.bool true) ∧ J (tl R) W' ∧ W'.heap[Z]? = W.heap[Z]?) ∨ (e = .returned (.bool false) ∧ Jx W')) →
    J s W → W.heap[Z]? = some (.cells #[.string s] t (0, 0)) → s.size ≤ 1048576 →
    CallsIn Fence.wide n P gf #[.func (.yield l) #[] #[], .pointer (some ⟨Z, 0, none⟩)] W fun e W' => (∃ v, e = .returned v) ∧ ((∃ R, R.size = 0 ∧ J R W') ∨ Jx W')
/-- How a round may be left. -/
def endText (Z B : Nat) (I Ix : World → Prop) (W : World) : Exit → Act → World → Prop
  | .normal, _, W' => KeepZ Z B W W' ∧ I W'
  | .ret, _, W' => KeepsFrom B W W' ∧ Ix W'
  | _, _, _ => False
theorem wpIn_text {P : Program} {n : Nat} {g : Operand} {ps : Array Tmp} {assign body : Code} {Q : Exit → Act → World → Prop} {a : Act} {w : World} {gf Z t : Nat} {hd tl : ByteArray → ByteArray}
    (hseq : SeqText (n - 1) P gf Z t hd tl) (hg : a.eval g = .func (.func gf) #[] #[.pointer (some ⟨Z, 0, none⟩)]) (eg : ∀ args w, (callFunc gf args).run P w = .ok (.enter gf args) w) (hps : ps.size = 1)
    (s : ByteArray) (hsz : s.size ≤ 1048576) (hZ : w.heap[Z]? = some (.cells #[.string s] t (0, 0)))
    (I : ByteArray → World → Prop) (Ix : World → Prop) (hI : ∀ R, OwnZ Z w.heap.size (I R)) (hIx : OwnZ Z w.heap.size Ix) (h0 : I s w) (a₁ : ByteArray → Act)
    (hassign : ∀ (l : Nat) (R : ByteArray) (W : World) (K : Act → World → Prop), K (a₁ R) W →
      assign.wpIn (Fence.wide.inRound l) (n - 1 - 1) P (Exit.then K (fun _ _ _ => False)) { tmps := (ps.zip #[.string (hd R)]).foldl (fun t (p, v) => t.setIfInBounds p v) a.tmps, defers := [] } W)
    (hbody : ∀ (l : Nat) (R : ByteArray) (W : World), I R W → 0 < R.size → R.size ≤ s.size → body.wpIn (Fence.wide.inRound l) (n - 1 - 1) P (endText Z w.heap.size (I (tl R)) Ix W) (a₁ R) W)
    (hdone : ∀ (D : Nat) (R : ByteArray) (W : World), w.heap.size ≤ D → R.size = 0 → I R W → W.heap[D]? = some (.deferred (some [])) → Q .normal { a with defers := { target := .collected D, args := #[] } :: a.defers } W)
    (hstop : ∀ (D : Nat) (W : World), w.heap.size ≤ D → Ix W → W.heap[D]? = some (.deferred (some [])) → Code.ret.wpIn Fence.wide n P Q { a with defers := { target := .collected D, args := #[] } :: a.defers } W) :
    (Code.rangeFunc g ps assign body).wpIn Fence.wide n P Q a w := by
  have hZl : Z < w.heap.size := (Array.getElem?_eq_some_iff.1 hZ).1
  refine wpIn_rangeFunc fun fn hfn => ?_
  have hround : Fence.wide.round = none := rfl
  rw [hround]
  -- the loop's record, in its states
  let rc : LoopState → Option Code → Loop := fun st pe => { state := st, pending := pe, fn := fn, tmps := a.tmps, params := ps, assign := assign, body := body, defers := w.heap.size }
  let J0 : LoopState → Option Code → World → Prop := fun st pe W => W.heap[w.heap.size + 1]? = some (.loop (rc st pe)) ∧ W.heap[w.heap.size]? = some (.deferred (some []))
  have J0turn : ∀ st pe W W', J0 st pe W → W.grownBy W' (some Z) → J0 st pe W' := fun st pe W W' h k =>
    ⟨(k.block _ (Array.getElem?_eq_some_iff.1 h.1).1 (fun e => by have := Option.some.inj e; omega)).trans h.1, (k.block _ (Array.getElem?_eq_some_iff.1 h.2).1 (fun e => by have := Option.some.inj e; omega)).trans h.2⟩
  have J0put : ∀ st pe st' pe' W, J0 st pe W → J0 st' pe' (W.putObj (w.heap.size + 1) (.loop (rc st' pe'))) := fun st pe st' pe' W h =>
    ⟨World.putObj_heap_same (Array.getElem?_eq_some_iff.1 h.1).1, (World.putObj_heap_other (by omega)).trans h.2⟩
  have J0keep : ∀ st pe W W', J0 st pe W → KeepsFrom w.heap.size W W' → J0 st pe W' := fun st pe W W' h k => ⟨k.same _ _ (by omega) h.1 rfl, k.same _ _ (Nat.le_refl _) h.2 rfl⟩
  have s1 : J0 .ready none ((w.alloc (.deferred (some []))).alloc (.loop (rc .ready none))) := by
    refine ⟨?_, ?_⟩
    · have := World.alloc_heap_new (w.alloc (.deferred (some []))) (.loop (rc .ready none))
      rwa [World.size_alloc] at this
    · exact (Below.heap_alloc _ _ _ (by simp)).trans (World.alloc_heap_new w _)
  have s2 : I s ((w.alloc (.deferred (some []))).alloc (.loop (rc .ready none))) := (hI s).alloc ((hI s).alloc h0 _) _
  have s3 : ((w.alloc (.deferred (some []))).alloc (.loop (rc .ready none))).heap[Z]? = some (.cells #[.string s] t (0, 0)) :=
    (Below.heap_alloc _ _ _ (by simp; omega)).trans ((Below.heap_alloc _ _ _ hZl).trans hZ)
  generalize hW1 : (w.alloc (.deferred (some []))).alloc (.loop (rc .ready none)) = W1 at *
  refine ⟨w.heap.size + 1, [{ target := .collected w.heap.size, args := #[] }], W1, { target := .fn (.func gf) #[.pointer (some ⟨Z, 0, none⟩)], args := #[.func (.yield (w.heap.size + 1)) #[] #[]] }, W1, gf,
    #[.func (.yield (w.heap.size + 1)) #[] #[], .pointer (some ⟨Z, 0, none⟩)], W1, (by rw [← hW1]; exact run_enterLoop_outer fn a.tmps ps assign body), ?_, fun f' hf' => trivial, ?_, fun h => (by cases h), ?_⟩
  · simp only [resolve, hg]
    simp [go_sem]
  · simp [invoke, go_sem, eg]
  · refine (hseq (w.heap.size + 1) (fun R W => I R W ∧ J0 .ready none W) (fun W => Ix W ∧ J0 .done (some .ret) W) s _ (fun R W W' h k => ⟨(hI R).turn h.1 k, J0turn _ _ _ _ h.2 k⟩) ?_ ⟨s2, s1⟩ s3 hsz).mono ?_
    · rintro R W ⟨hi, hj⟩ hR hRs hz
      have hy := run_yield (P := P) (args := #[.string (hd R)]) hj.1 hps.symm
      refine ⟨fn, _, assign, body, hy, roundIn_of_wpIn trivial (hassign _ R W _ ⟨_, run_beginRound hj.1 rfl, ?_⟩)⟩
      have hjB : J0 .busy none (W.putObj (w.heap.size + 1) (.loop (rc .busy none))) := J0put _ _ _ _ _ hj
      have hiB := (hI R).put (.loop (rc .busy none)) hi (by omega) hj.1 rfl
      have hzB : (W.putObj (w.heap.size + 1) (.loop (rc .busy none))).heap[Z]? = W.heap[Z]? := World.putObj_heap_other (by omega)
      refine wpIn_mono (hbody _ R _ hiB hR hRs) ?_
      rintro e a3 W3 hp
      cases e with
      | normal =>
        obtain ⟨⟨hk, hkz⟩, hi3⟩ := hp
        have hj3 := J0keep _ _ _ _ hjB hk
        refine ⟨_, _, run_endRound (P := P) none hj3.1, .inl ⟨rfl, ⟨(hI _).put _ hi3 (by omega) hj3.1 rfl, J0put _ _ .ready none _ hj3⟩, ?_⟩⟩
        exact (World.putObj_heap_other (by omega)).trans (hkz.trans hzB)
      | ret =>
        obtain ⟨hk, hi3⟩ := hp
        have hj3 := J0keep _ _ _ _ hjB hk
        exact ⟨_, _, run_endRound (P := P) (some .ret) hj3.1, .inr ⟨rfl, hIx.put _ hi3 (by omega) hj3.1 rfl, J0put _ _ .done (some .ret) _ hj3⟩⟩
      | exit id => exact hp.elim
      | goto t => exact hp.elim
      | panic ch => exact hp.elim
      | outgrown => exact hp.elim
    · rintro e W2 ⟨⟨v, rfl⟩, (⟨R, hR, hi, hj⟩ | ⟨hi, hj⟩)⟩
      · exact ⟨none, _, run_endLoop (P := P) hj.1 (by simp [rc]), hdone _ R _ (Nat.le_refl _) hR ((hI R).put _ hi (by omega) hj.1 rfl) ((World.putObj_heap_other (by omega)).trans hj.2)⟩
      · exact ⟨some .ret, _, run_endLoop (P := P) hj.1 (by simp [rc]), hstop _ _ (Nat.le_refl _) (hIx.put _ hi (by omega) hj.1 rfl) ((World.putObj_heap_other (by omega)).trans hj.2)⟩
end Go.Proofs.YtljknhocfjpolaaGreatDoor
namespace Go.Proofs.YtljknhocfjpolaaGreatDoor
open Go.RowKit Go.Shelf
set_option maxHeartbeats 2000000
set_option maxRecDepth 100000
attribute [local go_sem] Oper.semAt_some
theorem grow_drew {W W' : World} {row : Option Nat} (h : W.grownBy W' row) : W.grownBy W'.drew row := grownBy_trans h (((Ext.refl W').drew).grownBy row)
/-- How much is left, read off the world. -/
def leftZ (Z : Nat) (W : World) : Nat := match W.cell? ⟨Z, 0, none⟩ with
  | some (.string R) => R.size
  | _ => 0
theorem leftZ_of {Z t : Nat} {W : World} {R : ByteArray} (h : W.heap[Z]? = some (.cells #[.string R] t (0, 0))) : leftZ Z W = R.size := by
  rw [leftZ, (box1 h).1]
theorem lnE_pos {R : List UInt8} (h : 0 < R.length) : 0 < lnE R ∧ lnE R ≤ R.length := by
  rw [lnE]
  split
  · exact ⟨h, Nat.le_refl _⟩
  · rename_i hi
    have h1 := Lib.indexByte_ge R 10
    obtain ⟨o, ho⟩ : ∃ o : Nat, Lib.indexByte R 10 = o := ⟨(Lib.indexByte R 10).toNat, by omega⟩
    have h2 := (Lib.indexByte_some ho).1
    have h3 := (List.getElem?_eq_some_iff.1 h2).1
    rw [ho, Int.toNat_natCast]
    omega
theorem lnZ_size {R : ByteArray} (h : 0 < R.size) : (lnZ R).size < R.size := by
  have e : R.data.toList.length = R.size := by simp
  have := lnE_pos (R := R.data.toList) (by omega)
  rw [lnZ, mkS_size, List.length_drop]
  omega
theorem lnA_size (R : ByteArray) : (lnA R).size ≤ R.size := by
  have e : R.data.toList.length = R.size := by simp
  rw [lnA, mkS_size, List.length_take]
  omega
theorem strings_Lines (s : ByteArray) (w : World) : Calls Tryz.prog 41 #[.string s] w fun e w' => e = .returned (.func (.func 84) #[] #[.pointer (some ⟨w.heap.size, 0, none⟩)]) ∧ w' = w.alloc (.cells #[.string s] 9) := by
  go_enter Tryz.func41, Tryz.ntmps41
  go_wp2
  go_ret
  exact ⟨rfl, rfl⟩
theorem lines_seq (n : Nat) (hn : 1 ≤ n) (Z : Nat) : SeqText n Tryz.prog 84 Z 9 lnA lnZ := by
  intro l J Jx s W hJ hY h0 hZ hsz
  have HJ := hid hJ
  have HY := hid hY
  clear hJ hY
  refine callsIn_of_wp Tryz.func84 rfl trivial ?_ rfl
  simp only [Tryz.ntmps84, List.size_toArray, List.length_cons, List.length_nil, Nat.reduceAdd, Nat.reduceSub, Array.replicate_succ, Array.replicate_zero, List.push_toArray, List.append_toArray, List.nil_append, List.cons_append]
  gi_wp2
  gi_loopw [3, 4] (fun v3 v4 wr => ∃ (R : ByteArray) (yr : World), yr = wr ∧ R.size ≤ s.size ∧ Hid (J R yr ∧ yr.heap[Z]? = some (.cells #[.string R] 9 (0, 0)))) (fun _ _ wr => leftZ Z wr)
  case atStart => exact ⟨s, _, rfl, Nat.le_refl _, h0, hZ⟩
  case round =>
    obtain ⟨R, wr, rfl, hR, H⟩ := hrel
    obtain ⟨z0, z1, z2⟩ := box1 H.out.2
    by_cases h0 : R.size = 0
    · have t0 : ¬ (0 : Int) < (R.size : Int) := by omega
      obtain rfl : R = ByteArray.empty := ByteArray.ext (Array.eq_empty_of_size_eq_zero h0)
      have HJ1 := hid H.out.1
      clear H
      gi_wp2
      go_end0
      exact ⟨⟨_, rfl⟩, .inl HJ1.out⟩
    · have t0 : (0 : Int) < (R.size : Int) := by omega
      have hpos : 0 < R.size := by omega
      have ci := hid (fun w => strings_IndexByte R 10 w)
      have hms := lnZ_size hpos
      have hlm : leftZ Z wr = R.size := leftZ_of H.out.2
      rw [show ((10 : Int).toNat.toUInt8) = 10 from rfl] at ci
      have e9 : R.data.toList.length = R.size := by simp
      have hg0 := fun (v : ByteArray) => grownBy_set wr ⟨Z, 0, none⟩ (.string v)
      have hy0 := fun (W1 : World) (hg : wr.grownBy W1 (some Z)) (hz : W1.heap[Z]? = some (.cells #[.string (lnZ R)] 9 (0, 0))) => HY.out R W1 (HJ.out R wr W1 H.out.1 hg) hpos hR hz
      by_cases hi : Lib.indexByte R.data.toList 10 = -1
      · have hA : lnA R = R := by rw [lnA, lnE, if_pos hi, List.take_length, mkS_of]
        have hZ' : lnZ R = ⟨#[]⟩ := by rw [lnZ, lnE, if_pos hi, List.drop_length]; rfl
        rw [hi] at ci
        rw [hA, hZ'] at hy0
        have hz1 := box1_set H.out.2 (.string ⟨#[]⟩)
        obtain ⟨fn, tmps, assign, body, hy, hR3⟩ := hy0 (wr.setCell ⟨Z, 0, none⟩ (.string ⟨#[]⟩)) (hg0 _) hz1
        have HR3 := hid hR3
        have Hlm := hid hlm
        have Hms := hid hms
        rw [hZ'] at Hms
        clear hi hA hZ' hR3 hy0 hg0 hlm hms
        gi_wp2_with (refine ⟨trivial, ?_⟩; gi_at_call 85; refine (callsIn_wide.2 (ci.out _)).mono ?_; rintro e w' ⟨rfl, rfl⟩)
        refine HR3.out.mono ?_
        rintro e W3 (⟨rfl, hJ3, hk⟩ | ⟨rfl, hx⟩)
        · have H3 := hid (And.intro hJ3 (hk.trans hz1))
          clear hJ3 hk
          gi_wp2
          exact ⟨⟨⟨#[]⟩, _, rfl, Nat.zero_le _, H3.out⟩, by rw [Hlm.out, leftZ_of H3.out.2]; exact Hms.out⟩
        · gi_wp2
          refine bodyPost_ret (results_none rfl _ _ _) rfl ?_
          exact ⟨⟨_, rfl⟩, .inr hx⟩
      · obtain ⟨o, ho⟩ : ∃ o : Nat, Lib.indexByte R.data.toList 10 = o := ⟨(Lib.indexByte R.data.toList 10).toNat, by have := Lib.indexByte_ge R.data.toList 10; omega⟩
        have hol : o < R.size := by have := (List.getElem?_eq_some_iff.1 (Lib.indexByte_some ho).1).1; omega
        have hE : lnE R.data.toList = o + 1 := by rw [lnE, if_neg hi, ho, Int.toNat_natCast]
        have hA : lnA R = R.extract 0 (o + 1) := by rw [lnA, hE, ext_mkS]; rfl
        have hZ' : lnZ R = R.extract (o + 1) R.size := by rw [lnZ, hE, ext_mkS, List.take_of_length_le (by rw [List.length_drop]; omega)]
        rw [ho] at ci
        rw [hA, hZ'] at hy0
        rw [hZ'] at hms
        have hz1 := box1_set H.out.2 (.string (R.extract (o + 1) R.size))
        obtain ⟨fn, tmps, assign, body, hy, hR3⟩ := hy0 (wr.setCell ⟨Z, 0, none⟩ (.string (R.extract (o + 1) R.size))).drew (grow_drew (hg0 _)) hz1
        have HR3 := hid hR3
        have Hlm := hid hlm
        have Hms := hid hms
        have o0 : (0 : Int) ≤ (o : Int) := by omega
        have o1 : IntKind.i64.wrap ((o : Int) + 1) = (o : Int) + 1 := IntWalk.i64_in _ (by omega)
        have o2 : (0 : Int) ≤ (o : Int) + 1 := by omega
        have o3 : (o : Int) + 1 ≤ (R.size : Int) := by omega
        have o4 : ((o : Int) + 1).toNat = o + 1 := by omega
        clear hi hA hZ' hR3 hy0 hg0 hlm hms ho hE
        gi_wp2_with (refine ⟨trivial, ?_⟩; gi_at_call 85; refine (callsIn_wide.2 (ci.out _)).mono ?_; rintro e w' ⟨rfl, rfl⟩)
        gi_region
        gi_wp2
        refine HR3.out.mono ?_
        rintro e W3 (⟨rfl, hJ3, hk⟩ | ⟨rfl, hx⟩)
        · have H3 := hid (And.intro hJ3 (hk.trans hz1))
          clear hJ3 hk
          gi_wp2
          exact ⟨⟨_, _, rfl, by have := Hms.out; omega, H3.out⟩, by rw [Hlm.out, leftZ_of H3.out.2]; exact Hms.out⟩
        · gi_wp2
          refine bodyPost_ret (results_none rfl _ _ _) rfl ?_
          exact ⟨⟨_, rfl⟩, .inr hx⟩
end Go.Proofs.YtljknhocfjpolaaGreatDoor
namespace Go
section
variable {P : Program}
theorem run_loadVar_one (w : World) (g : Nat) (t ty : TypeId) (a : Value) (d : TypeDesc) (hg : w.heap[g]? = some (.cells #[a] t (0, 0))) (hu : P.underlying ty = some d) (hd : (match d with | .struct _ | .array _ _ => false | _ => true) = true) :
    (loadVar ty ⟨g, 0, none⟩).run P w = .ok a w := by
  have hagg : (isAgg ty).run P w = .ok false w := by
    unfold isAgg
    rw [Sem.run_bind, run_underlying hu w]
    cases d <;> simp_all
  have hc : w.cell? ⟨g, 0, none⟩ = some a := by rw [cell_of_row w g 0 _ t _ hg]; rfl
  simp [loadVar, Sem.run_bind, hagg, hc, Result.andThen]
theorem results_pp {fn : Func} {p q : Tmp} {ty ty2 : TypeId} (tmps : Array Value) (w : World) (g g2 : Nat) (t t2 : TypeId) (a b : Value) (d d2 : TypeDesc)
    (hp : tmps.getD p undef = .pointer (some ⟨g, 0, none⟩)) (hg : w.heap[g]? = some (.cells #[a] t (0, 0))) (hu : P.underlying ty = some d) (hd : (match d with | .struct _ | .array _ _ => false | _ => true) = true)
    (hq : tmps.getD q undef = .pointer (some ⟨g2, 0, none⟩)) (hg2 : w.heap[g2]? = some (.cells #[b] t2 (0, 0))) (hu2 : P.underlying ty2 = some d2) (hd2 : (match d2 with | .struct _ | .array _ _ => false | _ => true) = true)
    (h : fn.results = #[.cell p ty, .cell q ty2]) : (results fn tmps).run P w = .ok (.tuple #[a, b]) w := by
  simp only [Array.getD_eq_getD_getElem?] at hp hq
  simp only [results, h]
  simp [Sem.run_bind, Result.andThen, hp, hq, asAddr, run_loadVar_one w g t ty a d hg hu hd, run_loadVar_one w g2 t2 ty2 b d2 hg2 hu2 hd2]
end
end Go
