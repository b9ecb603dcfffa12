/- A range over a function that keeps what is left of a text in a cell of its own: the loop's law. -/
import Derived.RangeFuncWrites
import Derived.RangeFuncLeaves
import Derived.RangeFuncBox
import Derived.RangeFuncBound
import Derived.RangeFuncCalls
import Derived.Test.YtljknhocfjpolaaGreatDoorJ3
namespace Go.Proofs.YtljknhocfjpolaaGreatDoor
open Go.RowKit
set_option maxHeartbeats 400000
/-- From B on whatever is no cells lies as it lay, and block Z too. -/
def KeepZ (Z B : Nat) (W W' : World) : Prop := KeepsFrom B W W' ∧ W'.heap[Z]? = W.heap[Z]?
/-- It abides new blocks, a turn of block Z, and a turn from B on of what is no cells. -/
def OwnZ (Z B : Nat) (I : World → Prop) : Prop :=
  ∀ W W' row, I W → W.grownBy W' row → (∀ r, row = some r → r = Z ∨ (B ≤ r ∧ ∃ o : Obj, W.heap[r]? = some o ∧ o.isCells = false)) → I W'
theorem OwnZ.put {Z B l : Nat} {I : World → Prop} (h : OwnZ Z B I) {W : World} {o : Obj} (o' : Obj) (hs : I W) (hB : B ≤ l) (hl : W.heap[l]? = some o) (ho : o.isCells = false) : I (W.putObj l o') :=
  h W _ (some l) hs (grownBy_putObj' W l o') (fun r e => by cases e; exact .inr ⟨hB, o, hl, ho⟩)
theorem OwnZ.alloc {Z B : Nat} {I : World → Prop} (h : OwnZ Z B I) {W : World} (hs : I W) (o : Obj) : I (W.alloc o) := h W _ none hs (World.grownBy_alloc W o none) (fun r e => by cases e)
theorem OwnZ.turn {Z B : Nat} {I : World → Prop} (h : OwnZ Z B I) {W W' : World} (hs : I W) (hg : W.grownBy W' (some Z)) : I W' := h W W' (some Z) hs hg (fun r e => by cases e; exact .inl rfl)
/-- What the iterator promises, for every loop: the pieces 'hd' of what is left come one by one, what is left turning to 'tl'. -/
def SeqText (n : Nat) (P : Program) (gf Z t : Nat) (hd tl : ByteArray → ByteArray) : Prop :=
  ∀ (l : Nat) (J : ByteArray → World → Prop) (Jx : World → Prop) (s : ByteArray) (W : World),
    (∀ R W W', J R W → W.grownBy W' (some Z) → J R W') →
    (∀ R W, J R W → 0 < R.size → R.size ≤ s.size → W.heap[Z]? = some (.cells #[.string (tl R)] t (0, 0)) →
      YieldAt Fence.wide (n - 1) P l #[.string (hd R)] W fun e W' => (e = .returned (.bool true) ∧ J (tl R) W' ∧ W'.heap[Z]? = W.heap[Z]?) ∨ (e = .returned (.bool false) ∧ Jx W')) →
    J s W → W.heap[Z]? = some (.cells #[.string s] t (0, 0)) → s.size ≤ 1048576 →
    CallsIn Fence.wide n P gf #[.func (.yield l) #[] #[], .pointer (some ⟨Z, 0, none⟩)] W fun e W' => (∃ v, e = .returned v) ∧ ((∃ R, R.size = 0 ∧ J R W') ∨ Jx W')
/-- How a round may be left. -/
def endText (Z B : Nat) (I Ix : World → Prop) (W : World) : Exit → Act → World → Prop
  | .normal, _, W' => KeepZ Z B W W' ∧ I W'
  | .ret, _, W' => KeepsFrom B W W' ∧ Ix W'
  | _, _, _ => False
theorem wpIn_text {P : Program} {n : Nat} {g : Operand} {ps : Array Tmp} {assign body : Code} {Q : Exit → Act → World → Prop} {a : Act} {w : World} {gf Z t : Nat} {hd tl : ByteArray → ByteArray}
    (hseq : SeqText (n - 1) P gf Z t hd tl) (hg : a.eval g = .func (.func gf) #[] #[.pointer (some ⟨Z, 0, none⟩)]) (eg : ∀ args w, (callFunc gf args).run P w = .ok (.enter gf args) w) (hps : ps.size = 1)
    (s : ByteArray) (hsz : s.size ≤ 1048576) (hZ : w.heap[Z]? = some (.cells #[.string s] t (0, 0)))
    (I : ByteArray → World → Prop) (Ix : World → Prop) (hI : ∀ R, OwnZ Z w.heap.size (I R)) (hIx : OwnZ Z w.heap.size Ix) (h0 : I s w) (a₁ : ByteArray → Act)
    (hassign : ∀ (l : Nat) (R : ByteArray) (W : World) (K : Act → World → Prop), K (a₁ R) W →
      assign.wpIn (Fence.wide.inRound l) (n - 1 - 1) P (Exit.then K (fun _ _ _ => False)) { tmps := (ps.zip #[.string (hd R)]).foldl (fun t (p, v) => t.setIfInBounds p v) a.tmps, defers := [] } W)
    (hbody : ∀ (l : Nat) (R : ByteArray) (W : World), I R W → 0 < R.size → R.size ≤ s.size → body.wpIn (Fence.wide.inRound l) (n - 1 - 1) P (endText Z w.heap.size (I (tl R)) Ix W) (a₁ R) W)
    (hdone : ∀ (D : Nat) (R : ByteArray) (W : World), w.heap.size ≤ D → R.size = 0 → I R W → W.heap[D]? = some (.deferred (some [])) → Q .normal { a with defers := { target := .collected D, args := #[] } :: a.defers } W)
    (hstop : ∀ (D : Nat) (W : World), w.heap.size ≤ D → Ix W → W.heap[D]? = some (.deferred (some [])) → Code.ret.wpIn Fence.wide n P Q { a with defers := { target := .collected D, args := #[] } :: a.defers } W) :
    (Code.rangeFunc g ps assign body).wpIn Fence.wide n P Q a w := by
  have hZl : Z < w.heap.size := (Array.getElem?_eq_some_iff.1 hZ).1
  refine wpIn_rangeFunc fun fn hfn => ?_
  have hround : Fence.wide.round = none := rfl
  rw [hround]
  -- the loop's record, in its states
  let rc : LoopState → Option Code → Loop := fun st pe => { state := st, pending := pe, fn := fn, tmps := a.tmps, params := ps, assign := assign, body := body, defers := w.heap.size }
  let J0 : LoopState → Option Code → World → Prop := fun st pe W => W.heap[w.heap.size + 1]? = some (.loop (rc st pe)) ∧ W.heap[w.heap.size]? = some (.deferred (some []))
  have J0turn : ∀ st pe W W', J0 st pe W → W.grownBy W' (some Z) → J0 st pe W' := fun st pe W W' h k =>
    ⟨(k.block _ (Array.getElem?_eq_some_iff.1 h.1).1 (fun e => by have := Option.some.inj e; omega)).trans h.1, (k.block _ (Array.getElem?_eq_some_iff.1 h.2).1 (fun e => by have := Option.some.inj e; omega)).trans h.2⟩
  have J0put : ∀ st pe st' pe' W, J0 st pe W → J0 st' pe' (W.putObj (w.heap.size + 1) (.loop (rc st' pe'))) := fun st pe st' pe' W h =>
    ⟨World.putObj_heap_same (Array.getElem?_eq_some_iff.1 h.1).1, (World.putObj_heap_other (by omega)).trans h.2⟩
  have J0keep : ∀ st pe W W', J0 st pe W → KeepsFrom w.heap.size W W' → J0 st pe W' := fun st pe W W' h k => ⟨k.same _ _ (by omega) h.1 rfl, k.same _ _ (Nat.le_refl _) h.2 rfl⟩
  have s1 : J0 .ready none ((w.alloc (.deferred (some []))).alloc (.loop (rc .ready none))) := by
    refine ⟨?_, ?_⟩
    · have := World.alloc_heap_new (w.alloc (.deferred (some []))) (.loop (rc .ready none))
      rwa [World.size_alloc] at this
    · exact (Below.heap_alloc _ _ _ (by simp)).trans (World.alloc_heap_new w _)
  have s2 : I s ((w.alloc (.deferred (some []))).alloc (.loop (rc .ready none))) := (hI s).alloc ((hI s).alloc h0 _) _
  have s3 : ((w.alloc (.deferred (some []))).alloc (.loop (rc .ready none))).heap[Z]? = some (.cells #[.string s] t (0, 0)) :=
    (Below.heap_alloc _ _ _ (by simp; omega)).trans ((Below.heap_alloc _ _ _ hZl).trans hZ)
  generalize hW1 : (w.alloc (.deferred (some []))).alloc (.loop (rc .ready none)) = W1 at *
  refine ⟨w.heap.size + 1, [{ target := .collected w.heap.size, args := #[] }], W1, { target := .fn (.func gf) #[.pointer (some ⟨Z, 0, none⟩)], args := #[.func (.yield (w.heap.size + 1)) #[] #[]] }, W1, gf,
    #[.func (.yield (w.heap.size + 1)) #[] #[], .pointer (some ⟨Z, 0, none⟩)], W1, (by rw [← hW1]; exact run_enterLoop_outer fn a.tmps ps assign body), ?_, fun f' hf' => trivial, ?_, fun h => (by cases h), ?_⟩
  · simp only [resolve, hg]
    simp [go_sem]
  · simp [invoke, go_sem, eg]
  · refine (hseq (w.heap.size + 1) (fun R W => I R W ∧ J0 .ready none W) (fun W => Ix W ∧ J0 .done (some .ret) W) s _ (fun R W W' h k => ⟨(hI R).turn h.1 k, J0turn _ _ _ _ h.2 k⟩) ?_ ⟨s2, s1⟩ s3 hsz).mono ?_
    · rintro R W ⟨hi, hj⟩ hR hRs hz
      have hy := run_yield (P := P) (args := #[.string (hd R)]) hj.1 hps.symm
      refine ⟨fn, _, assign, body, hy, roundIn_of_wpIn trivial (hassign _ R W _ ⟨_, run_beginRound hj.1 rfl, ?_⟩)⟩
      have hjB : J0 .busy none (W.putObj (w.heap.size + 1) (.loop (rc .busy none))) := J0put _ _ _ _ _ hj
      have hiB := (hI R).put (.loop (rc .busy none)) hi (by omega) hj.1 rfl
      have hzB : (W.putObj (w.heap.size + 1) (.loop (rc .busy none))).heap[Z]? = W.heap[Z]? := World.putObj_heap_other (by omega)
      refine wpIn_mono (hbody _ R _ hiB hR hRs) ?_
      rintro e a3 W3 hp
      cases e with
      | normal =>
        obtain ⟨⟨hk, hkz⟩, hi3⟩ := hp
        have hj3 := J0keep _ _ _ _ hjB hk
        refine ⟨_, _, run_endRound (P := P) none hj3.1, .inl ⟨rfl, ⟨(hI _).put _ hi3 (by omega) hj3.1 rfl, J0put _ _ .ready none _ hj3⟩, ?_⟩⟩
        exact (World.putObj_heap_other (by omega)).trans (hkz.trans hzB)
      | ret =>
        obtain ⟨hk, hi3⟩ := hp
        have hj3 := J0keep _ _ _ _ hjB hk
        exact ⟨_, _, run_endRound (P := P) (some .ret) hj3.1, .inr ⟨rfl, hIx.put _ hi3 (by omega) hj3.1 rfl, J0put _ _ .done (some .ret) _ hj3⟩⟩
      | exit id => exact hp.elim
      | goto t => exact hp.elim
      | panic ch => exact hp.elim
      | outgrown => exact hp.elim
    · rintro e W2 ⟨⟨v, rfl⟩, (⟨R, hR, hi, hj⟩ | ⟨hi, hj⟩)⟩
      · exact ⟨none, _, run_endLoop (P := P) hj.1 (by simp [rc]), hdone _ R _ (Nat.le_refl _) hR ((hI R).put _ hi (by omega) hj.1 rfl) ((World.putObj_heap_other (by omega)).trans hj.2)⟩
      · exact ⟨some .ret, _, run_endLoop (P := P) hj.1 (by simp [rc]), hstop _ _ (Nat.le_refl _) (hIx.put _ hi (by omega) hj.1 rfl) ((World.putObj_heap_other (by omega)).trans hj.2)⟩
end Go.Proofs.YtljknhocfjpolaaGreatDoor
