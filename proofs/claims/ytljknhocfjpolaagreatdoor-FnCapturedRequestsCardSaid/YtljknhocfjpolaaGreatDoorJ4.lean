/- The smallest functions: what one call of each gives. The laws' helpers on slices of integers: copy, compare, mark, held. -/
import Derived.Test.YtljknhocfjpolaaGreatDoorPure
import Derived.Test.YtljknhocfjpolaaGreatDoorChecked
namespace Go.Proofs.YtljknhocfjpolaaGreatDoor
open Go.RowKit
set_option maxHeartbeats 400000
theorem impl_within (x a b : Int) (w : World) : Calls Tryz.prog 60 #[.int .i64 x, .int .i64 a, .int .i64 b] w fun e w' => e = .returned (.bool (inB x a b)) ∧ w = w' := by
  rw [inB_eq]
  go_enter Tryz.func60, Tryz.ntmps60
  go_wp2
  all_goals (go_ret; simp_all; try omega)
theorem spec_l1In (x a b : Int) (w : World) : Calls Tryz.prog 63 #[.int .i64 x, .int .i64 a, .int .i64 b] w fun e w' => e = .returned (.bool (inB x a b)) ∧ w = w' := by
  rw [inB_eq]
  go_enter Tryz.func63, Tryz.ntmps63
  go_wp2
  all_goals (go_ret; simp_all; try omega)
theorem impl_isFace (x : Int) (w : World) : Calls Tryz.prog 53 #[.int .i64 x] w fun e w' => e = .returned (.bool (inB x 1 7)) ∧ w = w' := by
  go_enter Tryz.func53, Tryz.ntmps53
  go_wp2_with (go_at_call 60; refine (impl_within _ _ _ _).mono ?_; rintro e w' ⟨rfl, rfl⟩)
  go_ret
  simp
theorem spec_l21Node (x : Int) (w : World) : Calls Tryz.prog 65 #[.int .i64 x] w fun e w' => e = .returned (.bool (inB x 1 7)) ∧ w = w' := by
  go_enter Tryz.func65, Tryz.ntmps65
  go_wp2_with (go_at_call 63; refine (spec_l1In _ _ _ _).mono ?_; rintro e w' ⟨rfl, rfl⟩)
  go_ret
  simp
end Go.Proofs.YtljknhocfjpolaaGreatDoor
namespace Go.Proofs.YtljknhocfjpolaaGreatDoor
open Go.RowKit
set_option maxHeartbeats 400000
theorem infoInt : (Tryz.prog.info? 3).map (fun i => (i.zero, i.size, i.bytes)) = some (some (.int .i64 0), 1, 8) := by kernel_rfl
theorem infoU8 : (Tryz.prog.info? 5).map (fun i => (i.zero, i.size, i.bytes)) = some (some (.int .u8 0), 1, 1) := by kernel_rfl
def vInts (xs : List Int) : List Value := xs.map (Value.int .i64)
theorem vInts_len (xs : List Int) : (vInts xs).length = xs.length := by simp [vInts]
theorem vInts_get (xs : List Int) (i : Nat) (h : i < xs.length) : (vInts xs)[i]? = some (.int .i64 (xs.getD i 0)) := by
  simp [vInts, h]
def marks : Nat → Int → List Int
  | 0, _ => []
  | n + 1, k => k :: marks n (k + 1)
theorem marks_len (n : Nat) (k : Int) : (marks n k).length = n := by
  induction n generalizing k with
  | zero => rfl
  | succ n ih => simp [marks, ih]
theorem marks_getD (n : Nat) (k : Int) (i : Nat) (h : i < n) : (marks n k).getD i 0 = k + i := by
  induction n generalizing k i with
  | zero => omega
  | succ n ih =>
    cases i with
    | zero => simp [marks]
    | succ i => simp only [marks, List.getD_cons_succ]; rw [ih _ _ (by omega)]; omega
theorem marks_get (n : Nat) (k : Int) (i : Nat) (h : i < n) : (vInts (marks n k))[i]? = some (.int .i64 (k + i)) := by
  rw [vInts_get _ _ (by rw [marks_len]; exact h), marks_getD _ _ _ h]
set_option maxRecDepth 100000 in
/-- A slice of ints that came in. -/
theorem opened_ints {H : Type} {enc : TypeId × Value → H} {W : World} {v : Value} {d : DataW H} {ps : List MemPlace} {r : Reach} {b : Nat} (hval : Value.okWide Tryz.prog W r b 41 v)
    (h : DataW.Trod enc Tryz.prog W 0 (fun _ => true) true 41 v d ps) : ∃ xs : List Int, Rd W 1 v xs.length (vInts xs) ∧ xs.length ≤ maxLen := by
  obtain ⟨fuel, h⟩ := h
  obtain ⟨a, len, cap, rfl⟩ := Go.WideShapes.okWide_slice Tryz.underlying41 hval
  obtain ⟨css, h1, h2, h3⟩ := rd_of_trod (d := 3) Tryz.underlying41 (ks := [.i .i64]) (by kernel_rfl) (by kernel_rfl) (by decide) h
  obtain ⟨xs, rfl, -⟩ := exists_map (f := fun x => [Value.int .i64 x]) (ok := fun _ => True) (l := css) (fun cs hcs => by
    obtain ⟨a, rfl, ⟨a, rfl, -⟩⟩ := (h1 cs hcs).one
    exact ⟨a, rfl, trivial⟩)
  have e : vInts xs = xs.flatMap (fun x => [Value.int .i64 x]) := by
    clear h1 h2 h3
    unfold vInts
    induction xs with
    | nil => rfl
    | cons x xs ih => rw [List.map_cons, List.flatMap_cons, ih]; rfl
  exact ⟨xs, by rw [e]; exact h2.map, by simpa using h3⟩
end Go.Proofs.YtljknhocfjpolaaGreatDoor
