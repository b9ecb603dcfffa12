/- Plain definitions: data, and what the functions compute. No program is in sight. -/
import Derived.Test.YtbencjbdbilmnaaKit
namespace Go.Proofs.Ytbencjbdbilmnaa
open Go.RowKit
def inB (x a b : Int) : Bool := decide (a ≤ x ∧ x ≤ b)
theorem inB_eq (x a b : Int) : inB x a b = (decide (a ≤ x) && decide (x ≤ b)) := by unfold inB; simp
theorem inB_iff {x a b : Int} : inB x a b = true ↔ a ≤ x ∧ x ≤ b := by unfold inB; simp
structure Dlv where
  r : Int
  g : Int
  p : Int
  l : Int
def Dlv.cs (d : Dlv) : List Value := [.int .i64 d.r, .int .i64 d.g, .int .i64 d.p, .int .i64 d.l]
def Dlv.z : Dlv := ⟨0, 0, 0, 0⟩
def okD (d : Dlv) : Bool := inB d.r 1 7 && inB d.g 0 1000000 && inB d.p 0 d.g && inB d.l 0 1000000
def Dlv.ord (xs : List Dlv) (i : Nat) : Bool := okD (xs.getD i .z) && (i == 0 || decide ((xs.getD (i - 1) .z).r < (xs.getD i .z).r))
def areD (xs : List Dlv) : Bool := (List.range xs.length).all (Dlv.ord xs)
end Go.Proofs.Ytbencjbdbilmnaa
