/- strings.Join, by the shelf's contract. -/
import Derived.Test.YtnngklclehffhaaDoorWStrS
import Derived.Shelf.Strings.OnBuilder
namespace Go.Proofs.YtnngklclehffhaaDoor
open Go.RowKit
set_option maxHeartbeats 400000
set_option maxRecDepth 100000
def joinS (xs : List ByteArray) (sep : ByteArray) : ByteArray := ⟨(Lib.join (xs.map (·.data.toList)) sep.data.toList).toArray⟩
def ren156 : Go.Shelf.Ren := ⟨fun x => if x = 156 then 57 else if x = 165 then 90 else if x = 166 then 91 else if x = 169 then 92 else if x = 240 then 100 else if x = 241 then 101 else if x = 276 then 112 else if x = 277 then 113 else x, fun x => if x = 0 then 0 else if x = 3 then 3 else if x = 4 then 4 else if x = 5 then 5 else if x = 9 then 9 else if x = 20 then 20 else if x = 31 then 58 else if x = 37 then 46 else if x = 70 then 103 else if x = 72 then 105 else if x = 75 then 108 else if x = 76 then 109 else if x = 80 then 111 else if x = 127 then 115 else if x = 164 then 125 else x, fun x => x⟩
theorem lays156 : Go.Proofs.Lays.n156 Tryd.prog ren156 := by constructor <;> first | kernel_rfl | (intro w; kernel_rfl)
theorem xlays156_0 : Go.Proofs.Builder.X72 Tryd.prog ren156 := by constructor <;> first | kernel_rfl | (intro w; kernel_rfl) | decide
theorem xlays156 : Go.Proofs.Builder.Extra Tryd.prog ren156 := by constructor <;> first | exact xlays156_0 | kernel_rfl | (intro w; kernel_rfl) | decide
theorem strings_Join (L : List ByteArray) (sep : ByteArray) (v : Value) (B : Nat) (w : World) (ho : w.ownsRow B 9 1 v L.length (vStrs L)) (h2 : L.length ≤ 1048576) (hl : (joinS L sep).size ≤ 140737488355328) :
    Calls Tryd.prog 57 #[v, .string sep] w fun e w' => e = .returned (.string (joinS L sep)) ∧ Ext w w' := by
  have ho' := ho
  obtain ⟨h1, ⟨rfl, h0⟩ | ⟨g, cap, cur, rfl, hB, hh, hn, hc, _⟩⟩ := ho'
  · have e : L = [] := List.eq_nil_of_length_eq_zero h0
    subst e
    exact (Any.strings_Join_none lays156 xlays156 none 0 sep w).mono fun _ _ ⟨a, b⟩ => ⟨a, b ▸ Ext.refl _⟩
  · have hc : ∀ (j : Nat) x, L[j]? = some x → w.cell? ⟨g, 0 + j, none⟩ = some (.string x) := fun j x hj => by
      obtain ⟨hlt, rfl⟩ := List.getElem?_eq_some_iff.1 hj
      rw [Nat.zero_add, ho.cellAt j (by omega)]
      simp [vStrs, hlt]
    exact (Any.strings_Join lays156 xlays156 g 0 cap L sep w hc (own_size ho).2 (by omega) hn (by simpa [joinS, ByteArray.size] using hl)).mono fun _ _ ⟨a, b⟩ => ⟨a, b.ext⟩
end Go.Proofs.YtnngklclehffhaaDoor
