/- FnShares: the parts. -/
import Derived.Test.YtppdbnopgcjgjaaWShL
import Derived.Test.YtppdbnopgcjgjaaWDlF
import Derived.Test.YtppdbnopgcjgjaaWWorst
import Derived.Test.YtppdbnopgcjgjaaWWorsen2
import Derived.Test.YtppdbnopgcjgjaaWTail
namespace Go.Proofs.Ytppdbnopgcjgjaa
open Go.RowKit
set_option maxHeartbeats 1000000
set_option maxRecDepth 100000
theorem mulBd100 {a m : Int} (ha : 0 ≤ a ∧ a ≤ 100) (hm : 0 ≤ m ∧ m ≤ 100000000000000) : 0 ≤ a * m ∧ a * m ≤ 10000000000000000 := by
  refine ⟨Int.mul_nonneg ha.1 hm.1, ?_⟩
  have := Int.mul_le_mul ha.2 hm.2 hm.1 (by decide)
  omega
section
variable {W : World} {t l d : Value} {ps ls ds : List Int} (h : TCo W t l d ps ls ds)
include h
theorem tco_iST (a n m : Int) (ok : Bool) (e1 : shareNum ps ls ds [a] = n) (e2 : shareDen ps ls ds [a] = m) (e3 : hasC ps ls ds a = ok) : Calls Try.prog 21 #[.agg #[t], .agg #[l, d], .int .i64 a] W fun e w' => e = .returned (.tuple #[.int .i64 n, .int .i64 m, .bool ok]) ∧ Ext W w' := by
  subst e1 e2 e3
  exact impl_ShareTo ps ls ds t l d a W h.2.1 h.2.2.1 h.2.2.2 h.lens.1 h.lens.2.1 h.lens.2.2
theorem tco_sST (a n m : Int) (ok : Bool) (e1 : shareNum ps ls ds [a] = n) (e2 : shareDen ps ls ds [a] = m) (e3 : hasC ps ls ds a = ok) : Calls Try.prog 22 #[.agg #[t], .agg #[l, d], .int .i64 a] W fun e w' => e = .returned (.tuple #[.int .i64 n, .int .i64 m, .bool ok]) ∧ Ext W w' := by
  subst e1 e2 e3
  exact spec_ShareTo ps ls ds t l d a W h.2.1 h.2.2.1 h.2.2.2 h.lens.1 h.lens.2.1 h.lens.2.2
theorem tco_iSA {y : Value} {ns : List Int} (hy : Rd W 1 y ns.length (vInts ns)) (hn : ns.length ≤ 30) (n m : Int) (ok : Bool) (e1 : shareNum ps ls ds ns = n) (e2 : shareDen ps ls ds ns = m) (e3 : shareB ps ls ds ns = ok) : Calls Try.prog 23 #[.agg #[t], .agg #[l, d], y] W fun e w' => e = .returned (.tuple #[.int .i64 n, .int .i64 m, .bool ok]) ∧ Ext W w' := by
  subst e1 e2 e3
  exact impl_ShareToAll ps ls ds ns t l d y W h.2.1 h.2.2.1 h.2.2.2 hy h.lens.1 h.lens.2.1 h.lens.2.2 (by omega)
theorem tco_sSA {y : Value} {ns : List Int} (hy : Rd W 1 y ns.length (vInts ns)) (hn : ns.length ≤ 30) (n m : Int) (ok : Bool) (e1 : shareNum ps ls ds ns = n) (e2 : shareDen ps ls ds ns = m) (e3 : shareB ps ls ds ns = ok) : Calls Try.prog 25 #[.agg #[t], .agg #[l, d], y] W fun e w' => e = .returned (.tuple #[.int .i64 n, .int .i64 m, .bool ok]) ∧ Ext W w' := by
  subst e1 e2 e3
  exact spec_ShareToAll ps ls ds ns t l d y W h.2.1 h.2.2.1 h.2.2.2 hy h.lens.1 h.lens.2.1 h.lens.2.2 (by omega)
theorem tco_iWR (n : Int) (ok : Bool) (e1 : worstN ps ls ds = n) (e2 : goodC ps ls ds = ok) : Calls Try.prog 27 #[.agg #[t], .agg #[l, d]] W fun e w' => e = .returned (.tuple #[.int .i64 n, .bool ok]) ∧ Ext W w' := by
  subst e1 e2
  exact impl_WorstReceiver ps ls ds t l d W h.2.1 h.2.2.1 h.2.2.2 h.lens.1 h.lens.2.1 h.lens.2.2
theorem tco_sWR (n : Int) (ok : Bool) (e1 : worstN ps ls ds = n) (e2 : goodC ps ls ds = ok) : Calls Try.prog 28 #[.agg #[t], .agg #[l, d]] W fun e w' => e = .returned (.tuple #[.int .i64 n, .bool ok]) ∧ Ext W w' := by
  subst e1 e2
  exact spec_WorstReceiver ps ls ds t l d W h.2.1 h.2.2.1 h.2.2.2 h.lens.1 h.lens.2.1 h.lens.2.2
theorem tco_iVC (ok : Bool) (e2 : goodC ps ls ds = ok) : Calls Try.prog 29 #[.agg #[t], .agg #[l, d]] W fun e w' => e = .returned (.bool ok) ∧ Ext W w' := by
  subst e2
  exact impl_IsValidCosts ps ls ds t l d W h.2.1 h.2.2.1 h.2.2.2 h.lens.1 h.lens.2.1 h.lens.2.2
theorem tco_iWE (a : Int) (ns : List Int) (ok : Bool) (e1 : wellL ps ls ds a = ns) (e2 : wellB ps ls ds a = ok) : Calls Try.prog 31 #[.agg #[t], .agg #[l, d], .int .i64 a] W fun e w' => ∃ r, e = .returned (.tuple #[r, .bool ok]) ∧ Rd w' 1 r ns.length (vInts ns) ∧ Ext W w' := by
  subst e1 e2
  exact (impl_WellReached ps ls ds t l d a W h.2.1 h.2.2.1 h.2.2.2 h.lens.1 h.lens.2.1 h.lens.2.2).mono fun e w' ⟨r, x, y, z⟩ => ⟨r, x, Rd.own y, z⟩
theorem tco_sWE (a : Int) (ns : List Int) (ok : Bool) (e1 : wellL ps ls ds a = ns) (e2 : wellB ps ls ds a = ok) : Calls Try.prog 32 #[.agg #[t], .agg #[l, d], .int .i64 a] W fun e w' => ∃ r, e = .returned (.tuple #[r, .bool ok]) ∧ Rd w' 1 r ns.length (vInts ns) ∧ Ext W w' := by
  subst e1 e2
  exact (spec_WellReached ps ls ds t l d a W h.2.1 h.2.2.1 h.2.2.2 h.lens.1 h.lens.2.1 h.lens.2.2).mono fun e w' ⟨r, x, y, z⟩ => ⟨r, x, Rd.own y, z⟩
theorem tco_iWL (a b : Int) (xs ys : List Int) (ok : Bool) (e1 : worsenL ps ls ds a b = xs) (e2 : worsenD ps ls ds a b = ys) (e3 : worsenB ps ls ds a b = ok) : Calls Try.prog 35 #[.agg #[t], .agg #[l, d], .int .i64 a, .int .i64 b] W fun e w' => ∃ r r', e = .returned (.tuple #[.agg #[r, r'], .bool ok]) ∧ (Rd w' 1 r xs.length (vInts xs) ∧ Rd w' 1 r' ys.length (vInts ys)) ∧ Ext W w' := by
  subst e1 e2 e3
  exact (impl_WorsenLink ps ls ds t l d a b W h.2.1 h.2.2.1 h.2.2.2 h.lens.1 h.lens.2.1 h.lens.2.2).mono fun e w' ⟨r, r', x, y, y', _, z⟩ => ⟨r, r', x, ⟨Rd.own y, Rd.own y'⟩, z⟩
theorem tco_sWL (a b : Int) (xs ys : List Int) (ok : Bool) (e1 : worsenL ps ls ds a b = xs) (e2 : worsenD ps ls ds a b = ys) (e3 : worsenB ps ls ds a b = ok) : Calls Try.prog 36 #[.agg #[t], .agg #[l, d], .int .i64 a, .int .i64 b] W fun e w' => ∃ r r', e = .returned (.tuple #[.agg #[r, r'], .bool ok]) ∧ (Rd w' 1 r xs.length (vInts xs) ∧ Rd w' 1 r' ys.length (vInts ys)) ∧ Ext W w' := by
  subst e1 e2 e3
  exact (spec_WorsenLink ps ls ds t l d a b W h.2.1 h.2.2.1 h.2.2.2 h.lens.1 h.lens.2.1 h.lens.2.2).mono fun e w' ⟨r, r', x, y, y', _, z⟩ => ⟨r, r', x, ⟨Rd.own y, Rd.own y'⟩, z⟩
end
theorem frame311 (a : Act) (v : Value) (h1 : a.defers = []) (h2 : a.tmps.size = 311) (h3 : a.tmps.getD 0 undef = v) : ∃ u : Nat → Value, a = ⟨#[v, u 1, u 2, u 3, u 4, u 5, u 6, u 7, u 8, u 9, u 10, u 11, u 12, u 13, u 14, u 15, u 16, u 17, u 18, u 19, u 20, u 21, u 22, u 23, u 24, u 25, u 26, u 27, u 28, u 29, u 30, u 31, u 32, u 33, u 34, u 35, u 36, u 37, u 38, u 39, u 40, u 41, u 42, u 43, u 44, u 45, u 46, u 47, u 48, u 49, u 50, u 51, u 52, u 53, u 54, u 55, u 56, u 57, u 58, u 59, u 60, u 61, u 62, u 63, u 64, u 65, u 66, u 67, u 68, u 69, u 70, u 71, u 72, u 73, u 74, u 75, u 76, u 77, u 78, u 79, u 80, u 81, u 82, u 83, u 84, u 85, u 86, u 87, u 88, u 89, u 90, u 91, u 92, u 93, u 94, u 95, u 96, u 97, u 98, u 99, u 100, u 101, u 102, u 103, u 104, u 105, u 106, u 107, u 108, u 109, u 110, u 111, u 112, u 113, u 114, u 115, u 116, u 117, u 118, u 119, u 120, u 121, u 122, u 123, u 124, u 125, u 126, u 127, u 128, u 129, u 130, u 131, u 132, u 133, u 134, u 135, u 136, u 137, u 138, u 139, u 140, u 141, u 142, u 143, u 144, u 145, u 146, u 147, u 148, u 149, u 150, u 151, u 152, u 153, u 154, u 155, u 156, u 157, u 158, u 159, u 160, u 161, u 162, u 163, u 164, u 165, u 166, u 167, u 168, u 169, u 170, u 171, u 172, u 173, u 174, u 175, u 176, u 177, u 178, u 179, u 180, u 181, u 182, u 183, u 184, u 185, u 186, u 187, u 188, u 189, u 190, u 191, u 192, u 193, u 194, u 195, u 196, u 197, u 198, u 199, u 200, u 201, u 202, u 203, u 204, u 205, u 206, u 207, u 208, u 209, u 210, u 211, u 212, u 213, u 214, u 215, u 216, u 217, u 218, u 219, u 220, u 221, u 222, u 223, u 224, u 225, u 226, u 227, u 228, u 229, u 230, u 231, u 232, u 233, u 234, u 235, u 236, u 237, u 238, u 239, u 240, u 241, u 242, u 243, u 244, u 245, u 246, u 247, u 248, u 249, u 250, u 251, u 252, u 253, u 254, u 255, u 256, u 257, u 258, u 259, u 260, u 261, u 262, u 263, u 264, u 265, u 266, u 267, u 268, u 269, u 270, u 271, u 272, u 273, u 274, u 275, u 276, u 277, u 278, u 279, u 280, u 281, u 282, u 283, u 284, u 285, u 286, u 287, u 288, u 289, u 290, u 291, u 292, u 293, u 294, u 295, u 296, u 297, u 298, u 299, u 300, u 301, u 302, u 303, u 304, u 305, u 306, u 307, u 308, u 309, u 310], []⟩ :=
  ⟨fun i => a.tmps.getD i undef, frame_arg a 310 h1 h2 v h3⟩
def ShPost (w : World) : Exit → Act → World → Prop := bodyPost Try.prog Try.f4 (fun e w' => e = .returned (.bool true) ∧ Ext w w')
noncomputable def shTl (n : Nat) : Code := (Try.f4.body.getD .skip).tailAt n
/-- From region n on all goes well. -/
def ShTail (n : Nat) (p : Option Addr) (m cap : Nat) (w : World) : Prop := ∀ (a : Act) (wc : World), Ext w wc → a.defers = [] → a.tmps.size = 311 → a.tmps.getD 0 undef = .slice p m cap → Code.wp Try.prog (shTl n) (ShPost w) a wc
end Go.Proofs.Ytppdbnopgcjgjaa
