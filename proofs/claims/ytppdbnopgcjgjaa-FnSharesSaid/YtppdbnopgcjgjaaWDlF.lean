/- FnDelays: the parts. -/
import Derived.Test.YtppdbnopgcjgjaaWDlL
import Derived.Test.YtppdbnopgcjgjaaWCostR
import Derived.Test.YtppdbnopgcjgjaaWCurM
import Derived.Test.YtppdbnopgcjgjaaWTail
namespace Go.Proofs.Ytppdbnopgcjgjaa
open Go.RowKit
set_option maxHeartbeats 1000000
set_option maxRecDepth 100000
theorem TCo.lens {W : World} {t l d : Value} {ps ls ds : List Int} (h : TCo W t l d ps ls ds) : ps.length ≤ 1048576 ∧ ls.length ≤ 1048576 ∧ ds.length ≤ 1048576 := by
  have := h.1; omega
/-- A tree and costs in a law's variables. -/
def LS (w W : World) (T X : Nat) (t l d : Value) (ps ls ds : List Int) : Prop :=
  TCo W t l d ps ls ds ∧ W.heap[T]? = some (.cells #[t] 26 (0, 0)) ∧ W.heap[X]? = some (.cells #[l, d] 28 (0, 0)) ∧ Ext w W
theorem LS.ext {w W W' : World} {T X : Nat} {t l d : Value} {ps ls ds : List Int} (h : LS w W T X t l d ps ls ds) (hx : Ext W W') : LS w W' T X t l d ps ls ds :=
  ⟨h.1.ext hx, blk_ext h.2.1 hx, blk_ext h.2.2.1 hx, h.2.2.2.trans hx⟩
theorem LS.cells {w W : World} {T X : Nat} {t l d : Value} {ps ls ds : List Int} (h : LS w W T X t l d ps ls ds) : W.cell? ⟨T, 0, none⟩ = some t ∧ W.cell? ⟨X, 0, none⟩ = some l ∧ W.cell? ⟨X, 1, none⟩ = some d := by
  obtain ⟨b0, -, -⟩ := box1 h.2.1
  obtain ⟨⟨x0, x1⟩, -, -⟩ := box2 h.2.2.1
  exact ⟨b0, x0, x1⟩
theorem LS.mk {w W : World} {t l d : Value} {ps ls ds : List Int} (h : TCo W t l d ps ls ds) (hx : Ext w W) : LS w ((W.alloc (.cells #[t] 26)).alloc (.cells #[l, d] 28)) W.heap.size (W.heap.size + 1) t l d ps ls ds :=
  ⟨h.ext (by repeat' (first | exact Ext.refl _ | assumption | refine Ext.alloc ?_ _ | refine Ext.ext ?_ _ | refine Ext.drew ?_ | refine Ext.drewN ?_ _)), heap_old (heap_at _ rfl) _, heap_at _ (by simp), hx.trans (by repeat' (first | exact Ext.refl _ | assumption | refine Ext.alloc ?_ _ | refine Ext.ext ?_ _ | refine Ext.drew ?_ | refine Ext.drewN ?_ _))⟩
/-- The same, with a list. -/
def LN (w W : World) (T X : Nat) (t l d y : Value) (ps ls ds ns : List Int) : Prop := LS w W T X t l d ps ls ds ∧ Rd W 1 y ns.length (vInts ns)
theorem LN.ext {w W W' : World} {T X : Nat} {t l d y : Value} {ps ls ds ns : List Int} (h : LN w W T X t l d y ps ls ds ns) (hx : Ext W W') : LN w W' T X t l d y ps ls ds ns := ⟨h.1.ext hx, h.2.ext hx⟩
theorem LN.cells {w W : World} {T X : Nat} {t l d y : Value} {ps ls ds ns : List Int} (h : LN w W T X t l d y ps ls ds ns) : W.cell? ⟨T, 0, none⟩ = some t ∧ W.cell? ⟨X, 0, none⟩ = some l ∧ W.cell? ⟨X, 1, none⟩ = some d := h.1.cells
theorem LN.at {w W : World} {T X b off c : Nat} {t l d : Value} {ps ls ds ns : List Int} (h : LN w W T X t l d (.slice (some ⟨b, off, none⟩) ns.length c) ps ls ds ns) (i : Nat) (hi : i < ns.length) : W.cell? ⟨b, off + i, none⟩ = some (.int .i64 (ns.getD i 0)) := by
  obtain ⟨-, p, cap, e, h4⟩ := h.2
  cases e
  obtain ⟨b', off', e2, h6⟩ := h4.resolve_left (by omega)
  cases e2
  exact elem1 (Value.int .i64) 0 ns h6 i hi
theorem LN.spot {w W : World} {T X n : Nat} {t l d : Value} {yp : Option Addr} {yc : Nat} {ps ls ds ns : List Int} (h : LN w W T X t l d (.slice yp n yc) ps ls ds ns) (hn : 0 < ns.length) : ∃ b off, yp = some ⟨b, off, none⟩ := by
  obtain ⟨-, p, cap, e, h4⟩ := h.2
  cases e
  obtain ⟨b', off', e2, -⟩ := h4.resolve_left (by omega)
  exact ⟨b', off', e2⟩
section
variable {W : World} {t l d : Value} {ps ls ds : List Int} (h : TCo W t l d ps ls ds)
include h
theorem tco_iDB (a b n : Int) (ok : Bool) (e1 : betweenN ps ls ds a b = n) (e2 : hasC2 ps ls ds a b = ok) : Calls Try.prog 7 #[.agg #[t], .agg #[l, d], .int .i64 a, .int .i64 b] W fun e w' => e = .returned (.tuple #[.int .i64 n, .bool ok]) ∧ Ext W w' := by
  subst e1 e2
  exact impl_DelayBetween ps ls ds t l d a b W h.2.1 h.2.2.1 h.2.2.2 h.lens.1 h.lens.2.1 h.lens.2.2
theorem tco_sDB (a b n : Int) (ok : Bool) (e1 : betweenN ps ls ds a b = n) (e2 : hasC2 ps ls ds a b = ok) : Calls Try.prog 8 #[.agg #[t], .agg #[l, d], .int .i64 a, .int .i64 b] W fun e w' => e = .returned (.tuple #[.int .i64 n, .bool ok]) ∧ Ext W w' := by
  subst e1 e2
  exact spec_DelayBetween ps ls ds t l d a b W h.2.1 h.2.2.1 h.2.2.2 h.lens.1 h.lens.2.1 h.lens.2.2
theorem tco_iDT (a n : Int) (ok : Bool) (e1 : delayTo ps ls ds a = n) (e2 : hasC ps ls ds a = ok) : Calls Try.prog 9 #[.agg #[t], .agg #[l, d], .int .i64 a] W fun e w' => e = .returned (.tuple #[.int .i64 n, .bool ok]) ∧ Ext W w' := by
  subst e1 e2
  exact impl_DelayTo ps ls ds t l d a W h.2.1 h.2.2.1 h.2.2.2 h.lens.1 h.lens.2.1 h.lens.2.2
theorem tco_sDT (a n : Int) (ok : Bool) (e1 : delayTo ps ls ds a = n) (e2 : hasC ps ls ds a = ok) : Calls Try.prog 19 #[.agg #[t], .agg #[l, d], .int .i64 a] W fun e w' => e = .returned (.tuple #[.int .i64 n, .bool ok]) ∧ Ext W w' := by
  subst e1 e2
  exact spec_DelayTo ps ls ds t l d a W h.2.1 h.2.2.1 h.2.2.2 h.lens.1 h.lens.2.1 h.lens.2.2
theorem tco_iNH {y : Value} {ns : List Int} (hy : Rd W 1 y ns.length (vInts ns)) (hn : ns.length ≤ 30) (a n : Int) (ok : Bool) (e1 : nearN ps ls ds ns a = n) (e2 : nearB ps ls ds ns a = ok) : Calls Try.prog 11 #[.agg #[t], .agg #[l, d], .int .i64 a, y] W fun e w' => e = .returned (.tuple #[.int .i64 n, .bool ok]) ∧ Ext W w' := by
  subst e1 e2
  exact impl_NearestHolder ps ls ds ns t l d y a W h.2.1 h.2.2.1 h.2.2.2 hy h.lens.1 h.lens.2.1 h.lens.2.2 (by omega)
theorem tco_sNH {y : Value} {ns : List Int} (hy : Rd W 1 y ns.length (vInts ns)) (hn : ns.length ≤ 30) (a n : Int) (ok : Bool) (e1 : nearN ps ls ds ns a = n) (e2 : nearB ps ls ds ns a = ok) : Calls Try.prog 12 #[.agg #[t], .agg #[l, d], .int .i64 a, y] W fun e w' => e = .returned (.tuple #[.int .i64 n, .bool ok]) ∧ Ext W w' := by
  subst e1 e2
  exact spec_NearestHolder ps ls ds ns t l d y a W h.2.1 h.2.2.1 h.2.2.2 hy h.lens.1 h.lens.2.1 h.lens.2.2 (by omega)
theorem tco_iSR (n m : Int) (ok : Bool) (e1 : slowN ps ls ds = n) (e2 : slowD ps ls ds = m) (e3 : goodC ps ls ds = ok) : Calls Try.prog 15 #[.agg #[t], .agg #[l, d]] W fun e w' => e = .returned (.tuple #[.int .i64 n, .int .i64 m, .bool ok]) ∧ Ext W w' := by
  subst e1 e2 e3
  exact impl_SlowestReceiver ps ls ds t l d W h.2.1 h.2.2.1 h.2.2.2 h.lens.1 h.lens.2.1 h.lens.2.2
theorem tco_sSR (n m : Int) (ok : Bool) (e1 : slowN ps ls ds = n) (e2 : slowD ps ls ds = m) (e3 : goodC ps ls ds = ok) : Calls Try.prog 16 #[.agg #[t], .agg #[l, d]] W fun e w' => e = .returned (.tuple #[.int .i64 n, .int .i64 m, .bool ok]) ∧ Ext W w' := by
  subst e1 e2 e3
  exact spec_SlowestReceiver ps ls ds t l d W h.2.1 h.2.2.1 h.2.2.2 h.lens.1 h.lens.2.1 h.lens.2.2
theorem tco_iLO (ok : goodC ps ls ds = true) : Calls Try.prog 17 #[.agg #[t]] W fun e w' => ∃ r, e = .returned (.tuple #[r, .bool true]) ∧ Rd w' 1 r (leavesL ps).length (vInts (leavesL ps)) ∧ Ext W w' := by
  have hg := (goodC_all ok).1
  refine (impl_LeavesOf ps t W h.2.1 h.lens.1).mono fun e w' ⟨r, e1, e2, e3⟩ => ⟨r, by rw [e1, hg], ?_, e3⟩
  rw [lvsL_yes hg] at e2
  exact Rd.own e2
end
theorem frame332 (a : Act) (v : Value) (h1 : a.defers = []) (h2 : a.tmps.size = 332) (h3 : a.tmps.getD 0 undef = v) : ∃ u : Nat → Value, a = ⟨#[v, u 1, u 2, u 3, u 4, u 5, u 6, u 7, u 8, u 9, u 10, u 11, u 12, u 13, u 14, u 15, u 16, u 17, u 18, u 19, u 20, u 21, u 22, u 23, u 24, u 25, u 26, u 27, u 28, u 29, u 30, u 31, u 32, u 33, u 34, u 35, u 36, u 37, u 38, u 39, u 40, u 41, u 42, u 43, u 44, u 45, u 46, u 47, u 48, u 49, u 50, u 51, u 52, u 53, u 54, u 55, u 56, u 57, u 58, u 59, u 60, u 61, u 62, u 63, u 64, u 65, u 66, u 67, u 68, u 69, u 70, u 71, u 72, u 73, u 74, u 75, u 76, u 77, u 78, u 79, u 80, u 81, u 82, u 83, u 84, u 85, u 86, u 87, u 88, u 89, u 90, u 91, u 92, u 93, u 94, u 95, u 96, u 97, u 98, u 99, u 100, u 101, u 102, u 103, u 104, u 105, u 106, u 107, u 108, u 109, u 110, u 111, u 112, u 113, u 114, u 115, u 116, u 117, u 118, u 119, u 120, u 121, u 122, u 123, u 124, u 125, u 126, u 127, u 128, u 129, u 130, u 131, u 132, u 133, u 134, u 135, u 136, u 137, u 138, u 139, u 140, u 141, u 142, u 143, u 144, u 145, u 146, u 147, u 148, u 149, u 150, u 151, u 152, u 153, u 154, u 155, u 156, u 157, u 158, u 159, u 160, u 161, u 162, u 163, u 164, u 165, u 166, u 167, u 168, u 169, u 170, u 171, u 172, u 173, u 174, u 175, u 176, u 177, u 178, u 179, u 180, u 181, u 182, u 183, u 184, u 185, u 186, u 187, u 188, u 189, u 190, u 191, u 192, u 193, u 194, u 195, u 196, u 197, u 198, u 199, u 200, u 201, u 202, u 203, u 204, u 205, u 206, u 207, u 208, u 209, u 210, u 211, u 212, u 213, u 214, u 215, u 216, u 217, u 218, u 219, u 220, u 221, u 222, u 223, u 224, u 225, u 226, u 227, u 228, u 229, u 230, u 231, u 232, u 233, u 234, u 235, u 236, u 237, u 238, u 239, u 240, u 241, u 242, u 243, u 244, u 245, u 246, u 247, u 248, u 249, u 250, u 251, u 252, u 253, u 254, u 255, u 256, u 257, u 258, u 259, u 260, u 261, u 262, u 263, u 264, u 265, u 266, u 267, u 268, u 269, u 270, u 271, u 272, u 273, u 274, u 275, u 276, u 277, u 278, u 279, u 280, u 281, u 282, u 283, u 284, u 285, u 286, u 287, u 288, u 289, u 290, u 291, u 292, u 293, u 294, u 295, u 296, u 297, u 298, u 299, u 300, u 301, u 302, u 303, u 304, u 305, u 306, u 307, u 308, u 309, u 310, u 311, u 312, u 313, u 314, u 315, u 316, u 317, u 318, u 319, u 320, u 321, u 322, u 323, u 324, u 325, u 326, u 327, u 328, u 329, u 330, u 331], []⟩ :=
  ⟨fun i => a.tmps.getD i undef, frame_arg a 331 h1 h2 v h3⟩
def DlPost (w : World) : Exit → Act → World → Prop := bodyPost Try.prog Try.f3 (fun e w' => e = .returned (.bool true) ∧ Ext w w')
noncomputable def dlTl (n : Nat) : Code := (Try.f3.body.getD .skip).tailAt n
/-- From region n on all goes well. -/
def DlTail (n : Nat) (p : Option Addr) (m cap : Nat) (w : World) : Prop := ∀ (a : Act) (wc : World), Ext w wc → a.defers = [] → a.tmps.size = 332 → a.tmps.getD 0 undef = .slice p m cap → Code.wp Try.prog (dlTl n) (DlPost w) a wc
end Go.Proofs.Ytppdbnopgcjgjaa
