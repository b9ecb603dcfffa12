/- The library's variables that reading numbers and splitting texts look at, carried along. -/
import Derived.Test.YtnngklclehffhaaDoorKit2
import Derived.Test.YtnngklclehffhaaDoorProg
import Derived.Test.YtnngklclehffhaaDoorRows
import Derived.Stop.LaidErr
import Derived.Look8
import Derived.Shelf.Vars
import Derived.BarOnce
namespace Go.Proofs.YtnngklclehffhaaDoor
open Go.RowKit
def Vrs (w : World) : Prop := (∃ m, w.cell? ⟨0, 0, none⟩ = some (.int .i64 m)) ∧ (∃ tp p, w.var? Tryd.prog "strconv.ErrSyntax" = some #[.iface tp p]) ∧ ∃ tp p, w.var? Tryd.prog "strconv.ErrRange" = some #[.iface tp p]
theorem Vrs.ext {w w' : World} (h : Vrs w) (hx : Ext w w') : Vrs w' := by
  obtain ⟨⟨m, h1⟩, ⟨t2, p2, h2⟩, t3, p3, h3⟩ := h
  refine ⟨⟨m, hx.cell h1⟩, ⟨t2, p2, ?_⟩, t3, p3, ?_⟩
  · obtain ⟨z, rfl⟩ := hx
    exact World.var?_append (bs := z.x) rfl h2
  · obtain ⟨z, rfl⟩ := hx
    exact World.var?_append (bs := z.x) rfl h3
theorem star_es : "*" ++ "errors.errorString" = "*errors.errorString" := by decide
theorem row_es (u : TypeId) (h : Tryd.prog.typeName? 3 u = some "*errors.errorString") : u = 166 :=
  typeName_ptr_named (nm := "errors.errorString") (by rw [star_es]; kernel_rfl) (by kernel_rfl) (by decide) u (by rw [star_es]; exact h)
theorem vrs_of {W : World} (hsh : W.ShapedOpen Tryd.prog) {r1 r2 : List (String × DataW Unit)} (h1 : laidMet Tryd.prog (("strconv.ErrRange", Rows.laid_strconv_ErrRange) :: r1) W) (h2 : laidMet Tryd.prog (("strconv.ErrSyntax", Rows.laid_strconv_ErrSyntax) :: r2) W) : Vrs W := by
  obtain ⟨a1, s1, hv1, -⟩ := laid_sentinel (g := 2) (ti := 108) (tp := 166) (te := 168) (ts := 9) h1 (by kernel_rfl) (by kernel_rfl) Tryd.underlying108 row_es Tryd.underlying166 Tryd.underlying168 rfl rfl (by kernel_rfl) (by kernel_rfl) (by kernel_rfl)
  obtain ⟨a2, s2, hv2, -⟩ := laid_sentinel (g := 1) (ti := 108) (tp := 166) (te := 168) (ts := 9) h2 (by kernel_rfl) (by kernel_rfl) Tryd.underlying108 row_es Tryd.underlying166 Tryd.underlying168 rfl rfl (by kernel_rfl) (by kernel_rfl) (by kernel_rfl)
  exact ⟨cell_of_shapedOpen_int (zero := #[.int .i64 0]) (t := 3) hsh (by decide +kernel) (by kernel_rfl) rfl (by kernel_rfl) (by kernel_rfl) (by kernel_rfl), ⟨_, _, hv2⟩, ⟨_, _, hv1⟩⟩
end Go.Proofs.YtnngklclehffhaaDoor
