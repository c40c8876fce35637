/- What a row's own hypotheses give of the package-level variables: that internal/bytealg.MaxLen holds some int follows from the world's shape. -/
import Derived.Test.YtnhhbdhkhdbanaaDoorOGlob
import Derived.Shelf.Vars
import Derived.KernelRfl
namespace Go.Proofs.YtnhhbdhkhdbanaaDoor.GlobIn
open Go.RowKit Go.Proofs.YtnhhbdhkhdbanaaDoorW.PrintWords
theorem glM {w : World} (h : w.ShapedOpen Tryd.prog) : X.GlM w :=
  Go.Proofs.cell_of_shapedOpen_int (zero := #[.int .i64 0]) (t := 3) h (of_decide_eq_true (by kernel_rfl)) (by kernel_rfl) rfl (by kernel_rfl) (by kernel_rfl) Tryd.underlying3
end Go.Proofs.YtnhhbdhkhdbanaaDoor.GlobIn
