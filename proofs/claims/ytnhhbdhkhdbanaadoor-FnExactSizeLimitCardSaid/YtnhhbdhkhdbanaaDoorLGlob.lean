/- Conditions on package-level variables, kept by every world that leaves what lay below as it was: internal/bytealg.MaxLen holds some int. No condition on inputs. -/
import Derived.Test.YtnhhbdhkhdbanaaDoorLV
import Derived.Test.YtnhhbdhkhdbanaaDoorProg
namespace Go.Proofs.YtnhhbdhkhdbanaaDoor.X
open Go.RowKit Go.Proofs.YtnhhbdhkhdbanaaDoorW.PrintWords

/-- internal/bytealg.MaxLen holds some int. -/
def GlM (w : World) : Prop := ∃ m : Int, w.cell? ⟨7, 0, none⟩ = some (.int .i64 m)
theorem GlM.below {w W : World} (h : GlM w) (hb : Below w.heap.size w W) : GlM W := by
  obtain ⟨m, hm⟩ := h
  exact ⟨m, pw_cell_below hb hm⟩
end Go.Proofs.YtnhhbdhkhdbanaaDoor.X
