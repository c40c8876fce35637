/- A condition on package-level variables: unicode.asciiFold and unicode.caseOrbit hold what the letters of "SIZE" ask of them. Kept by every world that leaves what lay below as it was. No condition on inputs. -/
import Derived.Test.YtnhhbdhkhdbanaaDoorLV
import Derived.Test.YtnhhbdhkhdbanaaDoorProg
namespace Go.Proofs.YtnhhbdhkhdbanaaDoor.X
open Go.RowKit Go.Proofs.YtnhhbdhkhdbanaaDoorW.PrintWords
def foldTab : List (Nat × Nat) := [(83, 115), (115, 383), (73, 105), (105, 73), (90, 122), (122, 90), (69, 101), (101, 69)]
def orbTab : List (Nat × Nat) := [(94, 966), (46, 837), (22, 452), (10, 197), (16, 304), (20, 383), (18, 305), (21, 83)]
/-- unicode.asciiFold at the letters of "SIZE", and unicode.caseOrbit at the cells that the search for 383 reads. -/
def GlF (w : World) : Prop := (∀ r q, (r, q) ∈ foldTab → w.cell? ⟨0, r, none⟩ = some (.int .u16 q)) ∧
  ∃ b off cap, w.cell? ⟨1, 0, none⟩ = some (.slice (some ⟨b, off, none⟩) 94 cap) ∧ ∀ r q, (r, q) ∈ orbTab → w.cell? ⟨b, off + r, none⟩ = some (.int .u16 q)
theorem GlF.below {w W : World} (h : GlF w) (hb : Below w.heap.size w W) : GlF W := by
  obtain ⟨h1, b, off, cap, h2, h3⟩ := h
  exact ⟨fun r q m => pw_cell_below hb (h1 r q m), b, off, cap, pw_cell_below hb h2, fun r q m => pw_cell_below hb (h3 r q m)⟩
end Go.Proofs.YtnhhbdhkhdbanaaDoor.X
