/- The pure statement of FnExactValidBody. Plain Lean. -/
import Derived.Test.YtdhkfbjbohpppaaDoorPLines
namespace Go.Proofs.YtdhkfbjbohpppaaDoor.Pure
open Go Go.RowKit Go.Proofs.YtdhkfbjbohpppaaDoorW.PrintWords
set_option linter.unusedVariables false
theorem FnExactValidBody (a : ByteArray) (w : a.size ≤ maxLen) : ∃ k, X.laws_FnExactValidBody.f k a = some true := by
  by_cases h : (a.size : Int) > 1048576
  · exact ⟨0, by unfold X.laws_FnExactValidBody.f; rw [if_pos h]⟩
  obtain ⟨qs, last, e1, e2⟩ := lines_of a
  obtain ⟨K1, h1⟩ := specLines_f a qs last e1
  obtain ⟨K2, h2⟩ := implBody_f a (by omega) qs last e1 e2
  refine ⟨K1 + K2, ?_⟩
  have g1 : X.spec_l2lines.f (K1 + K2) a = _ := h1 _ (by omega)
  have g2 : X.impl_ValidBody.f (K1 + K2) a = _ := h2 _ (by omega)
  unfold X.laws_FnExactValidBody.f X.spec_ValidBody.f
  rw [if_neg h, g1, Option.bind_some, Option.bind_some, g2, Option.bind_some]
  cases bodyB qs last a <;> simp
end Go.Proofs.YtdhkfbjbohpppaaDoor.Pure
