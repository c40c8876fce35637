/- The pure statement of FnExactStuff. Plain Lean. -/
import Derived.Test.YtdhkfbjbohpppaaDoorPHead
namespace Go.Proofs.YtdhkfbjbohpppaaDoor.Pure
open Go Go.RowKit Go.Proofs.YtdhkfbjbohpppaaDoorW.PrintWords
set_option linter.unusedVariables false
theorem FnExactStuff (a : ByteArray) (w : a.size ≤ maxLen) : ∃ k, X.laws_FnExactStuff.f k a = some true := by
  by_cases h : (a.size : Int) > 1048576
  · exact ⟨0, by unfold X.laws_FnExactStuff.f; rw [if_pos h]⟩
  obtain ⟨r, ⟨K1, h1⟩, ⟨K2, h2⟩⟩ := stuffs a (by omega)
  refine ⟨K1 + K2, ?_⟩
  have g1 : X.spec_Stuff.f (K1 + K2) a = _ := h1 _ (by omega)
  have g2 : X.impl_Stuff.f (K1 + K2) a = _ := h2 _ (by omega)
  unfold X.laws_FnExactStuff.f
  rw [if_neg h, g1, Option.bind_some, g2, Option.bind_some, if_pos rfl]
end Go.Proofs.YtdhkfbjbohpppaaDoor.Pure
