/- The pure statement of FnExactValidDomain. Plain Lean. -/
import Derived.Test.YtdhkfbjbohpppaaDoorPDom
namespace Go.Proofs.YtdhkfbjbohpppaaDoor.Pure
open Go Go.RowKit Go.Proofs.YtdhkfbjbohpppaaDoorW.PrintWords
set_option linter.unusedVariables false
theorem FnExactValidDomain (a : ByteArray) (w : a.size ≤ maxLen) : ∃ k, X.laws_FnExactValidDomain.f k a = some true := by
  by_cases h : (a.size : Int) > 1048576
  · exact ⟨0, by unfold X.laws_FnExactValidDomain.f; rw [if_pos h]⟩
  obtain ⟨k, h1, h2⟩ := together (fun k => X.spec_ValidDomain.mono a k) (fun k => X.impl_ValidDomain.mono a k) (specDomain_f a).rounds (implDomain_f a (by omega)).rounds
  refine ⟨k, ?_⟩
  unfold X.laws_FnExactValidDomain.f
  rw [if_neg h, h1, Option.bind_some, h2, Option.bind_some]
  simp
end Go.Proofs.YtdhkfbjbohpppaaDoor.Pure
