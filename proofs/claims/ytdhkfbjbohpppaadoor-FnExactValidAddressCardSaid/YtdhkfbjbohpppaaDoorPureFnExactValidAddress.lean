/- The pure statement of FnExactValidAddress. Plain Lean. -/
import Derived.Test.YtdhkfbjbohpppaaDoorPAddr
namespace Go.Proofs.YtdhkfbjbohpppaaDoor.Pure
open Go Go.RowKit Go.Proofs.YtdhkfbjbohpppaaDoorW.PrintWords
set_option linter.unusedVariables false
theorem FnExactValidAddress (a : ByteArray) (w : a.size ≤ maxLen) : ∃ k, X.laws_FnExactValidAddress.f k a = some true := by
  by_cases h : (a.size : Int) > 1048576
  · exact ⟨0, by unfold X.laws_FnExactValidAddress.f; rw [if_pos h]⟩
  obtain ⟨k, h1, h2⟩ := together (fun k => X.spec_ValidAddress.mono a k) (fun k => X.impl_ValidAddress.mono a k) (specAddr_f a).rounds (implAddr_f a (by omega)).rounds
  refine ⟨k, ?_⟩
  unfold X.laws_FnExactValidAddress.f
  rw [if_neg h, h1, Option.bind_some, h2, Option.bind_some]
  simp
end Go.Proofs.YtdhkfbjbohpppaaDoor.Pure
