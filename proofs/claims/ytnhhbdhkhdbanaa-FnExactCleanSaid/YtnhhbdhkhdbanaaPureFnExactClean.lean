/- The pure statement of FnExactClean. Plain Lean. -/
import Derived.Test.YtnhhbdhkhdbanaaX3
import Derived.Test.YtnhhbdhkhdbanaaGClean
namespace Go.Proofs.Ytnhhbdhkhdbanaa.Pure
open Go Go.RowKit Go.Proofs.YtnhhbdhkhdbanaaW.PrintWords
theorem FnExactClean (a : ByteArray) (_w : a.size ≤ maxLen) : X.laws_FnExactClean.f a = some true := by
  unfold X.laws_FnExactClean.f
  by_cases h : (a.size : Int) > 1048576
  · rw [if_pos h]
  · rw [if_neg h]
    unfold X.spec_Clean.f X.impl_Clean.f
    simp only [Option.bind_some, if_true]
end Go.Proofs.Ytnhhbdhkhdbanaa.Pure
