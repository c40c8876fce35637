/- The pure statement of FnExactSizeLimit. Plain Lean. -/
import Derived.Test.YtnhhbdhkhdbanaaDoorLX5
import Derived.Test.YtnhhbdhkhdbanaaDoorLPSize
import Derived.Test.YtnhhbdhkhdbanaaDoorLPLaw
import Derived.Test.YtnhhbdhkhdbanaaDoorLPEqS
namespace Go.Proofs.YtnhhbdhkhdbanaaDoor.Pure
open Go Go.RowKit Go.Proofs.YtnhhbdhkhdbanaaDoorW.PrintWords
set_option linter.unusedVariables false
set_option linter.unusedSimpArgs false
theorem FnExactSizeLimit (a0 : List ByteArray) (w0 : a0.length ≤ maxLen ∧ ∀ p ∈ a0, p.size ≤ maxLen) : ∃ k, X.laws_FnExactSizeLimit.f k a0 = some true := by
  obtain ⟨t, ⟨K0, e0⟩, ht⟩ := szString_f a0 w0.1 w0.2 1048576 (by decide) (by decide)
  dsimp only at e0
  rcases ht with rfl | ⟨h0, h1, h2, h3⟩
  · refine ⟨K0, ?_⟩
    unfold X.laws_FnExactSizeLimit.f
    rw [e0 _ (Nat.le_refl _), Option.bind_some, if_pos (by decide)]
  have hl : a0.length ≤ 1048576 := by omega
  obtain ⟨K1, e1⟩ := toString_f a0 hl
  obtain ⟨K2, e2⟩ := spec_f a0 hl
  obtain ⟨K3, e3⟩ := impl_f a0 hl
  obtain ⟨K4, e4⟩ := eqString_f a0 hl
  dsimp only at e1 e2 e3 e4
  refine ⟨K0 + K1 + K2 + K3 + K4 + 1, ?_⟩
  have J : X.laws_FnExactSizeLimit.j0 (K0 + K1 + K2 + K3 + K4 + 1) a0 a0 false = some true := by
    rw [X.laws_FnExactSizeLimit.j0, if_neg (by decide), e1 _ (by omega)]
    simp only [Option.bind_some]
    rw [e4 _ (by omega)]
    simp only [Option.bind_some, if_true]
  unfold X.laws_FnExactSizeLimit.f
  rw [e0 _ (by omega), Option.bind_some, if_neg (by omega), e1 _ (by omega)]
  simp only [Option.bind_some]
  rw [e2 _ (by omega)]
  simp only [Option.bind_some]
  rw [e3 _ (by omega)]
  simp only [Option.bind_some, if_true, bne_self_eq_false]
  exact J
end Go.Proofs.YtnhhbdhkhdbanaaDoor.Pure
