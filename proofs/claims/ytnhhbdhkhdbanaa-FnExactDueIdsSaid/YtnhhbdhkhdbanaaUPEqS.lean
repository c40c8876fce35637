/- What eqStringS answers at equal rows. Plain Lean. -/
import Derived.Test.YtnhhbdhkhdbanaaUX4
import Derived.Test.YtnhhbdhkhdbanaaUPRd
namespace Go.Proofs.Ytnhhbdhkhdbanaa.Pure
open Go Go.RowKit Go.Proofs.YtnhhbdhkhdbanaaW.PrintWords
set_option linter.unusedVariables false
set_option linter.unusedSimpArgs false
theorem eqString_l0 (xs : List ByteArray) (hl : xs.length ≤ 1048576) : ∀ (n i : Nat), xs.length - i = n → i ≤ xs.length → Ev (fun k => X.laws_eqStringS.l0 k xs xs (i : Int)) true := by
  intro n
  induction n with
  | zero =>
    intro i hn hi
    refine Ev.step (f := fun _ => some true) (fun k => ?_) (Ev.now _)
    rw [X.laws_eqStringS.l0, if_neg (by omega)]
  | succ n ih =>
    intro i hn hi
    have e2 : wrap64 ((i : Int) + 1) = ((i + 1 : Nat) : Int) := by rw [wrap_id _ (by omega) (by omega)]; omega
    refine Ev.step (f := fun k => X.laws_eqStringS.l0 k xs xs ((i + 1 : Nat) : Int)) (fun k => ?_) (ih (i + 1) (by omega) (by omega))
    rw [X.laws_eqStringS.l0, if_pos (by omega), if_pos (by omega), if_pos (by omega), if_pos rfl, e2]
theorem eqString_f (xs : List ByteArray) (hl : xs.length ≤ 1048576) : Ev (fun k => X.laws_eqStringS.f k xs xs) true := by
  refine Ev.congr (f := fun k => X.laws_eqStringS.l0 k xs xs 0) (fun k => ?_) (eqString_l0 xs hl xs.length 0 (by omega) (by omega))
  unfold X.laws_eqStringS.f
  rw [if_pos rfl]
end Go.Proofs.Ytnhhbdhkhdbanaa.Pure
