/- The pure statement of FnExactParseReply. Plain Lean. -/
import Derived.Test.YtnhhbdhkhdbanaaDoorRX8
import Derived.Test.YtnhhbdhkhdbanaaDoorRX6
import Derived.Test.YtnhhbdhkhdbanaaDoorRX7
import Derived.Test.YtnhhbdhkhdbanaaDoorRX6
import Derived.Test.YtnhhbdhkhdbanaaDoorRPRep3
import Derived.Test.YtnhhbdhkhdbanaaDoorRPMark
import Derived.Test.YtnhhbdhkhdbanaaDoorRPEqS
namespace Go.Proofs.YtnhhbdhkhdbanaaDoor.Pure
open Go Go.RowKit Go.Proofs.YtnhhbdhkhdbanaaDoorW.PrintWords
set_option linter.unusedVariables false
set_option linter.unusedSimpArgs false
theorem rep_len (b : ByteArray) : ∀ (n u : Nat) (a1 : ByteArray) (acc : List ByteArray), (rep n b u a1 acc).2.1.length ≤ acc.length + n := by
  intro n
  induction n with
  | zero => intro u a1 acc; exact Nat.zero_le _
  | succ n ih =>
    intro u a1 acc
    unfold rep
    split
    · split <;> exact Nat.zero_le _
    · split
      · split
        · simp only [List.length_append, List.length_singleton]; omega
        · refine Nat.le_trans (ih _ _ _) ?_
          simp only [List.length_append, List.length_singleton]; omega
      · exact Nat.zero_le _
theorem eqReply_f (c : Int) (l : List ByteArray) (hl : l.length ≤ 1048576) : Ev (fun k => X.laws_eqReply.f k c l c l) true := by
  refine Ev.congr (f := fun k => (X.laws_eqStringS.f k l l).bind fun t482 => (if t482 = true then (some true) else (some false))) (fun k => ?_) (Ev.bind (eqString_f l hl) (Ev.congr (fun k => if_pos rfl) (Ev.now _)))
  unfold X.laws_eqReply.f; rw [if_pos rfl]
theorem FnExactParseReply (a : ByteArray) (w : a.size ≤ maxLen) : ∃ k, X.laws_FnExactParseReply.f k a = some true := by
  by_cases h : (a.size : Int) > 1048576
  · exact ⟨0, by unfold X.laws_FnExactParseReply.f; rw [if_pos h]⟩
  obtain ⟨K1, e1⟩ := specRep_f a (by omega)
  obtain ⟨K2, e2⟩ := implRep_f a (by omega)
  have hlen : (repV a).2.1.length ≤ 50 := by have := rep_len a 50 0 ⟨#[]⟩ []; simpa [repV] using this
  generalize repV a = R at e1 e2 hlen
  obtain ⟨c, l, u, s⟩ := R
  have hlen' : l.length ≤ 50 := hlen
  obtain ⟨K3, e3⟩ := eqReply_f c l (by omega)
  obtain ⟨K4, e4⟩ := markS_f l (by omega) 1 (by omega) (by omega)
  obtain ⟨K5, e5⟩ := heldS_f l.length (by omega) 1 (by omega) (by omega)
  dsimp only at e1 e2 e3 e4 e5
  refine ⟨K1 + K2 + K3 + K4 + K5 + 1, ?_⟩
  have j : X.laws_FnExactParseReply.j0 (K1 + K2 + K3 + K4 + K5 + 1) a u s false c l c l = some true := by
    rw [X.laws_FnExactParseReply.j0, if_neg (by decide)]
    unfold X.laws_markReply.f
    rw [e4 _ (by omega)]
    simp only [Option.bind_some]
    unfold X.laws_heldReply.f
    rw [e5 _ (by omega)]
    simp only [Option.bind_some]
    rw [if_neg (by omega)]
    simp only [Option.bind_some]
    rw [if_neg (by omega), if_pos (by first | trivial | rfl), e2 _ (by omega)]
    simp only [Option.bind_some]
    rw [e3 _ (by omega)]
    simp only [Option.bind_some, if_true]
  unfold X.laws_FnExactParseReply.f
  rw [if_neg h, e1 _ (by omega)]
  simp only [Option.bind_some]
  rw [e2 _ (by omega)]
  simp only [Option.bind_some]
  rw [e3 _ (by omega)]
  simp only [Option.bind_some, if_true]
  rw [show (s != s) = false by simp]
  exact j
end Go.Proofs.YtnhhbdhkhdbanaaDoor.Pure
