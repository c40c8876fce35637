/- The pure statement of FnExactDueIds. Plain Lean. -/
import Derived.Test.YtnhhbdhkhdbanaaUX8
import Derived.Test.YtnhhbdhkhdbanaaUPDue2
import Derived.Test.YtnhhbdhkhdbanaaUPHeap2
namespace Go.Proofs.Ytnhhbdhkhdbanaa.Pure
open Go Go.RowKit Go.Proofs.YtnhhbdhkhdbanaaW.PrintWords
set_option linter.unusedVariables false
set_option linter.unusedSimpArgs false
theorem selIds_length : ∀ (n : Nat) (ks : List (Int × Int)), (X.selIds n ks).length = n
  | 0, _ => rfl
  | n + 1, ks => by rw [X.selIds, List.length_cons, selIds_length n]
theorem dueLaw (xs : List LI) (next now : Int) (hl : xs.length ≤ maxLen) (hx : ∀ p ∈ xs, WI p) : ∃ k, X.laws_FnExactDueIds.f k xs next now = some true := by
  obtain ⟨t, ⟨K0, e0⟩, ht⟩ := szQ_f xs next hl hx
  dsimp only at e0
  rcases ht with rfl | ⟨h0, h1⟩
  · refine ⟨K0, ?_⟩
    unfold X.laws_FnExactDueIds.f
    rw [e0 _ (Nat.le_refl _), Option.bind_some, if_pos (by decide)]
  have hxl : xs.length ≤ 1048576 := by omega
  have hwl : wt xs ≤ 1048576 := by omega
  have hml : (xs.map toI).length ≤ 1048576 := by rw [List.length_map]; exact hxl
  obtain ⟨K1, e1⟩ := toQ_f xs next hxl hwl
  obtain ⟨K2, e2⟩ := eqQ_f (xs.map toI) next hml (fun x hm => by
    obtain ⟨y, hy, rfl⟩ := List.mem_map.1 hm
    have := wt_mem xs y hy
    simp only [toI, List.length_map]
    omega)
  have hd := due_eq (xs.map toI) next now
  have hs : X.spec_DueIds.f (xs.map toI) next now = some (X.specT now (xs.map toI)) := by unfold X.spec_DueIds.f; rw [if_pos hml]; rfl
  rw [hs] at hd
  have hg : (X.specT now (xs.map toI)).length ≤ 1048576 := by
    unfold X.specT
    rw [selIds_length]
    exact Nat.le_trans (X.dueKeys_length _ _ _) hml
  generalize X.specT now (xs.map toI) = g at hs hd hg
  obtain ⟨K3, e3⟩ := eqN_f g hg
  obtain ⟨K4, e4⟩ := markN_f g hg
  obtain ⟨K5, e5⟩ := heldN_f g.length hg
  have hmk : X.laws_markQueue.f (xs.map toI) next 1 = some (1 + ((X.mkTot (xs.map toI) : Nat) : Int)) := by
    unfold X.laws_markQueue.f
    have := mkTot_le xs
    rw [if_pos ⟨by decide, by omega⟩]
  dsimp only at e1 e2 e3 e4 e5
  refine ⟨K0 + K1 + K2 + K3 + K4 + K5 + 1, ?_⟩
  have J : X.laws_FnExactDueIds.j0 (K0 + K1 + K2 + K3 + K4 + K5 + 1) now g g (!true) xs next = some true := by
    rw [X.laws_FnExactDueIds.j0, if_neg (by decide), e4 _ (by omega)]
    simp only [Option.bind_some]
    rw [e5 _ (by omega)]
    simp only [Option.bind_some]
    rw [if_neg (by omega), if_pos trivial, e1 _ (by omega)]
    simp only [Option.bind_some]
    rw [hd]
    simp only [Option.bind_some]
    rw [e3 _ (by omega)]
    simp only [Option.bind_some, if_true]
  unfold X.laws_FnExactDueIds.f
  rw [e0 _ (by omega), Option.bind_some, if_neg (by omega), e1 _ (by omega)]
  simp only [Option.bind_some]
  rw [hs]
  simp only [Option.bind_some]
  rw [hd]
  simp only [Option.bind_some]
  rw [e3 _ (by omega)]
  simp only [Option.bind_some, if_true]
  rw [e2 _ (by omega)]
  simp only [Option.bind_some, if_true]
  rw [hmk]
  simp only [Option.bind_some]
  rw [if_neg (by omega)]
  exact J
theorem FnExactDueIds (a : List LI × Int)
    (w : (a.1.length ≤ maxLen ∧ ∀ y ∈ a.1, ((Lit.int .i64 y.f0.f0).wf = true ∧ (Lit.int .i64 y.f0.f1).wf = true ∧ y.f0.f2.size ≤ maxLen ∧ (y.f0.f3.length ≤ maxLen ∧ ∀ z ∈ y.f0.f3, z.size ≤ maxLen) ∧ y.f0.f4.size ≤ maxLen) ∧ (y.f1.length ≤ maxLen ∧ ∀ z ∈ y.f1, (Lit.int .i64 z.f0).wf = true ∧ (Lit.int .i64 z.f1).wf = true ∧ z.f2.size ≤ maxLen) ∧ (Lit.int .i64 y.f2).wf = true ∧ (Lit.int .i64 y.f3).wf = true ∧ True) ∧ (Lit.int .i64 a.2).wf = true)
    (a1 : Int) (w1 : (Lit.int .i64 a1).wf = true) : ∃ k, X.laws_FnExactDueIds.f k a.1 a.2 a1 = some true := by
  obtain ⟨a0, a2⟩ := a
  exact dueLaw a0 a2 a1 w.1.1 (fun p hp => ⟨(w.1.2 p hp).1.2.2.1, (w.1.2 p hp).1.2.2.2.1, (w.1.2 p hp).1.2.2.2.2, (w.1.2 p hp).2.1.1, fun z hz => ((w.1.2 p hp).2.1.2 z hz).2.2⟩)
end Go.Proofs.Ytnhhbdhkhdbanaa.Pure
