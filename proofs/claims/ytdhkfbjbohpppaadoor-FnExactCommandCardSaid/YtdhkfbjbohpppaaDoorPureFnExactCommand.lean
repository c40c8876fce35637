/- The pure statement of FnExactCommand. Plain Lean. -/
import Derived.Test.YtdhkfbjbohpppaaDoorX6
import Derived.Test.YtdhkfbjbohpppaaDoorPAddr
namespace Go.Proofs.YtdhkfbjbohpppaaDoor.Pure
open Go Go.RowKit Go.Proofs.YtdhkfbjbohpppaaDoorW.PrintWords
set_option linter.unusedVariables false
set_option linter.unusedSimpArgs false
set_option maxHeartbeats 1000000 in
theorem FnExactCommand (a : Int) (wa : (Lit.int .i64 a).wf = true) (b : ByteArray) (w : b.size ≤ maxLen) : ∃ k, X.laws_FnExactCommand.f k a b = some true := by
  by_cases h : (b.size : Int) > 1048576
  · exact ⟨0, by unfold X.laws_FnExactCommand.f; rw [if_pos h]⟩
  obtain ⟨K1, h1⟩ := specDomain_f b
  obtain ⟨K2, h2⟩ := implDomain_f b (by omega)
  obtain ⟨K3, h3⟩ := specAddr_f b
  obtain ⟨K4, h4⟩ := implAddr_f b (by omega)
  generalize domainB b = d at h1 h2
  generalize addrB b = e at h3 h4
  have k1 : ∀ j, X.spec_ValidDomain.f (K1 + K2 + K3 + K4 + j) b = some d := fun j => h1 _ (by omega)
  have k2 : ∀ j, X.impl_ValidDomain.f (K1 + K2 + K3 + K4 + j) b = some d := fun j => h2 _ (by omega)
  have k3 : ∀ j, X.spec_ValidAddress.f (K1 + K2 + K3 + K4 + j) b = some e := fun j => h3 _ (by omega)
  have k4 : ∀ j, X.impl_ValidAddress.f (K1 + K2 + K3 + K4 + j) b = some e := fun j => h4 _ (by omega)
  clear h1 h2 h3 h4
  generalize K1 + K2 + K3 + K4 = K at k1 k2 k3 k4
  have hB : ∀ n, 1048576 ≤ n → b.size ≤ n := fun n hn => by omega
  have hB2 : ∀ m n, m + 1048576 ≤ n → m + b.size ≤ n := fun m n hn => by omega
  have hB3 : ∀ m p n, m + 1048576 + p ≤ n → m + b.size + p ≤ n := fun m p n hn => by omega
  have w0 : wrap64 0 = 0 := wrap_id _ (by omega) (by omega)
  have w1 : wrap64 1 = 1 := wrap_id _ (by omega) (by omega)
  have r0 : ∀ x y : ByteArray, rdOf ByteArray.empty [x, y] 0 = x := fun _ _ => rfl
  have r1 : ∀ x y : ByteArray, rdOf ByteArray.empty [x, y] 1 = y := fun _ _ => rfl
  refine ⟨K + 9, ?_⟩
  have n0 : ¬ ((b.size : Int) > 1048576) := h
  unfold X.laws_FnExactCommand.f X.spec_Command.f X.impl_Command.f
  rw [if_neg n0, k4, Option.bind_some]
  have s1 : (⟨#[69, 72, 76, 79, 32]⟩ : ByteArray).size = 5 := rfl
  have s2 : (⟨#[72, 69, 76, 79, 32]⟩ : ByteArray).size = 5 := rfl
  have s3 : (⟨#[77, 65, 73, 76, 32, 70, 82, 79, 77, 58, 60]⟩ : ByteArray).size = 11 := rfl
  have s4 : (⟨#[82, 67, 80, 84, 32, 84, 79, 58, 60]⟩ : ByteArray).size = 9 := rfl
  have s5 : (⟨#[68, 65, 84, 65]⟩ : ByteArray).size = 4 := rfl
  have s6 : (⟨#[81, 85, 73, 84]⟩ : ByteArray).size = 4 := rfl
  have c5 : (⟨#[68, 65, 84, 65]⟩ : ByteArray) ++ (⟨#[13, 10]⟩ : ByteArray) = (⟨#[68, 65, 84, 65, 13, 10]⟩ : ByteArray) := rfl
  have c6 : (⟨#[81, 85, 73, 84]⟩ : ByteArray) ++ (⟨#[13, 10]⟩ : ByteArray) = (⟨#[81, 85, 73, 84, 13, 10]⟩ : ByteArray) := rfl
  by_cases a1 : a = 1
  · subst a1; cases d <;> cases e <;> by_cases hb : b.toList = [] <;> simp [X.spec_Command.j0, X.spec_Command.j1, X.impl_Command.j0, X.impl_Command.j1, X.impl_Command.j2, X.impl_Command.j3, X.impl_Command.j4, k1, k2, k3, k4, w0, w1, r0, r1, s1, s2, s3, s4, s5, s6, c5, c6, hB, hB2, hB3, ByteArray.size_append, hb]
  by_cases a2 : a = 2
  · subst a2; cases d <;> cases e <;> by_cases hb : b.toList = [] <;> simp [X.spec_Command.j0, X.spec_Command.j1, X.impl_Command.j0, X.impl_Command.j1, X.impl_Command.j2, X.impl_Command.j3, X.impl_Command.j4, k1, k2, k3, k4, w0, w1, r0, r1, s1, s2, s3, s4, s5, s6, c5, c6, hB, hB2, hB3, ByteArray.size_append, hb]
  by_cases a3 : a = 3
  · subst a3; cases d <;> cases e <;> by_cases hb : b.toList = [] <;> simp [X.spec_Command.j0, X.spec_Command.j1, X.impl_Command.j0, X.impl_Command.j1, X.impl_Command.j2, X.impl_Command.j3, X.impl_Command.j4, k1, k2, k3, k4, w0, w1, r0, r1, s1, s2, s3, s4, s5, s6, c5, c6, hB, hB2, hB3, ByteArray.size_append, hb]
  by_cases a4 : a = 4
  · subst a4; cases d <;> cases e <;> by_cases hb : b.toList = [] <;> simp [X.spec_Command.j0, X.spec_Command.j1, X.impl_Command.j0, X.impl_Command.j1, X.impl_Command.j2, X.impl_Command.j3, X.impl_Command.j4, k1, k2, k3, k4, w0, w1, r0, r1, s1, s2, s3, s4, s5, s6, c5, c6, hB, hB2, hB3, ByteArray.size_append, hb]
  by_cases a5 : a = 5
  · subst a5; cases d <;> cases e <;> by_cases hb : b.toList = [] <;> simp [X.spec_Command.j0, X.spec_Command.j1, X.impl_Command.j0, X.impl_Command.j1, X.impl_Command.j2, X.impl_Command.j3, X.impl_Command.j4, k1, k2, k3, k4, w0, w1, r0, r1, s1, s2, s3, s4, s5, s6, c5, c6, hB, hB2, hB3, ByteArray.size_append, hb]
  by_cases a6 : a = 6
  · subst a6; cases d <;> cases e <;> by_cases hb : b.toList = [] <;> simp [X.spec_Command.j0, X.spec_Command.j1, X.impl_Command.j0, X.impl_Command.j1, X.impl_Command.j2, X.impl_Command.j3, X.impl_Command.j4, k1, k2, k3, k4, w0, w1, r0, r1, s1, s2, s3, s4, s5, s6, c5, c6, hB, hB2, hB3, ByteArray.size_append, hb]
  cases d <;> cases e <;> by_cases hb : b.toList = [] <;> simp [X.spec_Command.j0, X.spec_Command.j1, X.impl_Command.j0, X.impl_Command.j1, X.impl_Command.j2, X.impl_Command.j3, X.impl_Command.j4, k1, k2, k3, k4, a1, a2, a3, a4, a5, a6, hb]
end Go.Proofs.YtdhkfbjbohpppaaDoor.Pure
