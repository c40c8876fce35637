/- The program's Delay equals the reference's Delay at every int: the law's pure statement (no condition). -/
import Derived.Test.YtlaalimfmjfnnaaPFnExactDelayx1
import Derived.OpenShut
namespace Go.Proofs.Ytlaalimfmjfnnaa.Pure
open Go.RowKit Go.Proofs.Ytlaalimfmjfnnaa.PFnExactDelay Go.Proofs.YtlaalimfmjfnnaaW.PrintWords Go.Proofs.YtlaalimfmjfnnaaW.PrintLast

theorem delay_both (m : Nat) : ∀ (k : Nat) (a d i x : Int), m < k → 60 ≤ d → d ≤ 28800 → 14400 ≤ d * 2 ^ m → 1 ≤ i → i ≤ a → a ≤ 9223372036854775807 → x = a - i + 1 →
    ∃ r, spec_Delay.l0 k a d i = some r ∧ impl_Delay.l0 k x d = some r := by
  induction m with
  | zero =>
    intro k a d i x hk h0 h1 h2 h3 h4 h5 hx
    obtain ⟨k, rfl⟩ : ∃ q, k = q + 1 := ⟨k - 1, by omega⟩
    have hd : ¬ d < 14400 := by omega
    refine ⟨14400, ?_, ?_⟩
    · simp only [spec_Delay.l0, if_neg hd]
      have : ∀ b : Prop, [Decidable b] → (if b then (if d > 14400 then some 14400 else some d) else (if d > 14400 then some 14400 else some d)) = some (14400 : Int) := by
        intro b _
        split <;> split <;> first | rfl | (congr 1; omega)
      exact this _
    · simp only [impl_Delay.l0, if_neg hd]
      have e : mn d 14400 = 14400 := by unfold mn; split <;> omega
      rw [e]
      split <;> rfl
  | succ m ih =>
    intro k a d i x hk h0 h1 h2 h3 h4 h5 hx
    obtain ⟨k, rfl⟩ : ∃ q, k = q + 1 := ⟨k - 1, by omega⟩
    simp only [spec_Delay.l0, impl_Delay.l0]
    by_cases hd : d < 14400
    · by_cases hi : i < a
      · have e1 : wrap64 (d * 2) = d * 2 := by unfold wrap64; omega
        have e2 : wrap64 (i + 1) = i + 1 := by unfold wrap64; omega
        have e3 : wrap64 (x - 1) = x - 1 := by unfold wrap64; omega
        rw [if_pos hi, if_pos hd, if_pos (by omega), if_pos hd, e1, e2, e3]
        exact ih k a (d * 2) (i + 1) (x - 1) (by omega) (by omega) (by omega) (by rw [Int.pow_succ] at h2; rw [Int.mul_assoc, Int.mul_comm 2]; exact h2) (by omega) (by omega) h5 (by omega)
      · rw [if_neg hi, if_neg (by omega), if_neg (by omega)]
        exact ⟨d, rfl, by unfold mn; rw [if_neg (by omega)]⟩
    · have e : mn d 14400 = 14400 := by unfold mn; split <;> omega
      refine ⟨14400, ?_, ?_⟩
      · simp only [if_neg hd]
        split <;> split <;> first | rfl | (congr 1; omega)
      · simp only [if_neg hd, e]
        split <;> rfl

theorem FnExactDelay : laws_FnExactDelay.Pure := by
  intro a ha
  refine ⟨9, ?_⟩
  have hb : a ≤ 9223372036854775807 := (bounds_i64 ha).2
  unfold laws_FnExactDelay.f spec_Delay.f impl_Delay.f
  by_cases h : a < 1
  · simp only [if_pos h]; rfl
  · obtain ⟨r, h1, h2⟩ := delay_both 8 9 a 60 1 a (by omega) (by omega) (by omega) (by decide) (by omega) (by omega) hb (by omega)
    simp only [if_neg h, h1, h2, Option.bind_some, if_true]

end Go.Proofs.Ytlaalimfmjfnnaa.Pure
