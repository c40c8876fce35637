/- The pure statement of FnExactCrash. Plain Lean. -/
import Derived.Test.YtlaalimfmjfnnaaX1
import Derived.Test.YtlaalimfmjfnnaaPureFnExactSync
namespace Go.Proofs.Ytlaalimfmjfnnaa.Pure
open Go Go.RowKit Go.Proofs.YtlaalimfmjfnnaaW.PrintWords Go.Proofs.YtlaalimfmjfnnaaW.PrintMore
set_option linter.unusedVariables false
theorem keep_front (s : ByteArray) (n : Int) : ∃ r : ByteArray, X.spec_l1keep.f s n = some r ∧ X.impl_front.f s n = some r ∧ r.size ≤ s.size := by
  have hm : mx 0 (mn n (s.size : Int)) = if n < 0 then 0 else if n > (s.size : Int) then (s.size : Int) else n := by
    unfold mx mn
    repeat' split
    all_goals omega
  unfold X.spec_l1keep.f X.impl_front.f
  rw [hm]
  by_cases h1 : n < 0
  · refine ⟨⟨#[]⟩, by rw [if_pos h1], ?_, Nat.zero_le _⟩
    rw [if_pos h1, if_pos (by omega), if_pos (by omega)]
    congr 1
    apply ByteArray.ext; simp
  · by_cases h2 : n > (s.size : Int)
    · refine ⟨s, by rw [if_neg h1, if_pos h2], ?_, Nat.le_refl _⟩
      rw [if_neg h1, if_pos h2, if_pos (by omega), if_pos (by omega), Int.toNat_natCast]
      congr 1
      simp
    · refine ⟨s.extract 0 n.toNat, by rw [if_neg h1, if_neg h2, if_pos (by omega), if_pos (by omega)], ?_, by rw [ByteArray.size_extract]; omega⟩
      rw [if_neg h1, if_neg h2, if_pos (by omega), if_pos (by omega)]
theorem FnExactCrash (a : ByteArray × ByteArray × Bool × ByteArray × ByteArray) (w : a.1.size ≤ maxLen ∧ a.2.1.size ≤ maxLen ∧ True ∧ a.2.2.2.1.size ≤ maxLen ∧ a.2.2.2.2.size ≤ maxLen) (m : Int) (wm : (Lit.int .i64 m).wf = true) (n : Int) (wn : (Lit.int .i64 n).wf = true) : X.laws_FnExactCrash.f a.1 a.2.1 a.2.2.1 a.2.2.2.1 a.2.2.2.2 m n = some true := by
  obtain ⟨a, b, c, d, e⟩ := a
  obtain ⟨ha, hb, _, hd, he⟩ := w
  obtain ⟨t, ht, h⟩ := sz_small a b c d e ha hb hd he
  unfold X.laws_FnExactCrash.f
  rw [ht, Option.bind_some]
  by_cases h0 : t < 0
  · rw [if_pos h0]
  rw [if_neg h0]
  have hs := h.resolve_left h0
  obtain ⟨r1, k1, f1, z1⟩ := keep_front b m
  obtain ⟨r2, k2, f2, z2⟩ := keep_front e n
  have g1 : a.size + r1.size ≤ 9223372036854775807 := by omega
  have g2 : d.size + r2.size ≤ 9223372036854775807 := by omega
  unfold X.laws_toDisk.f X.spec_Crash.f X.impl_Crash.f
  simp only [Option.bind_some, k1, f1, k2, f2, if_pos g1, if_pos g2, eq_self, if_true]
end Go.Proofs.Ytlaalimfmjfnnaa.Pure
