/- The pure statements of FnExactSync and FnExactCrash: what a disk keeps. Plain Lean. -/
import Derived.Test.YtlaalimfmjfnnaaX1
namespace Go.Proofs.Ytlaalimfmjfnnaa.Pure
open Go Go.RowKit Go.Proofs.YtlaalimfmjfnnaaW.PrintWords
set_option linter.unusedVariables false
theorem wrap_id (x : Int) (h0 : -9223372036854775808 ≤ x) (h1 : x ≤ 9223372036854775807) : wrap64 x = x := by
  unfold wrap64; omega
/-- The size guard: below it, every text is short. -/
theorem sz_small (a b : ByteArray) (c : Bool) (d e : ByteArray) (ha : a.size ≤ maxLen) (hb : b.size ≤ maxLen) (hd : d.size ≤ maxLen) (he : e.size ≤ maxLen) :
    ∃ t, X.laws_szDisk.f a b c d e 1048576 = some t ∧ (t < 0 ∨ (a.size ≤ 1048576 ∧ b.size ≤ 1048576 ∧ d.size ≤ 1048576 ∧ e.size ≤ 1048576)) := by
  simp only [maxLen] at ha hb hd he
  unfold X.laws_szDisk.f
  rw [wrap_id (1048576 - (a.size : Int)) (by omega) (by omega)]
  by_cases h1 : (1048576 - (a.size : Int)) < 0
  · exact ⟨-1, by rw [if_pos h1], .inl (by omega)⟩
  rw [if_neg h1, wrap_id (1048576 - (a.size : Int) - (b.size : Int)) (by omega) (by omega)]
  by_cases h2 : (1048576 - (a.size : Int) - (b.size : Int)) < 0
  · exact ⟨-1, by rw [if_pos h2], .inl (by omega)⟩
  rw [if_neg h2, wrap_id (1048576 - (a.size : Int) - (b.size : Int) - (d.size : Int)) (by omega) (by omega)]
  by_cases h3 : (1048576 - (a.size : Int) - (b.size : Int) - (d.size : Int)) < 0
  · exact ⟨-1, by rw [if_pos h3], .inl (by omega)⟩
  rw [if_neg h3, wrap_id (1048576 - (a.size : Int) - (b.size : Int) - (d.size : Int) - (e.size : Int)) (by omega) (by omega)]
  by_cases h4 : (1048576 - (a.size : Int) - (b.size : Int) - (d.size : Int) - (e.size : Int)) < 0
  · exact ⟨-1, by rw [if_pos h4], .inl (by omega)⟩
  rw [if_neg h4]
  exact ⟨_, rfl, .inr (by omega)⟩
theorem eq_self (a b : ByteArray) (c : Bool) (d e : ByteArray) : X.laws_eqDisk.f a b c d e a b c d e = some true := by
  unfold X.laws_eqDisk.f; simp
theorem FnExactSync (a : ByteArray × ByteArray × Bool × ByteArray × ByteArray) (w : a.1.size ≤ maxLen ∧ a.2.1.size ≤ maxLen ∧ True ∧ a.2.2.2.1.size ≤ maxLen ∧ a.2.2.2.2.size ≤ maxLen) : X.laws_FnExactSync.f a.1 a.2.1 a.2.2.1 a.2.2.2.1 a.2.2.2.2 = some true := by
  obtain ⟨a, b, c, d, e⟩ := a
  obtain ⟨ha, hb, _, hd, he⟩ := w
  obtain ⟨t, ht, h⟩ := sz_small a b c d e ha hb hd he
  unfold X.laws_FnExactSync.f
  rw [ht, Option.bind_some]
  by_cases h0 : t < 0
  · rw [if_pos h0]
  rw [if_neg h0]
  have hs := h.resolve_left h0
  unfold X.laws_toDisk.f X.spec_Sync.f X.impl_Sync.f
  simp only [Option.bind_some]
  have g : a.size + b.size ≤ 9223372036854775807 := by omega
  simp only [if_pos g, Option.bind_some, eq_self, if_true]
end Go.Proofs.Ytlaalimfmjfnnaa.Pure
