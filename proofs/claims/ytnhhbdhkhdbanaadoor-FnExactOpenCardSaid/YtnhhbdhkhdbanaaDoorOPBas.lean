/- Pieces: how many, how long; an element of a row. Plain Lean. -/
import Derived.Test.YtnhhbdhkhdbanaaDoorOPSplit
namespace Go.Proofs.YtnhhbdhkhdbanaaDoor.Pure
open Go Go.RowKit Go.Proofs.YtnhhbdhkhdbanaaDoorW.PrintWords
set_option linter.unusedVariables false
set_option linter.unusedSimpArgs false
theorem rd_get (xs : List ByteArray) (i : Nat) (h : i < xs.length) : rdOf ByteArray.empty xs (i : Int) = xs[i] := by
  unfold rdOf; rw [Int.toNat_natCast, List.getD_eq_getElem?_getD, List.getElem?_eq_getElem h]; rfl
theorem sp_sizes (sep : ByteArray) (n : Nat) : ∀ (k : Nat) (s : ByteArray), s.size ≤ n → ∀ p ∈ Lib.splitB sep 0 k s, p.size ≤ n
  | 0, s, h, p, hp => by simp only [Lib.splitB, List.mem_singleton] at hp; subst hp; exact h
  | k + 1, s, h, p, hp => by
    unfold Lib.splitB at hp
    split at hp
    · simp only [List.mem_singleton] at hp; subst hp; exact h
    · rcases List.mem_cons.1 hp with rfl | hp
      · rw [ByteArray.size_extract]; omega
      · exact sp_sizes sep n k _ (by rw [ByteArray.size_extract]; omega) p hp
theorem sp_len (s sep : ByteArray) (h1 : 1 ≤ sep.size) : (sp s sep).length ≤ s.size + 1 := by
  have h := Lib.splitB_length_le sep 0 (Lib.countB s sep) s
  have := Lib.countB_le sep h1 s.size s (Nat.le_refl _)
  unfold sp; omega
end Go.Proofs.YtnhhbdhkhdbanaaDoor.Pure
