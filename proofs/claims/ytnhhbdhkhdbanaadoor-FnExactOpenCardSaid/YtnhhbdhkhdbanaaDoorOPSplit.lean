/- What spec_l2split answers: the pieces of the library's Split. Plain Lean. -/
import Derived.Test.YtnhhbdhkhdbanaaDoorOX1
import Derived.Test.YtnhhbdhkhdbanaaDoorOGSplit
import Derived.Lib.SplitLaws
import Derived.Lib.CutLaws
namespace Go.Proofs.YtnhhbdhkhdbanaaDoor.Pure
open Go Go.RowKit Go.Proofs.YtnhhbdhkhdbanaaDoorW.PrintWords
set_option linter.unusedVariables false
theorem wrap_id (x : Int) (h0 : -9223372036854775808 ≤ x) (h1 : x ≤ 9223372036854775807) : wrap64 x = x := by
  unfold wrap64; omega
/-- All pieces. -/
def sp (s sep : ByteArray) : List ByteArray := Lib.splitB sep 0 (Lib.countB s sep) s
theorem sp_miss (s sep : ByteArray) (h : Lib.indexB s sep = -1) : sp s sep = [s] := Lib.splitB_miss _ _ _ _ h
theorem sp_hit (s sep : ByteArray) (i : Nat) (h1 : 1 ≤ sep.size) (h : Lib.indexB s sep = i) : sp s sep = s.extract 0 i :: sp (s.extract (i + sep.size) s.size) sep := by
  unfold sp
  rw [Lib.countB_hit s sep i h1 h, Nat.add_comm 1, Lib.splitB_hit sep 0 _ s i h]; rfl
theorem sp_pieces (s sep : ByteArray) (h1 : 1 ≤ sep.size) : Lib.splitB sep 0 (X.pieces s sep - 1) s = sp s sep := by
  have := Lib.countB_le sep h1 s.size s (Nat.le_refl _)
  unfold sp X.pieces
  congr 1; omega
theorem split_f (s sep : ByteArray) (h1 : 1 ≤ sep.size) (hs : s.size < 4294967281) : X.strings_Split.f s sep = some (sp s sep) := by
  unfold X.strings_Split.f
  rw [if_pos ⟨hs, h1⟩, sp_pieces s sep h1]
theorem extract_ex (s : ByteArray) (l a b : Nat) (hb : l + b ≤ s.size) : (s.extract l s.size).extract a b = s.extract (l + a) (l + b) := by
  rw [ByteArray.extract_extract]; congr 1; omega
theorem data_extract (s : ByteArray) (a b : Nat) : (s.extract a b).data.toList = (s.data.toList.take b).drop a := by
  rw [ByteArray.data_extract, Array.toList_extract, List.extract_eq_take_drop, List.drop_take]
theorem occ_at (s sep : ByteArray) (i : Nat) (hi : i + sep.size ≤ s.size) : ((s.extract i (i + sep.size)).toList = sep.toList) ↔ Lib.occAt s.data.toList sep.data.toList i = true := by
  rw [Lib.occAt_iff_take _ _ _ (by rw [data_length, data_length]; omega), ByteArray.toList_eq, ByteArray.toList_eq, data_extract, beq_iff_eq, data_length, List.drop_take, show i + sep.size - i = sep.size by omega]
theorem indexB_drop (s sep : ByteArray) (l : Nat) (hl : l ≤ s.size) : Lib.indexB (s.extract l s.size) sep = Lib.index (s.data.toList.drop l) sep.data.toList := by
  show Lib.index _ _ = _
  rw [data_extract, show s.size = s.data.toList.length from (data_length s).symm, List.take_length]
theorem l0_ends (s sep : ByteArray) (h1 : 1 ≤ sep.size) (hs : s.size ≤ 1152921504606846976) (hp : sep.size ≤ 1152921504606846976) : ∀ (n l i : Nat) (acc : List ByteArray), s.size - i = n → l ≤ i → i ≤ s.size → acc.length + (s.size - l) < 8796093022208 →
    (∀ j, l ≤ j → j < i → Lib.occAt s.data.toList sep.data.toList j = false) →
    ∃ k, X.spec_l2split.l0 k s sep acc (l : Int) (i : Int) = some (acc ++ sp (s.extract l s.size) sep) := by
  intro n
  induction n using Nat.strongRecOn with
  | _ n ih =>
    intro l i acc hn hl hi ha hno
    have e1 : wrap64 ((i : Int) + (sep.size : Int)) = ((i + sep.size : Nat) : Int) := by rw [wrap_id _ (by omega) (by omega)]; omega
    have e2 : wrap64 ((i : Int) + 1) = ((i + 1 : Nat) : Int) := by rw [wrap_id _ (by omega) (by omega)]; omega
    have hszs := data_length s
    have hszp := data_length sep
    by_cases hfit : i + sep.size ≤ s.size
    · by_cases hocc : Lib.occAt s.data.toList sep.data.toList i = true
      · have hidx : Lib.indexB (s.extract l s.size) sep = ((i - l : Nat) : Int) := by
          rw [indexB_drop s sep l (by omega)]
          refine Lib.index_first (by rw [List.length_drop, hszs]; omega) ?_ ?_
          · have : Lib.occAt (s.data.toList.drop l) sep.data.toList (i - l) = Lib.occAt s.data.toList sep.data.toList i := by
              unfold Lib.occAt; rw [List.drop_drop, show l + (i - l) = i by omega]
            rw [this]; exact hocc
          · intro j hj
            have : Lib.occAt (s.data.toList.drop l) sep.data.toList j = Lib.occAt s.data.toList sep.data.toList (l + j) := by
              unfold Lib.occAt; rw [List.drop_drop]
            rw [this]; exact hno _ (by omega) (by omega)
        obtain ⟨k, hk⟩ := ih (s.size - (i + sep.size)) (by omega) (i + sep.size) (i + sep.size) (acc ++ [s.extract l i]) rfl (by omega) (by omega) (by simp only [List.length_append, List.length_singleton]; omega) (fun j h h' => by omega)
        refine ⟨k + 1, ?_⟩
        have hsz : (s.extract l s.size).size = s.size - l := by simp [ByteArray.size_extract]
        rw [sp_hit _ sep (i - l) h1 hidx, extract_ex s l 0 (i - l) (by omega), hsz, extract_ex s l _ (s.size - l) (by omega), show l + (i - l) = i by omega, show l + (i - l + sep.size) = i + sep.size by omega, show l + (s.size - l) = s.size by omega, Nat.add_zero]
        unfold X.spec_l2split.l0
        rw [e1, if_pos (by omega), if_pos (by omega), if_pos (by omega), if_pos (by rw [Int.toNat_natCast, Int.toNat_natCast]; exact (occ_at s sep i hfit).2 hocc), if_pos (by omega), if_pos (by omega), if_pos (by omega), if_pos (by omega), Int.toNat_natCast, Int.toNat_natCast, hk]
        simp
      · obtain ⟨k, hk⟩ := ih (s.size - (i + 1)) (by omega) l (i + 1) acc rfl (by omega) (by omega) ha (fun j h h' => by
          rcases Nat.lt_or_ge j i with h2 | h2
          · exact hno j h h2
          · obtain rfl : j = i := by omega
            simpa using hocc)
        refine ⟨k + 1, ?_⟩
        unfold X.spec_l2split.l0
        rw [e1, if_pos (by omega), if_pos (by omega), if_pos (by omega), if_neg (by rw [Int.toNat_natCast, Int.toNat_natCast]; exact fun h => hocc ((occ_at s sep i hfit).1 h)), e2, hk]
    · refine ⟨1, ?_⟩
      have hidx : Lib.indexB (s.extract l s.size) sep = -1 := by
        rw [indexB_drop s sep l (by omega)]
        refine Lib.index_none fun j hj => ?_
        have e : Lib.occAt (s.data.toList.drop l) sep.data.toList j = Lib.occAt s.data.toList sep.data.toList (l + j) := by
          unfold Lib.occAt; rw [List.drop_drop]
        rw [e]
        rcases Nat.lt_or_ge (l + j) i with h2 | h2
        · exact hno _ (by omega) h2
        · cases hx : Lib.occAt s.data.toList sep.data.toList (l + j) with
          | false => rfl
          | true =>
            rcases Lib.occAt_room hx with h3 | h3
            · rw [hszs, hszp] at h3; omega
            · rw [h3] at hszp; simp at hszp; omega
      rw [sp_miss _ _ hidx]
      unfold X.spec_l2split.l0
      rw [e1, if_neg (by omega), if_pos (by omega), if_pos (by omega), if_pos (by omega), Int.toNat_natCast]
theorem l2split_f (s sep : ByteArray) (h1 : 1 ≤ sep.size) (hs : s.size ≤ 8796093022200) (hp : sep.size ≤ 1152921504606846976) : Ev (fun k => X.spec_l2split.f k s sep) (sp s sep) := by
  obtain ⟨k, hk⟩ := l0_ends s sep h1 (by omega) hp s.size 0 0 [] rfl (Nat.le_refl _) (Nat.zero_le _) (by simp; omega) (fun j h h' => by omega)
  have he : s.extract 0 s.size = s := by simp
  rw [he, List.nil_append] at hk
  exact Ev.of (fun k => X.spec_l2split.mono s sep k) (k := k) hk
end Go.Proofs.YtnhhbdhkhdbanaaDoor.Pure
