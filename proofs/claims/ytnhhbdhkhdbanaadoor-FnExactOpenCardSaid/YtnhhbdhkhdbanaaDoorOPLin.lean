/- Lines: what l2has answers, the pieces at the ends of lines. Plain Lean. -/
import Derived.Test.YtnhhbdhkhdbanaaDoorOX1
import Derived.Test.YtnhhbdhkhdbanaaDoorOPBas
namespace Go.Proofs.YtnhhbdhkhdbanaaDoor.Pure
open Go Go.RowKit Go.Proofs.YtnhhbdhkhdbanaaDoorW.PrintWords
set_option linter.unusedVariables false
set_option linter.unusedSimpArgs false
theorem byte_iff (x n : UInt8) : ((x.toNat : Int) = (n.toNat : Int)) ↔ x = n := by
  rw [Int.natCast_inj]; exact ⟨fun h => UInt8.toNat.inj h, fun h => by rw [h]⟩
theorem bt_get (s : ByteArray) (j : Nat) (h : j < s.size) : bt s (j : Int) = ((s.data.toList[j]'(by rw [data_length]; exact h)).toNat : Int) := by
  unfold bt
  rw [dif_pos (show (j : Int).toNat < s.size by simpa using h)]; rfl
theorem has_all (s : ByteArray) (hs : s.size ≤ 8796093022208) (c : UInt8) : ∀ (n i : Nat), s.size - i = n → i ≤ s.size → Ev (fun k => X.spec_l2has.l0 k s (c.toNat : Int) (i : Int)) ((s.data.toList.drop i).contains c) := by
  intro n
  induction n with
  | zero =>
    intro i hn hi
    rw [List.drop_of_length_le (by rw [data_length]; omega)]
    refine Ev.step (f := fun _ => some false) (fun k => ?_) (Ev.now _)
    rw [X.spec_l2has.l0, if_neg (by omega)]
  | succ n ih =>
    intro i hn hi
    have e2 : wrap64 ((i : Int) + 1) = ((i + 1 : Nat) : Int) := by rw [wrap_id _ (by omega) (by omega)]; omega
    have hi' : i < s.data.toList.length := by rw [data_length]; omega
    rw [List.drop_eq_getElem_cons hi']
    have hb := bt_get s i (by omega)
    by_cases h : s.data.toList[i] = c
    · refine Ev.step (f := fun _ => some true) (fun k => ?_) ?_
      · rw [X.spec_l2has.l0, if_pos (by omega), if_pos (by omega), hb, if_pos (by rw [h])]
      · rw [h]; simp; exact Ev.now _
    · refine Ev.step (f := fun k => X.spec_l2has.l0 k s (c.toNat : Int) ((i + 1 : Nat) : Int)) (fun k => ?_) ?_
      · rw [X.spec_l2has.l0, if_pos (by omega), if_pos (by omega), hb, if_neg (by rw [byte_iff]; exact h), e2]
      · have := ih (i + 1) (by omega) (by omega)
        have e : (s.data.toList[i] :: s.data.toList.drop (i + 1)).contains c = (s.data.toList.drop (i + 1)).contains c := by
          rw [List.contains_cons, beq_eq_false_iff_ne.2 (Ne.symm h), Bool.false_or]
        rw [e]; exact this
theorem has_ev (s : ByteArray) (hs : s.size ≤ 8796093022208) (c : UInt8) : Ev (fun k => X.spec_l2has.f k s (c.toNat : Int)) (s.data.toList.contains c) := by
  have := has_all s hs c s.size 0 (by omega) (by omega)
  rw [List.drop_zero] at this
  exact this
/-- The pieces, and those of SplitAfter. -/
theorem after_split (sep : ByteArray) (h1 : 1 ≤ sep.size) : ∀ (k : Nat) (s : ByteArray), ∃ qs last, Lib.splitB sep 0 k s = qs ++ [last] ∧ Lib.splitB sep sep.size k s = qs.map (· ++ sep) ++ [last]
  | 0, s => ⟨[], s, rfl, rfl⟩
  | k + 1, s => by
    rcases Lib.indexB_cases s sep with h | ⟨i, h, hr⟩
    · exact ⟨[], s, Lib.splitB_miss _ _ _ _ h, Lib.splitB_miss _ _ _ _ h⟩
    · obtain ⟨qs, last, e1, e2⟩ := after_split sep h1 k (s.extract (i + sep.size) s.size)
      refine ⟨s.extract 0 i :: qs, last, ?_, ?_⟩
      · rw [Lib.splitB_hit sep 0 k s i h, e1]; rfl
      · rw [Lib.splitB_hit sep sep.size k s i h, e2]
        have hx : s.extract 0 (i + sep.size) = s.extract 0 i ++ sep := by
          rcases Lib.index_spec s.data.toList sep.data.toList with ⟨hm, _⟩ | ⟨j, hm, _, hocc, _⟩
          · have : Lib.indexB s sep = -1 := hm
            omega
          · have hij : j = i := by
              have : Lib.indexB s sep = (j : Int) := hm
              omega
            subst hij
            have := (occ_at s sep j hr).2 hocc
            rw [ByteArray.toList_eq, ByteArray.toList_eq] at this
            apply ByteArray.ext
            apply Array.ext'
            rw [data_extract, ByteArray.data_append, Array.toList_append, data_extract, ← this, data_extract]
            simp only [List.drop_zero]
            have t := List.take_append_drop j (s.data.toList.take (j + sep.size))
            rw [List.take_take, Nat.min_eq_left (by omega)] at t
            exact t.symm
        rw [hx]; rfl
def crlf : ByteArray := ⟨#[13, 10]⟩
/-- A body's lines, and what stands behind the last line's end. -/
theorem lines_of (s : ByteArray) : ∃ qs last, sp s crlf = qs ++ [last] ∧ Lib.splitB crlf crlf.size (X.pieces s crlf - 1) s = qs.map (· ++ crlf) ++ [last] := by
  obtain ⟨qs, last, e1, e2⟩ := after_split crlf (by decide) (X.pieces s crlf - 1) s
  exact ⟨qs, last, by rw [← sp_pieces s crlf (by decide)]; exact e1, e2⟩
theorem containsAny_iff (l cs : List UInt8) : Lib.containsAny l cs = l.any (fun b => cs.contains b) := by
  unfold Lib.containsAny
  induction l with
  | nil => rfl
  | cons b l ih =>
    rw [Lib.indexAny, List.any_cons, ← ih]
    have := Lib.indexAny_ge cs l
    cases h : cs.contains b with
    | true => simp
    | false =>
      by_cases h1 : Lib.indexAny l cs = -1
      · simp [h1]
      · rw [if_neg (by simp), if_neg (by simpa using h1)]; simp; omega
end Go.Proofs.YtnhhbdhkhdbanaaDoor.Pure
