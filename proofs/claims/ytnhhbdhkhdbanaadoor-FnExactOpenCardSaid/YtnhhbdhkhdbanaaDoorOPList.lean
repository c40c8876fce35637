/- Pieces at one byte, on lists. Plain Lean. -/
import Derived.Test.YtnhhbdhkhdbanaaDoorOPSplit
namespace Go.Proofs.YtnhhbdhkhdbanaaDoor.Pure
open Go Go.RowKit Go.Proofs.YtnhhbdhkhdbanaaDoorW.PrintWords
set_option linter.unusedVariables false
def splitC (c : UInt8) : List UInt8 → List (List UInt8)
  | [] => [[]]
  | b :: l => if b = c then [] :: splitC c l else match splitC c l with
    | [] => [[b]]
    | p :: ps => (b :: p) :: ps
theorem splitC_ne (c : UInt8) (l : List UInt8) : ∃ p ps, splitC c l = p :: ps := by
  cases l with
  | nil => exact ⟨_, _, rfl⟩
  | cons b l =>
    unfold splitC
    split
    · exact ⟨_, _, rfl⟩
    · split <;> exact ⟨_, _, rfl⟩
theorem splitK_eq (c : UInt8) : ∀ (l : List UInt8), Lib.splitK [c] 0 (l.count c) l = splitC c l
  | [] => rfl
  | b :: l => by
    have ih := splitK_eq c l
    by_cases h : b = c
    · subst h
      have hi : Lib.index (b :: l) [b] = 0 := by unfold Lib.index; simp
      rw [List.count_cons_self, Lib.splitK, hi]
      simp only [splitC, if_true]
      rw [if_neg (by decide)]
      simp [ih]
    · have hp : ([c] : List UInt8).isPrefixOf (b :: l) = false := by simp [List.isPrefixOf, Ne.symm h]
      have hi : Lib.index (b :: l) [c] = if Lib.index l [c] == -1 then -1 else Lib.index l [c] + 1 := by rw [Lib.index, hp]; rfl
      rw [List.count_cons_of_ne h]
      simp only [splitC, if_neg h]
      rcases Lib.index_spec l [c] with ⟨h1, _⟩ | ⟨i, h1, h2, h3, _⟩
      · have hm : Lib.index (b :: l) [c] = -1 := by rw [hi, h1]; rfl
        have e1 : ∀ k, Lib.splitK [c] 0 k l = [l] := by intro k; cases k with | zero => rfl | succ k => rw [Lib.splitK, h1]; rfl
        have e2 : ∀ k, Lib.splitK [c] 0 k (b :: l) = [b :: l] := by intro k; cases k with | zero => rfl | succ k => rw [Lib.splitK, hm]; rfl
        rw [e1] at ih
        rw [e2, ← ih]
      · have hm : Lib.index (b :: l) [c] = ((i + 1 : Nat) : Int) := by rw [hi, h1, if_neg (by simp <;> omega)] <;> omega
        have hc : l.count c = (l.count c - 1) + 1 := by
          have : c ∈ l := List.mem_of_getElem? (Lib.occAt_head rfl h3)
          have := List.count_pos_iff.2 this
          omega
        rw [hc, Lib.splitK, h1, if_neg (by simp <;> omega)] at ih
        rw [hc, Lib.splitK, hm, if_neg (by simp <;> omega), ← ih]
        simp [Nat.add_comm, Nat.add_left_comm]
theorem sp_lists (s : ByteArray) (c : UInt8) : (sp s ⟨#[c]⟩).map (·.data.toList) = splitC c s.data.toList := by
  unfold sp
  rw [Lib.splitB_data]
  show Lib.splitK [c] 0 (Lib.count s.data.toList [c]) _ = _
  rw [Lib.count_one, splitK_eq]
theorem splitC_len (c : UInt8) : ∀ l, (splitC c l).length = l.count c + 1
  | [] => rfl
  | b :: l => by
    have ih := splitC_len c l
    unfold splitC
    by_cases h : b = c
    · subst h; simp [ih]
    · rw [if_neg h, List.count_cons_of_ne h, ← ih]
      obtain ⟨p, ps, e⟩ := splitC_ne c l
      rw [e]; rfl
theorem splitC_all (c : UInt8) (Q : UInt8 → Prop) : ∀ l, (∀ p ∈ splitC c l, ∀ x ∈ p, Q x) ↔ ∀ x ∈ l, x ≠ c → Q x
  | [] => by simp [splitC]
  | b :: l => by
    have ih := splitC_all c Q l
    unfold splitC
    by_cases h : b = c
    · subst h; simp [ih]
    · rw [if_neg h]
      obtain ⟨p, ps, e⟩ := splitC_ne c l
      rw [e] at ih ⊢
      simp only [List.forall_mem_cons] at ih ⊢
      rw [← ih]
      exact ⟨fun ⟨⟨h1, h2⟩, h3⟩ => ⟨fun _ => h1, h2, h3⟩, fun ⟨h1, h2, h3⟩ => ⟨⟨h1 h, h2⟩, h3⟩⟩
/-- No two in a row, and the last isn't one. -/
def okTail (c : UInt8) : List UInt8 → Prop
  | [] => True
  | b :: l => if b = c then (∃ d r, l = d :: r ∧ d ≠ c) ∧ okTail c l else okTail c l
theorem splitC_tail (c : UInt8) : ∀ l, (∀ p ∈ (splitC c l).tail, p ≠ []) ↔ okTail c l
  | [] => by simp [splitC, okTail]
  | b :: l => by
    have ih := splitC_tail c l
    unfold splitC okTail
    obtain ⟨p, ps, e⟩ := splitC_ne c l
    by_cases h : b = c
    · rw [if_pos h, if_pos h, ← ih, e]
      simp only [List.tail_cons, List.forall_mem_cons]
      have hp : p ≠ [] ↔ ∃ d r, l = d :: r ∧ d ≠ c := by
        cases l with
        | nil => simp only [splitC, List.cons.injEq] at e; simp [← e.1]
        | cons d r =>
          unfold splitC at e
          by_cases hd : d = c
          · rw [if_pos hd] at e
            simp only [List.cons.injEq] at e
            simp [← e.1, hd]
          · rw [if_neg hd] at e
            obtain ⟨q, qs, e'⟩ := splitC_ne c r
            rw [e'] at e
            simp only [List.cons.injEq] at e
            simp [← e.1, hd]
      rw [hp]
    · rw [if_neg h, if_neg h, ← ih, e]; simp
theorem splitC_good (c : UInt8) (l : List UInt8) : (∀ p ∈ splitC c l, p ≠ []) ↔ (∃ d r, l = d :: r ∧ d ≠ c) ∧ okTail c l := by
  rw [← splitC_tail c l]
  cases l with
  | nil => simp [splitC]
  | cons d r =>
    unfold splitC
    by_cases h : d = c
    · simp [h]
    · rw [if_neg h]
      obtain ⟨q, qs, e'⟩ := splitC_ne c r
      rw [e']; simp [h]
theorem okTail_iff (c : UInt8) : ∀ l, okTail c l ↔ (l.getLast? ≠ some c ∧ Lib.contains l [c, c] = false)
  | [] => by simp [okTail, Lib.contains, Lib.index]
  | b :: l => by
    have ih := okTail_iff c l
    have hc : Lib.contains (b :: l) [c, c] = (([c, c] : List UInt8).isPrefixOf (b :: l) || Lib.contains l [c, c]) := by
      unfold Lib.contains
      rw [Lib.index]
      cases hp : ([c, c] : List UInt8).isPrefixOf (b :: l) with
      | true => simp
      | false =>
        have := Lib.index_ge l [c, c]
        by_cases h1 : Lib.index l [c, c] = -1
        · simp [h1]
        · rw [if_neg (by simp), if_neg (by simpa using h1)]; simp; omega
    unfold okTail
    rw [hc, ih]
    cases l with
    | nil => by_cases h : b = c <;> simp [h, Lib.contains, Lib.index, List.isPrefixOf]
    | cons d r =>
      rw [List.getLast?_cons_cons]
      by_cases h : b = c
      · subst h
        by_cases hd : d = b
        · simp [hd, List.isPrefixOf]
        · have : (b == d) = false := by simpa using Ne.symm hd
          simp [hd, List.isPrefixOf, this]
      · have : (c == b) = false := by simpa using Ne.symm h
        simp [h, List.isPrefixOf, this]
end Go.Proofs.YtnhhbdhkhdbanaaDoor.Pure
