/- What the two ValidDomain answer: one law. Plain Lean. -/
import Derived.Test.YtnhhbdhkhdbanaaDoorOX7
import Derived.Test.YtnhhbdhkhdbanaaDoorOX1
import Derived.Test.YtnhhbdhkhdbanaaDoorOPBas
import Derived.Test.YtnhhbdhkhdbanaaDoorOGAll
namespace Go.Proofs.YtnhhbdhkhdbanaaDoor.Pure
open Go Go.RowKit Go.Proofs.YtnhhbdhkhdbanaaDoorW.PrintWords
set_option linter.unusedVariables false
theorem l2letter_f (c : Int) : X.spec_l2letter.f c = some (X.isLetterB c || X.isDigitB c) := by
  unfold X.spec_l2letter.f X.isLetterB X.isDigitB
  by_cases h1 : c ≥ 97 <;> by_cases h2 : c ≤ 122 <;> by_cases h3 : c ≥ 48 <;> by_cases h4 : c ≤ 57 <;> simp [h1, h2, h3, h4] <;> omega
def labB (p : ByteArray) : Bool := decide (1 ≤ p.size) && decide (p.size ≤ 63) && !(bt p 0 == 45) && !(bt p ((p.size : Int) - 1) == 45) && X.allB X.domB p
theorem label_l0 (p : ByteArray) (hs : p.size ≤ 8796093022208) : ∀ (n i : Nat), p.size - i = n → i ≤ p.size → ∃ k b, X.spec_l2label.l0 k p (i : Int) = some b ∧ (b = true ↔ ∀ j : Nat, i ≤ j → j < p.size → X.domB (bt p j) = true) := by
  intro n
  induction n with
  | zero =>
    intro i hn hi
    refine ⟨1, true, ?_, by simp; omega⟩
    unfold X.spec_l2label.l0
    rw [if_neg (by omega)]
  | succ n ih =>
    intro i hn hi
    have e2 : wrap64 ((i : Int) + 1) = ((i + 1 : Nat) : Int) := by rw [wrap_id _ (by omega) (by omega)]; omega
    obtain ⟨k, b, hk, hb⟩ := ih (i + 1) (by omega) (by omega)
    by_cases hd : X.domB (bt p i) = true
    · refine ⟨k + 1, b, ?_, ?_⟩
      · unfold X.spec_l2label.l0
        rw [if_pos (by omega), if_pos (by omega), l2letter_f, Option.bind_some, e2]
        simp only [X.domB, Bool.or_eq_true, beq_iff_eq] at hd
        by_cases h1 : (X.isLetterB (bt p i) || X.isDigitB (bt p i)) = true
        · rw [if_pos h1, hk]
        · rw [if_neg h1, if_pos (by simp only [Bool.or_eq_true] at h1; exact hd.resolve_left h1), hk]
      · rw [hb]
        constructor
        · intro h j h1 h2
          rcases Nat.eq_or_lt_of_le h1 with rfl | h3
          · exact hd
          · exact h j h3 h2
        · exact fun h j h1 h2 => h j (by omega) h2
    · refine ⟨1, false, ?_, ?_⟩
      · unfold X.spec_l2label.l0
        simp only [X.domB, Bool.or_eq_true, beq_iff_eq, not_or] at hd
        rw [if_pos (by omega), if_pos (by omega), l2letter_f, Option.bind_some, if_neg (by simp only [Bool.or_eq_true, not_or]; exact hd.1), if_neg hd.2]
      · simp only [Bool.false_eq_true, false_iff]
        exact fun h => hd (h i (Nat.le_refl _) (by omega))
theorem label_f (p : ByteArray) (hs : p.size ≤ 8796093022208) : Ev (fun k => X.spec_l2label.f k p) (labB p) := by
  have hb : ∃ k, X.spec_l2label.f k p = some (labB p) := by
    unfold X.spec_l2label.f labB
    by_cases h1 : (p.size : Int) < 1
    · refine ⟨1, ?_⟩
      rw [if_pos h1, decide_eq_false (p := 1 ≤ p.size) (by omega)]
      unfold X.spec_l2label.j0; simp
    by_cases h2 : (p.size : Int) > 63
    · refine ⟨1, ?_⟩
      rw [if_neg h1, if_pos h2, decide_eq_false (p := p.size ≤ 63) (by omega)]
      unfold X.spec_l2label.j0; simp
    have g1 : decide (1 ≤ p.size) = true := by simp; omega
    have g2 : decide (p.size ≤ 63) = true := by simp; omega
    have e1 : wrap64 ((p.size : Int) - 1) = (p.size : Int) - 1 := wrap_id _ (by omega) (by omega)
    by_cases h3 : bt p 0 = 45
    · refine ⟨1, ?_⟩
      rw [if_neg h1, if_neg h2, if_pos (by omega), if_pos h3, h3]
      unfold X.spec_l2label.j0; simp
    by_cases h4 : bt p ((p.size : Int) - 1) = 45
    · refine ⟨1, ?_⟩
      rw [if_neg h1, if_neg h2, if_pos (by omega), if_neg h3, e1, if_pos (by omega), if_pos (by omega), h4]
      unfold X.spec_l2label.j0; simp
    obtain ⟨k, b, hk, hb⟩ := label_l0 p hs p.size 0 (by omega) (by omega)
    refine ⟨k + 1, ?_⟩
    rw [if_neg h1, if_neg h2, if_pos (by omega), if_neg h3, e1, if_pos (by omega), if_pos (by omega), g1, g2]
    have h4' : (bt p ((p.size : Int) - 1) == 45) = false := by simpa using h4
    have h3' : (bt p 0 == 45) = false := by simpa using h3
    rw [h4', h3']
    rw [X.spec_l2label.j0, if_neg (by decide), show (0 : Int) = ((0 : Nat) : Int) from rfl, hk]
    congr 1
    rw [Bool.eq_iff_iff, hb]
    simp only [Bool.true_and, Bool.and_true, Bool.not_false]
    rw [X.allB_iff]
    exact ⟨fun h j hj => h j (Nat.zero_le _) hj, fun h j _ hj => h j hj⟩
  obtain ⟨k, hk⟩ := hb
  exact Ev.of (fun k => X.spec_l2label.mono p k) hk
theorem domain_l0 (xs : List ByteArray) (hl : xs.length ≤ 8796093022208) (hx : ∀ p ∈ xs, p.size ≤ 8796093022208) : ∀ (n i : Nat), xs.length - i = n → i ≤ xs.length → ∃ k, X.spec_ValidDomain.l0 k xs (xs.length : Int) (i : Int) = some ((xs.drop i).all labB) := by
  intro n
  induction n with
  | zero =>
    intro i hn hi
    refine ⟨1, ?_⟩
    unfold X.spec_ValidDomain.l0
    rw [if_neg (by omega), List.drop_of_length_le (by omega)]; rfl
  | succ n ih =>
    intro i hn hi
    have e2 : wrap64 ((i : Int) + 1) = ((i + 1 : Nat) : Int) := by rw [wrap_id _ (by omega) (by omega)]; omega
    obtain ⟨k, hk⟩ := ih (i + 1) (by omega) (by omega)
    have hi' : i < xs.length := by omega
    obtain ⟨K, hK⟩ := label_f xs[i] (hx _ (List.getElem_mem hi'))
    rw [List.drop_eq_getElem_cons hi', List.all_cons]
    refine ⟨max k K + 1, ?_⟩
    unfold X.spec_ValidDomain.l0
    have h1 : X.spec_l2label.f (max k K) xs[i] = some (labB xs[i]) := hK (max k K) (Nat.le_max_right _ _)
    rw [if_pos (by omega), if_pos (by omega), if_pos (by omega), rd_get xs i hi', h1, Option.bind_some, e2]
    have h2 : X.spec_ValidDomain.l0 (max k K) xs (xs.length : Int) ((i + 1 : Nat) : Int) = some ((xs.drop (i + 1)).all labB) := at_rounds (g := fun k => X.spec_ValidDomain.l0 k xs (xs.length : Int) ((i + 1 : Nat) : Int)) (fun k => X.spec_ValidDomain.mono_l k _ _ _) (Nat.le_max_left _ _) hk
    by_cases hb : labB xs[i] = true
    · rw [if_pos hb, h2, hb, Bool.true_and]
    · rw [if_neg hb]; simp only [Bool.not_eq_true] at hb; rw [hb, Bool.false_and]
def domainB (s : ByteArray) : Bool := decide (s.size ≤ 100) && (sp s ⟨#[46]⟩).all labB
theorem specDomain_f (s : ByteArray) : Ev (fun k => X.spec_ValidDomain.f k s) (domainB s) := by
  by_cases h : (s.size : Int) > 100
  · refine ⟨0, fun k _ => ?_⟩
    show X.spec_ValidDomain.f k s = _
    unfold X.spec_ValidDomain.f domainB
    rw [if_pos h, decide_eq_false (p := s.size ≤ 100) (by omega)]; rfl
  · have hl := sp_len s ⟨#[46]⟩ (by decide)
    obtain ⟨k, hk⟩ := domain_l0 (sp s ⟨#[46]⟩) (by omega) (fun p hp => by have := sp_sizes ⟨#[46]⟩ s.size _ s (Nat.le_refl _) p hp; omega) _ 0 rfl (Nat.zero_le _)
    rw [List.drop_zero] at hk
    have h2 : Ev (fun k => X.spec_ValidDomain.l0 k (sp s ⟨#[46]⟩) ((sp s ⟨#[46]⟩).length : Int) 0) ((sp s ⟨#[46]⟩).all labB) := Ev.of (fun k => X.spec_ValidDomain.mono_l k _ _ _) hk
    refine Ev.congr (f := fun k => (X.spec_l2split.f k s (⟨#[46]⟩ : ByteArray)).bind fun t108 => (X.spec_ValidDomain.l0 k t108 (t108.length : Int) 0)) (fun k => ?_) ?_
    · unfold X.spec_ValidDomain.f; rw [if_neg h]
    · unfold domainB
      rw [decide_eq_true (p := s.size ≤ 100) (by omega), Bool.true_and]
      exact Ev.bind (l2split_f s ⟨#[46]⟩ (by decide) (by omega) (by decide)) h2
theorem implDomain_l0 (xs : List ByteArray) (hl : xs.length ≤ 8796093022208) (hx : ∀ p ∈ xs, p.size ≤ 8796093022208) : ∀ (n i : Nat), xs.length - i = n → i ≤ xs.length → ∃ k, X.impl_ValidDomain.l0 k xs (xs.length : Int) (i : Int) = some ((xs.drop i).all labB) := by
  intro n
  induction n with
  | zero =>
    intro i hn hi
    refine ⟨1, ?_⟩
    unfold X.impl_ValidDomain.l0
    rw [if_neg (by omega), List.drop_of_length_le (by omega)]; rfl
  | succ n ih =>
    intro i hn hi
    have e2 : wrap64 ((i : Int) + 1) = ((i + 1 : Nat) : Int) := by rw [wrap_id _ (by omega) (by omega)]; omega
    obtain ⟨k, hk⟩ := ih (i + 1) (by omega) (by omega)
    have hi' : i < xs.length := by omega
    have hz := hx _ (List.getElem_mem hi')
    rw [List.drop_eq_getElem_cons hi', List.all_cons]
    refine ⟨k + 1, ?_⟩
    unfold X.impl_ValidDomain.l0
    rw [if_pos (by omega), if_pos (by omega), if_pos (by omega), rd_get xs i hi', e2]
    generalize xs[i] = p at hz ⊢
    rw [show labB p = (decide (1 ≤ p.size) && decide (p.size ≤ 63) && !(bt p 0 == 45) && !(bt p ((p.size : Int) - 1) == 45) && X.allB X.domB p) from rfl]
    by_cases h1 : (p.size : Int) < 1
    · rw [if_pos h1, decide_eq_false (p := 1 ≤ p.size) (by omega)]; rfl
    by_cases h2 : (p.size : Int) > 63
    · rw [if_neg h1, if_pos h2, decide_eq_false (p := p.size ≤ 63) (by omega)]; simp
    have g1 : decide (1 ≤ p.size) = true := by simp; omega
    have g2 : decide (p.size ≤ 63) = true := by simp; omega
    have e1 : wrap64 ((p.size : Int) - 1) = (p.size : Int) - 1 := wrap_id _ (by omega) (by omega)
    rw [if_neg h1, if_neg h2, if_pos (by omega), g1, g2, e1]
    by_cases h3 : bt p 0 = 45
    · rw [if_pos h3, h3]; simp
    rw [if_neg h3, if_pos (by omega), if_pos (by omega)]
    by_cases h4 : bt p ((p.size : Int) - 1) = 45
    · rw [if_pos h4, h4]; simp
    have h4' : (bt p ((p.size : Int) - 1) == 45) = false := by simpa using h4
    have h3' : (bt p 0 == 45) = false := by simpa using h3
    rw [if_neg h4, h3', h4']
    unfold X.impl_all_impl_ValidDomain_1.f
    rw [if_pos (by omega), Option.bind_some, hk]
    by_cases h5 : X.allB X.domB p = true
    · rw [if_pos h5, h5]; simp
    · rw [if_neg h5]; simp only [Bool.not_eq_true] at h5; rw [h5]; simp
theorem implDomain_f (s : ByteArray) (hs : s.size < 4294967281) : Ev (fun k => X.impl_ValidDomain.f k s) (domainB s) := by
  suffices h : ∃ k, X.impl_ValidDomain.f k s = some (domainB s) by
    obtain ⟨k, hk⟩ := h
    exact Ev.of (fun k => X.impl_ValidDomain.mono s k) hk
  unfold X.impl_ValidDomain.f domainB
  by_cases h1 : (s.size : Int) < 1
  · refine ⟨1, ?_⟩
    have hsz : s.size = 0 := by omega
    obtain rfl : s = ByteArray.empty := by
      apply ByteArray.ext; apply Array.eq_empty_of_size_eq_zero; exact hsz
    rw [if_pos h1]
    rw [X.impl_ValidDomain.j0, if_pos rfl]
    rw [sp_miss _ _ (by rfl)]; simp [labB]
  simp only [if_neg h1]
  by_cases h2 : (s.size : Int) > 100
  · refine ⟨1, ?_⟩
    rw [X.impl_ValidDomain.j0, if_pos (by simpa using h2), decide_eq_false (p := s.size ≤ 100) (by omega)]; rfl
  · have hl := sp_len s ⟨#[46]⟩ (by decide)
    obtain ⟨k, hk⟩ := implDomain_l0 (sp s ⟨#[46]⟩) (by omega) (fun p hp => by have := sp_sizes ⟨#[46]⟩ s.size _ s (Nat.le_refl _) p hp; omega) _ 0 rfl (Nat.zero_le _)
    refine ⟨k + 1, ?_⟩
    rw [X.impl_ValidDomain.j0, if_neg (by simpa using h2), split_f s ⟨#[46]⟩ (by decide) hs, Option.bind_some, decide_eq_true (p := s.size ≤ 100) (by omega), Bool.true_and]
    rw [List.drop_zero] at hk
    exact hk
end Go.Proofs.YtnhhbdhkhdbanaaDoor.Pure
