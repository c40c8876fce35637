/- The helpers of the laws: what szStringS, toStringS, eqStringS answer. Plain Lean. -/
import Derived.Test.YtnhhbdhkhdbanaaUX1
import Derived.Test.YtnhhbdhkhdbanaaUX2
import Derived.Test.YtnhhbdhkhdbanaaUPRd
import Derived.Test.YtnhhbdhkhdbanaaUPEqS
namespace Go.Proofs.Ytnhhbdhkhdbanaa.Pure
open Go Go.RowKit Go.Proofs.YtnhhbdhkhdbanaaW.PrintWords
set_option linter.unusedVariables false
set_option linter.unusedSimpArgs false
theorem szString_l0 (xs : List ByteArray) (hl : xs.length ≤ 1048576) (hx : ∀ p ∈ xs, p.size ≤ maxLen) : ∀ (n i : Nat) (a : Int), xs.length - i = n → i ≤ xs.length → 0 ≤ a → a ≤ 1048576 →
    ∃ t, Ev (fun k => X.laws_szStringS.l0 k xs a (i : Int)) t ∧ (t = -1 ∨ (0 ≤ t ∧ t ≤ a ∧ ∀ p ∈ xs.drop i, (p.size : Int) ≤ a)) := by
  simp only [maxLen] at hx
  intro n
  induction n with
  | zero =>
    intro i a hn hi h0 h1
    refine ⟨a, Ev.step (f := fun _ => some a) (fun k => ?_) (Ev.now _), .inr ⟨h0, Int.le_refl _, ?_⟩⟩
    · rw [X.laws_szStringS.l0, if_neg (by omega)]
    · rw [List.drop_of_length_le (by omega)]; intro p hp; cases hp
  | succ n ih =>
    intro i a hn hi h0 h1
    have e2 : wrap64 ((i : Int) + 1) = ((i + 1 : Nat) : Int) := by rw [wrap_id _ (by omega) (by omega)]; omega
    have hi' : i < xs.length := by omega
    have hr := rd_get xs i hi'
    have hz := hx _ (List.getElem_mem hi')
    rw [List.drop_eq_getElem_cons hi']
    generalize xs[i] = q at hr hz ⊢
    have ew : wrap64 (a - (q.size : Int)) = a - (q.size : Int) := wrap_id _ (by omega) (by omega)
    by_cases hneg : a - (q.size : Int) < 0
    · refine ⟨-1, Ev.step (f := fun _ => some (-1)) (fun k => ?_) (Ev.now _), .inl rfl⟩
      rw [X.laws_szStringS.l0, if_pos (by omega), if_pos (by omega), hr, ew, if_pos hneg]
    · obtain ⟨t, ht, hp⟩ := ih (i + 1) (a - (q.size : Int)) (by omega) (by omega) (by omega) (by omega)
      refine ⟨t, Ev.step (f := fun k => X.laws_szStringS.l0 k xs (a - (q.size : Int)) ((i + 1 : Nat) : Int)) (fun k => ?_) ht, ?_⟩
      · rw [X.laws_szStringS.l0, if_pos (by omega), if_pos (by omega), hr, ew, if_neg hneg, e2]
      · rcases hp with hp | ⟨p0, p1, p2⟩
        · exact .inl hp
        · refine .inr ⟨p0, by omega, fun p hp => ?_⟩
          rcases List.mem_cons.1 hp with rfl | hp
          · omega
          · have := p2 p hp; omega
theorem szString_f (xs : List ByteArray) (hl : xs.length ≤ maxLen) (hx : ∀ p ∈ xs, p.size ≤ maxLen) (a : Int) (h0 : 0 ≤ a) (h1 : a ≤ 1048576) :
    ∃ t, Ev (fun k => X.laws_szStringS.f k xs a) t ∧ (t = -1 ∨ (0 ≤ t ∧ t ≤ a ∧ (xs.length : Int) ≤ a ∧ ∀ p ∈ xs, (p.size : Int) ≤ a)) := by
  simp only [maxLen] at hl
  have ew : wrap64 (a - (xs.length : Int)) = a - (xs.length : Int) := wrap_id _ (by omega) (by omega)
  by_cases hneg : a - (xs.length : Int) < 0
  · refine ⟨-1, Ev.congr (f := fun _ => some (-1)) (fun k => ?_) (Ev.now _), .inl rfl⟩
    unfold X.laws_szStringS.f; rw [ew, if_pos hneg]
  · obtain ⟨t, ht, hp⟩ := szString_l0 xs (by omega) hx xs.length 0 (a - (xs.length : Int)) (by omega) (by omega) (by omega) (by omega)
    refine ⟨t, Ev.congr (f := fun k => X.laws_szStringS.l0 k xs (a - (xs.length : Int)) 0) (fun k => ?_) ht, ?_⟩
    · unfold X.laws_szStringS.f; rw [ew, if_neg hneg]
    · rw [List.drop_zero] at hp
      rcases hp with hp | ⟨p0, p1, p2⟩
      · exact .inl hp
      · exact .inr ⟨p0, by omega, by omega, fun p hp => by have := p2 p hp; omega⟩
theorem toString_l0 (xs : List ByteArray) (hl : xs.length ≤ 1048576) : ∀ (n i : Nat) (ys : List ByteArray), xs.length - i = n → i ≤ xs.length → ys.length = xs.length → ys.take i = xs.take i →
    Ev (fun k => X.laws_toStringS.l0 k xs ys (i : Int)) xs := by
  intro n
  induction n with
  | zero =>
    intro i ys hn hi hy ht
    have : ys = xs := by
      rw [List.take_of_length_le (by omega), List.take_of_length_le (by omega)] at ht; exact ht
    subst this
    refine Ev.step (f := fun _ => some ys) (fun k => ?_) (Ev.now _)
    rw [X.laws_toStringS.l0, if_neg (by omega)]
  | succ n ih =>
    intro i ys hn hi hy ht
    have e2 : wrap64 ((i : Int) + 1) = ((i + 1 : Nat) : Int) := by rw [wrap_id _ (by omega) (by omega)]; omega
    have hi' : i < xs.length := by omega
    have hr := rd_get xs i hi'
    refine Ev.step (f := fun k => X.laws_toStringS.l0 k xs (ys.set i xs[i]) ((i + 1 : Nat) : Int)) (fun k => ?_) (ih (i + 1) (ys.set i xs[i]) (by omega) (by omega) (by rw [List.length_set]; exact hy) ?_)
    · rw [X.laws_toStringS.l0, if_pos (by omega), if_pos (by omega), if_pos (by omega), hr, e2, Int.toNat_natCast]
    · rw [List.take_succ_eq_append_getElem (by rw [List.length_set]; omega), List.take_succ_eq_append_getElem hi', List.getElem_set_self, List.take_set, List.set_eq_of_length_le (by rw [List.length_take]; omega), ht]
theorem toString_f (xs : List ByteArray) (hl : xs.length ≤ 1048576) : Ev (fun k => X.laws_toStringS.f k xs) xs := by
  refine Ev.congr (f := fun k => X.laws_toStringS.l0 k xs (List.replicate xs.length (⟨#[]⟩ : ByteArray)) 0) (fun k => ?_) (toString_l0 xs hl xs.length 0 _ (by omega) (by omega) (by simp) (by simp))
  unfold X.laws_toStringS.f
  rw [if_pos (by omega), if_pos (by omega), Int.toNat_natCast]
end Go.Proofs.Ytnhhbdhkhdbanaa.Pure
