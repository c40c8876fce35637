/- The helpers of the laws, second part: bools and verdicts. Plain Lean. -/
import Derived.Test.YtnhhbdhkhdbanaaDoorX1
import Derived.Test.YtnhhbdhkhdbanaaDoorX1
import Derived.Test.YtnhhbdhkhdbanaaDoorX5
import Derived.Test.YtnhhbdhkhdbanaaDoorX5
import Derived.Test.YtnhhbdhkhdbanaaDoorX1
import Derived.Test.YtnhhbdhkhdbanaaDoorX1
import Derived.Test.YtnhhbdhkhdbanaaDoorPLaw
namespace Go.Proofs.YtnhhbdhkhdbanaaDoor.Pure
open Go Go.RowKit Go.Proofs.YtnhhbdhkhdbanaaDoorW.PrintWords
set_option linter.unusedVariables false
set_option linter.unusedSimpArgs false
abbrev VL := X.S130
abbrev VI := X.S90
def toV (x : VL) : VI := ⟨x.f0, x.f1, x.f2⟩
theorem rdL (xs : List VL) (i : Nat) (h : i < xs.length) : X.rd_T130 xs (i : Int) = xs[i] := by
  unfold X.rd_T130; rw [Int.toNat_natCast, List.getD_eq_getElem?_getD, List.getElem?_eq_getElem h]; rfl
theorem rdI (xs : List VI) (i : Nat) (h : i < xs.length) : X.rd_T90 xs (i : Int) = xs[i] := by
  unfold X.rd_T90; rw [Int.toNat_natCast, List.getD_eq_getElem?_getD, List.getElem?_eq_getElem h]; rfl
theorem rd_b (xs : List Bool) (i : Nat) (h : i < xs.length) : rdOf false xs (i : Int) = xs[i] := by
  unfold rdOf; rw [Int.toNat_natCast, List.getD_eq_getElem?_getD, List.getElem?_eq_getElem h]; rfl
theorem szBool_f (xs : List Bool) (hl : xs.length ≤ maxLen) (a : Int) (h0 : 0 ≤ a) (h1 : a ≤ 1048576) : ∃ t, X.laws_szBoolS.f xs a = some t ∧ (t = -1 ∨ (0 ≤ t ∧ t ≤ a ∧ (xs.length : Int) ≤ a)) := by
  simp only [maxLen] at hl
  have ew : wrap64 (a - (xs.length : Int)) = a - (xs.length : Int) := wrap_id _ (by omega) (by omega)
  unfold X.laws_szBoolS.f
  rw [ew]
  by_cases hneg : a - (xs.length : Int) < 0
  · exact ⟨-1, by rw [if_pos hneg], .inl rfl⟩
  · exact ⟨_, by rw [if_neg hneg], .inr ⟨by omega, by omega, by omega⟩⟩
theorem szVerdict_l0 (xs : List VL) (hl : xs.length ≤ 1048576) (hx : ∀ p ∈ xs, p.f2.size ≤ maxLen) : ∀ (n i : Nat) (a : Int), xs.length - i = n → i ≤ xs.length → 0 ≤ a → a ≤ 1048576 →
    ∃ t, Ev (fun k => X.laws_szVerdictS.l0 k xs a (i : Int)) t ∧ (t = -1 ∨ (0 ≤ t ∧ t ≤ a ∧ ∀ p ∈ xs.drop i, (p.f2.size : Int) ≤ a)) := by
  simp only [maxLen] at hx
  intro n
  induction n with
  | zero =>
    intro i a hn hi h0 h1
    refine ⟨a, Ev.step (f := fun _ => some a) (fun k => ?_) (Ev.now _), .inr ⟨h0, Int.le_refl _, ?_⟩⟩
    · rw [X.laws_szVerdictS.l0, if_neg (by omega)]
    · rw [List.drop_of_length_le (by omega)]; intro p hp; cases hp
  | succ n ih =>
    intro i a hn hi h0 h1
    have e2 : wrap64 ((i : Int) + 1) = ((i + 1 : Nat) : Int) := by rw [wrap_id _ (by omega) (by omega)]; omega
    have hi' : i < xs.length := by omega
    have hr := rdL xs i hi'
    have hz := hx _ (List.getElem_mem hi')
    rw [List.drop_eq_getElem_cons hi']
    generalize xs[i] = q at hr hz ⊢
    have ew : wrap64 (a - (q.f2.size : Int)) = a - (q.f2.size : Int) := wrap_id _ (by omega) (by omega)
    by_cases hneg : a - (q.f2.size : Int) < 0
    · refine ⟨-1, Ev.step (f := fun _ => some (-1)) (fun k => ?_) (Ev.now _), .inl rfl⟩
      rw [X.laws_szVerdictS.l0, if_pos (by omega), if_pos (by omega), hr]
      unfold X.laws_szVerdict.f
      rw [ew, if_pos hneg, Option.bind_some, if_pos (by decide)]
    · obtain ⟨t, ht, hp⟩ := ih (i + 1) (a - (q.f2.size : Int)) (by omega) (by omega) (by omega) (by omega)
      refine ⟨t, Ev.step (f := fun k => X.laws_szVerdictS.l0 k xs (a - (q.f2.size : Int)) ((i + 1 : Nat) : Int)) (fun k => ?_) ht, ?_⟩
      · rw [X.laws_szVerdictS.l0, if_pos (by omega), if_pos (by omega), hr]
        unfold X.laws_szVerdict.f
        rw [ew, if_neg hneg, Option.bind_some, if_neg hneg, e2]
      · rcases hp with hp | ⟨p0, p1, p2⟩
        · exact .inl hp
        · refine .inr ⟨p0, by omega, fun p hp => ?_⟩
          rcases List.mem_cons.1 hp with rfl | hp
          · omega
          · have := p2 p hp; omega
theorem szVerdict_f (xs : List VL) (hl : xs.length ≤ maxLen) (hx : ∀ p ∈ xs, p.f2.size ≤ maxLen) (a : Int) (h0 : 0 ≤ a) (h1 : a ≤ 1048576) :
    ∃ t, Ev (fun k => X.laws_szVerdictS.f k xs a) t ∧ (t = -1 ∨ (0 ≤ t ∧ t ≤ a ∧ (xs.length : Int) ≤ a ∧ ∀ p ∈ xs, (p.f2.size : Int) ≤ a)) := by
  simp only [maxLen] at hl
  have ew : wrap64 (a - (xs.length : Int)) = a - (xs.length : Int) := wrap_id _ (by omega) (by omega)
  by_cases hneg : a - (xs.length : Int) < 0
  · refine ⟨-1, Ev.congr (f := fun _ => some (-1)) (fun k => ?_) (Ev.now _), .inl rfl⟩
    unfold X.laws_szVerdictS.f; rw [ew, if_pos hneg]
  · obtain ⟨t, ht, hp⟩ := szVerdict_l0 xs (by omega) hx xs.length 0 (a - (xs.length : Int)) (by omega) (by omega) (by omega) (by omega)
    refine ⟨t, Ev.congr (f := fun k => X.laws_szVerdictS.l0 k xs (a - (xs.length : Int)) 0) (fun k => ?_) ht, ?_⟩
    · unfold X.laws_szVerdictS.f; rw [ew, if_neg hneg]
    · rw [List.drop_zero] at hp
      rcases hp with hp | ⟨p0, p1, p2⟩
      · exact .inl hp
      · exact .inr ⟨p0, by omega, by omega, fun p hp => by have := p2 p hp; omega⟩
theorem toBool_l0 (xs : List Bool) (hl : xs.length ≤ 1048576) : ∀ (n i : Nat) (ys : List Bool), xs.length - i = n → i ≤ xs.length → ys.length = xs.length → ys.take i = xs.take i →
    Ev (fun k => X.laws_toBoolS.l0 k xs ys (i : Int)) xs := by
  intro n
  induction n with
  | zero =>
    intro i ys hn hi hy ht
    have : ys = xs := by
      rw [List.take_of_length_le (by omega), List.take_of_length_le (by omega)] at ht; exact ht
    subst this
    refine Ev.step (f := fun _ => some ys) (fun k => ?_) (Ev.now _)
    rw [X.laws_toBoolS.l0, if_neg (by omega)]
  | succ n ih =>
    intro i ys hn hi hy ht
    have e2 : wrap64 ((i : Int) + 1) = ((i + 1 : Nat) : Int) := by rw [wrap_id _ (by omega) (by omega)]; omega
    have hi' : i < xs.length := by omega
    have hr := rd_b xs i hi'
    refine Ev.step (f := fun k => X.laws_toBoolS.l0 k xs (ys.set i xs[i]) ((i + 1 : Nat) : Int)) (fun k => ?_) (ih (i + 1) (ys.set i xs[i]) (by omega) (by omega) (by rw [List.length_set]; exact hy) ?_)
    · rw [X.laws_toBoolS.l0, if_pos (by omega), if_pos (by omega), if_pos (by omega), hr, e2, Int.toNat_natCast]
    · rw [List.take_succ_eq_append_getElem (by rw [List.length_set]; omega), List.take_succ_eq_append_getElem hi', List.getElem_set_self, List.take_set, List.set_eq_of_length_le (by rw [List.length_take]; omega), ht]
theorem toBool_f (xs : List Bool) (hl : xs.length ≤ 1048576) : Ev (fun k => X.laws_toBoolS.f k xs) xs := by
  refine Ev.congr (f := fun k => X.laws_toBoolS.l0 k xs (List.replicate xs.length false) 0) (fun k => ?_) (toBool_l0 xs hl xs.length 0 _ (by omega) (by omega) (by simp) (by simp))
  unfold X.laws_toBoolS.f
  rw [if_pos (by omega), if_pos (by omega), Int.toNat_natCast]
theorem toVerdict_l0 (xs : List VL) (hl : xs.length ≤ 1048576) : ∀ (n i : Nat) (ys : List VI), xs.length - i = n → i ≤ xs.length → ys.length = xs.length → ys.take i = (xs.map toV).take i →
    Ev (fun k => X.laws_toVerdictS.l0 k xs ys (i : Int)) (xs.map toV) := by
  intro n
  induction n with
  | zero =>
    intro i ys hn hi hy ht
    have : ys = xs.map toV := by
      rw [List.take_of_length_le (by omega), List.take_of_length_le (by rw [List.length_map]; omega)] at ht; exact ht
    subst this
    refine Ev.step (f := fun _ => some (xs.map toV)) (fun k => ?_) (Ev.now _)
    rw [X.laws_toVerdictS.l0, if_neg (by omega)]
  | succ n ih =>
    intro i ys hn hi hy ht
    have e2 : wrap64 ((i : Int) + 1) = ((i + 1 : Nat) : Int) := by rw [wrap_id _ (by omega) (by omega)]; omega
    have hi' : i < xs.length := by omega
    have hr := rdL xs i hi'
    refine Ev.step (f := fun k => X.laws_toVerdictS.l0 k xs (ys.set i (toV xs[i])) ((i + 1 : Nat) : Int)) (fun k => ?_) (ih (i + 1) (ys.set i (toV xs[i])) (by omega) (by omega) (by rw [List.length_set]; exact hy) ?_)
    · rw [X.laws_toVerdictS.l0, if_pos (by omega), if_pos (by omega), hr]
      unfold X.laws_toVerdict.f
      rw [Option.bind_some, if_pos (by omega), e2, Int.toNat_natCast]; rfl
    · rw [List.take_succ_eq_append_getElem (by rw [List.length_set]; omega), List.take_succ_eq_append_getElem (by rw [List.length_map]; exact hi'), List.getElem_set_self, List.take_set, List.set_eq_of_length_le (by rw [List.length_take]; omega), ht, List.getElem_map]
theorem toVerdict_f (xs : List VL) (hl : xs.length ≤ 1048576) : Ev (fun k => X.laws_toVerdictS.f k xs) (xs.map toV) := by
  refine Ev.congr (f := fun k => X.laws_toVerdictS.l0 k xs (List.replicate xs.length X.z90) 0) (fun k => ?_) (toVerdict_l0 xs hl xs.length 0 _ (by omega) (by omega) (by simp) (by simp))
  unfold X.laws_toVerdictS.f
  rw [if_pos (by omega), if_pos (by omega), Int.toNat_natCast]
theorem eqBool_l0 (xs : List Bool) (hl : xs.length ≤ 1048576) : ∀ (n i : Nat), xs.length - i = n → i ≤ xs.length → Ev (fun k => X.laws_eqBoolS.l0 k xs xs (i : Int)) true := by
  intro n
  induction n with
  | zero =>
    intro i hn hi
    refine Ev.step (f := fun _ => some true) (fun k => ?_) (Ev.now _)
    rw [X.laws_eqBoolS.l0, if_neg (by omega)]
  | succ n ih =>
    intro i hn hi
    have e2 : wrap64 ((i : Int) + 1) = ((i + 1 : Nat) : Int) := by rw [wrap_id _ (by omega) (by omega)]; omega
    refine Ev.step (f := fun k => X.laws_eqBoolS.l0 k xs xs ((i + 1 : Nat) : Int)) (fun k => ?_) (ih (i + 1) (by omega) (by omega))
    rw [X.laws_eqBoolS.l0, if_pos (by omega), if_pos (by omega), if_pos (by omega), if_neg (by simp), e2]
theorem eqBool_f (xs : List Bool) (hl : xs.length ≤ 1048576) : Ev (fun k => X.laws_eqBoolS.f k xs xs) true := by
  refine Ev.congr (f := fun k => X.laws_eqBoolS.l0 k xs xs 0) (fun k => ?_) (eqBool_l0 xs hl xs.length 0 (by omega) (by omega))
  unfold X.laws_eqBoolS.f
  rw [if_pos rfl]
theorem eqVerdict_l0 (xs : List VI) (hl : xs.length ≤ 1048576) : ∀ (n i : Nat), xs.length - i = n → i ≤ xs.length → Ev (fun k => X.laws_eqVerdictS.l0 k xs xs (i : Int)) true := by
  intro n
  induction n with
  | zero =>
    intro i hn hi
    refine Ev.step (f := fun _ => some true) (fun k => ?_) (Ev.now _)
    rw [X.laws_eqVerdictS.l0, if_neg (by omega)]
  | succ n ih =>
    intro i hn hi
    have e2 : wrap64 ((i : Int) + 1) = ((i + 1 : Nat) : Int) := by rw [wrap_id _ (by omega) (by omega)]; omega
    refine Ev.step (f := fun k => X.laws_eqVerdictS.l0 k xs xs ((i + 1 : Nat) : Int)) (fun k => ?_) (ih (i + 1) (by omega) (by omega))
    rw [X.laws_eqVerdictS.l0, if_pos (by omega), if_pos (by omega), if_pos (by omega)]
    unfold X.laws_eqVerdict.f
    rw [if_pos rfl, if_pos rfl, if_pos rfl, Option.bind_some, if_pos rfl, e2]
theorem eqVerdict_f (xs : List VI) (hl : xs.length ≤ 1048576) : Ev (fun k => X.laws_eqVerdictS.f k xs xs) true := by
  refine Ev.congr (f := fun k => X.laws_eqVerdictS.l0 k xs xs 0) (fun k => ?_) (eqVerdict_l0 xs hl xs.length 0 (by omega) (by omega))
  unfold X.laws_eqVerdictS.f
  rw [if_pos rfl]
end Go.Proofs.YtnhhbdhkhdbanaaDoor.Pure
