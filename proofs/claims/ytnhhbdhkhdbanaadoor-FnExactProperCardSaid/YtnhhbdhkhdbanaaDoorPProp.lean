/- What the two Proper answer: one law. Plain Lean. -/
import Derived.Test.YtnhhbdhkhdbanaaDoorX4
import Derived.Test.YtnhhbdhkhdbanaaDoorX11
import Derived.Test.YtnhhbdhkhdbanaaDoorPLaw2
import Derived.Test.YtnhhbdhkhdbanaaDoorPAddr
import Derived.Test.YtnhhbdhkhdbanaaDoorPLines
namespace Go.Proofs.YtnhhbdhkhdbanaaDoor.Pure
open Go Go.RowKit Go.Proofs.YtnhhbdhkhdbanaaDoorW.PrintWords
set_option linter.unusedVariables false
set_option linter.unusedSimpArgs false
def codeB (c : Int) : Bool := decide (c = 0) || (decide (c ≥ 200) && decide (c ≤ 599))
theorem code_s (c : Int) : X.spec_l4code.f c = some (codeB c) := by
  unfold X.spec_l4code.f codeB
  by_cases h : c = 0
  · rw [if_pos h]; simp [h]
  · by_cases h1 : c ≥ 200
    · rw [if_neg h, if_pos h1]; simp [h, h1]
    · rw [if_neg h, if_neg h1]; simp [h, h1]
theorem code_i (c : Int) : X.impl_codeOk.f c = some (codeB c) := by
  unfold X.impl_codeOk.f codeB
  by_cases h : c = 0
  · rw [if_pos h]; simp [h]
  · by_cases h1 : c ≥ 200
    · rw [if_neg h, if_pos h1]; simp [h, h1]
    · rw [if_neg h, if_neg h1]; simp [h, h1]
def verdB (v : VI) : Bool := decide (0 ≤ v.f0) && decide (v.f0 ≤ 3) && codeB v.f1 && decide (v.f2.size ≤ 512)
theorem verds_s (xs : List VI) (hl : xs.length ≤ 1048576) : ∀ (n i : Nat), xs.length - i = n → i ≤ xs.length → Ev (fun k => X.spec_Proper.l0 k xs (xs.length : Int) (i : Int)) ((xs.drop i).all verdB) := by
  intro n
  induction n with
  | zero =>
    intro i hn hi
    rw [List.drop_of_length_le (by omega)]
    refine Ev.step (f := fun _ => some true) (fun k => ?_) (Ev.now _)
    rw [X.spec_Proper.l0, if_neg (by omega)]
  | succ n ih =>
    intro i hn hi
    have e2 : wrap64 ((i : Int) + 1) = ((i + 1 : Nat) : Int) := by rw [wrap_id _ (by omega) (by omega)]; omega
    have hi' : i < xs.length := by omega
    have hr := rdI xs i hi'
    have hk := ih (i + 1) (by omega) (by omega)
    rw [List.drop_eq_getElem_cons hi', List.all_cons]
    generalize xs[i] = q at hr ⊢
    refine Ev.step (f := fun k => if q.f0 < 0 then some false else if q.f0 > 3 then some false else if codeB q.f1 = true then (if (q.f2.size : Int) > 512 then some false else X.spec_Proper.l0 k xs (xs.length : Int) ((i + 1 : Nat) : Int)) else some false) (fun k => ?_) ?_
    · rw [X.spec_Proper.l0, if_pos (by omega), if_pos (by omega), if_pos (by omega), hr, code_s, Option.bind_some, e2]
    · unfold verdB
      by_cases h1 : q.f0 < 0
      · rw [decide_eq_false (p := 0 ≤ q.f0) (by omega)]; exact Ev.congr (fun k => if_pos h1) (Ev.now _)
      by_cases h2 : q.f0 > 3
      · rw [decide_eq_false (p := q.f0 ≤ 3) (by omega), Bool.and_false]; exact Ev.congr (fun k => (if_neg h1).trans (if_pos h2)) (Ev.now _)
      rw [decide_eq_true (p := 0 ≤ q.f0) (by omega), decide_eq_true (p := q.f0 ≤ 3) (by omega)]
      cases hc : codeB q.f1 with
      | false => exact Ev.congr (fun k => (if_neg h1).trans ((if_neg h2).trans (if_neg (by simp)))) (Ev.now _)
      | true =>
        by_cases h3 : (q.f2.size : Int) > 512
        · rw [decide_eq_false (p := q.f2.size ≤ 512) (by omega)]
          exact Ev.congr (fun k => (if_neg h1).trans ((if_neg h2).trans ((if_pos rfl).trans (if_pos h3)))) (Ev.now _)
        · rw [decide_eq_true (p := q.f2.size ≤ 512) (by omega)]
          exact Ev.congr (fun k => (if_neg h1).trans ((if_neg h2).trans ((if_pos rfl).trans (if_neg h3)))) hk
theorem verds_i (xs : List VI) (hl : xs.length ≤ 1048576) : ∀ (n i : Nat), xs.length - i = n → i ≤ xs.length → Ev (fun k => X.impl_Proper.l0 k xs (xs.length : Int) (i : Int)) ((xs.drop i).all verdB) := by
  intro n
  induction n with
  | zero =>
    intro i hn hi
    rw [List.drop_of_length_le (by omega)]
    refine Ev.step (f := fun _ => some true) (fun k => ?_) (Ev.now _)
    rw [X.impl_Proper.l0, if_neg (by omega)]
  | succ n ih =>
    intro i hn hi
    have e2 : wrap64 ((i : Int) + 1) = ((i + 1 : Nat) : Int) := by rw [wrap_id _ (by omega) (by omega)]; omega
    have hi' : i < xs.length := by omega
    have hr := rdI xs i hi'
    have hk := ih (i + 1) (by omega) (by omega)
    rw [List.drop_eq_getElem_cons hi', List.all_cons]
    generalize xs[i] = q at hr ⊢
    refine Ev.step (f := fun k => if q.f0 < 0 then some false else if q.f0 > 3 then some false else if codeB q.f1 = true then (if (q.f2.size : Int) > 512 then some false else X.impl_Proper.l0 k xs (xs.length : Int) ((i + 1 : Nat) : Int)) else some false) (fun k => ?_) ?_
    · rw [X.impl_Proper.l0, if_pos (by omega), if_pos (by omega), if_pos (by omega), hr, code_i, Option.bind_some, e2]
    · unfold verdB
      by_cases h1 : q.f0 < 0
      · rw [decide_eq_false (p := 0 ≤ q.f0) (by omega)]; exact Ev.congr (fun k => if_pos h1) (Ev.now _)
      by_cases h2 : q.f0 > 3
      · rw [decide_eq_false (p := q.f0 ≤ 3) (by omega), Bool.and_false]; exact Ev.congr (fun k => (if_neg h1).trans (if_pos h2)) (Ev.now _)
      rw [decide_eq_true (p := 0 ≤ q.f0) (by omega), decide_eq_true (p := q.f0 ≤ 3) (by omega)]
      cases hc : codeB q.f1 with
      | false => exact Ev.congr (fun k => (if_neg h1).trans ((if_neg h2).trans (if_neg (by simp)))) (Ev.now _)
      | true =>
        by_cases h3 : (q.f2.size : Int) > 512
        · rw [decide_eq_false (p := q.f2.size ≤ 512) (by omega)]
          exact Ev.congr (fun k => (if_neg h1).trans ((if_neg h2).trans ((if_pos rfl).trans (if_pos h3)))) (Ev.now _)
        · rw [decide_eq_true (p := q.f2.size ≤ 512) (by omega)]
          exact Ev.congr (fun k => (if_neg h1).trans ((if_neg h2).trans ((if_pos rfl).trans (if_neg h3)))) hk
theorem rcpts_s (xs : List ByteArray) (hl : xs.length ≤ 1048576) : ∀ (n i : Nat), xs.length - i = n → i ≤ xs.length → Ev (fun k => X.spec_l4whom.l0 k xs (xs.length : Int) (i : Int)) ((xs.drop i).all addrB) := by
  intro n
  induction n with
  | zero =>
    intro i hn hi
    rw [List.drop_of_length_le (by omega)]
    refine Ev.step (f := fun _ => some true) (fun k => ?_) (Ev.now _)
    rw [X.spec_l4whom.l0, if_neg (by omega)]
  | succ n ih =>
    intro i hn hi
    have e2 : wrap64 ((i : Int) + 1) = ((i + 1 : Nat) : Int) := by rw [wrap_id _ (by omega) (by omega)]; omega
    have hi' : i < xs.length := by omega
    have hr := rd_get xs i hi'
    have hk := ih (i + 1) (by omega) (by omega)
    rw [List.drop_eq_getElem_cons hi', List.all_cons]
    generalize xs[i] = q at hr ⊢
    refine Ev.step (f := fun k => (X.spec_ValidAddress.f k q).bind fun t => if t = true then X.spec_l4whom.l0 k xs (xs.length : Int) ((i + 1 : Nat) : Int) else some false) (fun k => ?_) (Ev.bind (specAddr_f q) ?_)
    · rw [X.spec_l4whom.l0, if_pos (by omega), if_pos (by omega), if_pos (by omega), hr, e2]
    · cases addrB q with
      | true => exact Ev.congr (fun k => if_pos rfl) (by simpa using hk)
      | false => exact Ev.congr (fun k => if_neg (by simp)) (Ev.now _)
theorem rcpts_i (xs : List ByteArray) (hl : xs.length ≤ 1048576) (hx : ∀ p ∈ xs, p.size < 4294967281) : ∀ (n i : Nat), xs.length - i = n → i ≤ xs.length → Ev (fun k => X.impl_right.l0 k xs (xs.length : Int) (i : Int)) ((xs.drop i).all addrB) := by
  intro n
  induction n with
  | zero =>
    intro i hn hi
    rw [List.drop_of_length_le (by omega)]
    refine Ev.step (f := fun _ => some true) (fun k => ?_) (Ev.now _)
    rw [X.impl_right.l0, if_neg (by omega)]
  | succ n ih =>
    intro i hn hi
    have e2 : wrap64 ((i : Int) + 1) = ((i + 1 : Nat) : Int) := by rw [wrap_id _ (by omega) (by omega)]; omega
    have hi' : i < xs.length := by omega
    have hr := rd_get xs i hi'
    have hz := hx _ (List.getElem_mem hi')
    have hk := ih (i + 1) (by omega) (by omega)
    rw [List.drop_eq_getElem_cons hi', List.all_cons]
    generalize xs[i] = q at hr hz ⊢
    refine Ev.step (f := fun k => (X.impl_ValidAddress.f k q).bind fun t => if t = true then X.impl_right.l0 k xs (xs.length : Int) ((i + 1 : Nat) : Int) else some false) (fun k => ?_) (Ev.bind (implAddr_f q hz) ?_)
    · rw [X.impl_right.l0, if_pos (by omega), if_pos (by omega), if_pos (by omega), hr, e2]
    · cases addrB q with
      | true => exact Ev.congr (fun k => if_pos rfl) (by simpa using hk)
      | false => exact Ev.congr (fun k => if_neg (by simp)) (Ev.now _)
def countB (xs : List ByteArray) : Bool := decide (1 ≤ xs.length) && decide (xs.length ≤ 20)
def fromB (a : ByteArray) : Bool := a.toList.isEmpty || addrB a
theorem whom_j0 (xs : List ByteArray) (hl : xs.length ≤ 1048576) (b : Bool) : Ev (fun k => X.spec_l4whom.j0 k xs b) (!b && xs.all addrB) := by
  cases b with
  | true => exact Ev.step (f := fun _ => some false) (fun k => by rw [X.spec_l4whom.j0, if_pos rfl]) (Ev.now _)
  | false =>
    have := rcpts_s xs hl xs.length 0 (by omega) (by omega)
    rw [List.drop_zero] at this
    exact Ev.step (f := fun k => X.spec_l4whom.l0 k xs (xs.length : Int) 0) (fun k => by rw [X.spec_l4whom.j0, if_neg (by decide)]) (by simpa using this)
theorem right_j0 (xs : List ByteArray) (hl : xs.length ≤ 1048576) (hx : ∀ p ∈ xs, p.size < 4294967281) (b : Bool) : Ev (fun k => X.impl_right.j0 k xs b) (!b && xs.all addrB) := by
  cases b with
  | true => exact Ev.step (f := fun _ => some false) (fun k => by rw [X.impl_right.j0, if_pos rfl]) (Ev.now _)
  | false =>
    have := rcpts_i xs hl hx xs.length 0 (by omega) (by omega)
    rw [List.drop_zero] at this
    exact Ev.step (f := fun k => X.impl_right.l0 k xs (xs.length : Int) 0) (fun k => by rw [X.impl_right.j0, if_neg (by decide)]) (by simpa using this)
theorem whom_f (a : ByteArray) (xs : List ByteArray) (hl : xs.length ≤ 1048576) : Ev (fun k => X.spec_l4whom.f k a xs) (fromB a && countB xs && xs.all addrB) := by
  have hC : Ev (fun k => if (xs.length : Int) < 1 then (X.spec_l4whom.j0 k xs true) else (X.spec_l4whom.j0 k xs (decide ((xs.length : Int) > 20)))) (countB xs && xs.all addrB) := by
    unfold countB
    by_cases h1 : (xs.length : Int) < 1
    · rw [decide_eq_false (p := 1 ≤ xs.length) (by omega)]
      exact Ev.congr (fun k => if_pos h1) (whom_j0 xs hl true)
    · rw [decide_eq_true (p := 1 ≤ xs.length) (by omega), Bool.true_and]
      refine Ev.congr (fun k => if_neg h1) ?_
      have := whom_j0 xs hl (decide ((xs.length : Int) > 20))
      have e : (!decide ((xs.length : Int) > 20)) = decide (xs.length ≤ 20) := by rw [Bool.eq_iff_iff]; simp; omega
      rw [e] at this; exact this
  unfold fromB
  by_cases h : a.toList = []
  · rw [show a.toList.isEmpty = true by rw [h]; rfl, Bool.true_or, Bool.true_and]
    refine Ev.congr (fun k => ?_) hC
    unfold X.spec_l4whom.f; rw [if_pos h]
  · rw [show a.toList.isEmpty = false by simpa using h, Bool.false_or]
    refine Ev.congr (f := fun k => (X.spec_ValidAddress.f k a).bind fun t271 => (if t271 = true then (if (xs.length : Int) < 1 then (X.spec_l4whom.j0 k xs true) else (X.spec_l4whom.j0 k xs (decide ((xs.length : Int) > 20)))) else (X.spec_l4whom.j0 k xs true))) (fun k => ?_) (Ev.bind (specAddr_f a) ?_)
    · unfold X.spec_l4whom.f; rw [if_neg h]
    · cases addrB a with
      | true => rw [Bool.true_and]; exact Ev.congr (fun k => if_pos rfl) hC
      | false => exact Ev.congr (fun k => if_neg (by simp)) (whom_j0 xs hl true)
end Go.Proofs.YtnhhbdhkhdbanaaDoor.Pure
