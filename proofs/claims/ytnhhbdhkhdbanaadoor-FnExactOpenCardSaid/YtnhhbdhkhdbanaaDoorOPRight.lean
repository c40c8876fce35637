/- Sender, recipients and body: what l4whom and right answer. Plain Lean. -/
import Derived.Test.YtnhhbdhkhdbanaaDoorOX2
import Derived.Test.YtnhhbdhkhdbanaaDoorOX8
import Derived.Test.YtnhhbdhkhdbanaaDoorOPAddr
import Derived.Test.YtnhhbdhkhdbanaaDoorOPLines
namespace Go.Proofs.YtnhhbdhkhdbanaaDoor.Pure
open Go Go.RowKit Go.Proofs.YtnhhbdhkhdbanaaDoorW.PrintWords
set_option linter.unusedVariables false
set_option linter.unusedSimpArgs false
theorem rcpts_s (xs : List ByteArray) (hl : xs.length ≤ 1048576) : ∀ (n i : Nat), xs.length - i = n → i ≤ xs.length → Ev (fun k => X.spec_l4whom.l0 k xs (xs.length : Int) (i : Int)) ((xs.drop i).all addrB) := by
  intro n
  induction n with
  | zero =>
    intro i hn hi
    rw [List.drop_of_length_le (by omega)]
    refine Ev.step (f := fun _ => some true) (fun k => ?_) (Ev.now _)
    rw [X.spec_l4whom.l0, if_neg (by omega)]
  | succ n ih =>
    intro i hn hi
    have e2 : wrap64 ((i : Int) + 1) = ((i + 1 : Nat) : Int) := by rw [wrap_id _ (by omega) (by omega)]; omega
    have hi' : i < xs.length := by omega
    have hr := rd_get xs i hi'
    have hk := ih (i + 1) (by omega) (by omega)
    rw [List.drop_eq_getElem_cons hi', List.all_cons]
    generalize xs[i] = q at hr ⊢
    refine Ev.step (f := fun k => (X.spec_ValidAddress.f k q).bind fun t => if t = true then X.spec_l4whom.l0 k xs (xs.length : Int) ((i + 1 : Nat) : Int) else some false) (fun k => ?_) (Ev.bind (specAddr_f q) ?_)
    · rw [X.spec_l4whom.l0, if_pos (by omega), if_pos (by omega), if_pos (by omega), hr, e2]
    · cases addrB q with
      | true => exact Ev.congr (fun k => if_pos rfl) (by simpa using hk)
      | false => exact Ev.congr (fun k => if_neg (by simp)) (Ev.now _)
theorem rcpts_i (xs : List ByteArray) (hl : xs.length ≤ 1048576) (hx : ∀ p ∈ xs, p.size < 4294967281) : ∀ (n i : Nat), xs.length - i = n → i ≤ xs.length → Ev (fun k => X.impl_right.l0 k xs (xs.length : Int) (i : Int)) ((xs.drop i).all addrB) := by
  intro n
  induction n with
  | zero =>
    intro i hn hi
    rw [List.drop_of_length_le (by omega)]
    refine Ev.step (f := fun _ => some true) (fun k => ?_) (Ev.now _)
    rw [X.impl_right.l0, if_neg (by omega)]
  | succ n ih =>
    intro i hn hi
    have e2 : wrap64 ((i : Int) + 1) = ((i + 1 : Nat) : Int) := by rw [wrap_id _ (by omega) (by omega)]; omega
    have hi' : i < xs.length := by omega
    have hr := rd_get xs i hi'
    have hz := hx _ (List.getElem_mem hi')
    have hk := ih (i + 1) (by omega) (by omega)
    rw [List.drop_eq_getElem_cons hi', List.all_cons]
    generalize xs[i] = q at hr hz ⊢
    refine Ev.step (f := fun k => (X.impl_ValidAddress.f k q).bind fun t => if t = true then X.impl_right.l0 k xs (xs.length : Int) ((i + 1 : Nat) : Int) else some false) (fun k => ?_) (Ev.bind (implAddr_f q hz) ?_)
    · rw [X.impl_right.l0, if_pos (by omega), if_pos (by omega), if_pos (by omega), hr, e2]
    · cases addrB q with
      | true => exact Ev.congr (fun k => if_pos rfl) (by simpa using hk)
      | false => exact Ev.congr (fun k => if_neg (by simp)) (Ev.now _)
def countB (xs : List ByteArray) : Bool := decide (1 ≤ xs.length) && decide (xs.length ≤ 20)
def fromB (a : ByteArray) : Bool := a.toList.isEmpty || addrB a
theorem whom_j0 (xs : List ByteArray) (hl : xs.length ≤ 1048576) (b : Bool) : Ev (fun k => X.spec_l4whom.j0 k xs b) (!b && xs.all addrB) := by
  cases b with
  | true => exact Ev.step (f := fun _ => some false) (fun k => by rw [X.spec_l4whom.j0, if_pos rfl]) (Ev.now _)
  | false =>
    have := rcpts_s xs hl xs.length 0 (by omega) (by omega)
    rw [List.drop_zero] at this
    exact Ev.step (f := fun k => X.spec_l4whom.l0 k xs (xs.length : Int) 0) (fun k => by rw [X.spec_l4whom.j0, if_neg (by decide)]) (by simpa using this)
theorem right_j0 (xs : List ByteArray) (hl : xs.length ≤ 1048576) (hx : ∀ p ∈ xs, p.size < 4294967281) (b : Bool) : Ev (fun k => X.impl_right.j0 k xs b) (!b && xs.all addrB) := by
  cases b with
  | true => exact Ev.step (f := fun _ => some false) (fun k => by rw [X.impl_right.j0, if_pos rfl]) (Ev.now _)
  | false =>
    have := rcpts_i xs hl hx xs.length 0 (by omega) (by omega)
    rw [List.drop_zero] at this
    exact Ev.step (f := fun k => X.impl_right.l0 k xs (xs.length : Int) 0) (fun k => by rw [X.impl_right.j0, if_neg (by decide)]) (by simpa using this)
theorem whom_f (a : ByteArray) (xs : List ByteArray) (hl : xs.length ≤ 1048576) : Ev (fun k => X.spec_l4whom.f k a xs) (fromB a && countB xs && xs.all addrB) := by
  have hC : Ev (fun k => if (xs.length : Int) < 1 then (X.spec_l4whom.j0 k xs true) else (X.spec_l4whom.j0 k xs (decide ((xs.length : Int) > 20)))) (countB xs && xs.all addrB) := by
    unfold countB
    by_cases h1 : (xs.length : Int) < 1
    · rw [decide_eq_false (p := 1 ≤ xs.length) (by omega)]
      exact Ev.congr (fun k => if_pos h1) (whom_j0 xs hl true)
    · rw [decide_eq_true (p := 1 ≤ xs.length) (by omega), Bool.true_and]
      refine Ev.congr (fun k => if_neg h1) ?_
      have := whom_j0 xs hl (decide ((xs.length : Int) > 20))
      have e : (!decide ((xs.length : Int) > 20)) = decide (xs.length ≤ 20) := by rw [Bool.eq_iff_iff]; simp; omega
      rw [e] at this; exact this
  unfold fromB
  by_cases h : a.toList = []
  · rw [show a.toList.isEmpty = true by rw [h]; rfl, Bool.true_or, Bool.true_and]
    refine Ev.congr (fun k => ?_) hC
    unfold X.spec_l4whom.f; rw [if_pos h]
  · rw [show a.toList.isEmpty = false by simpa using h, Bool.false_or]
    refine Ev.congr (f := fun k => (X.spec_ValidAddress.f k a).bind fun t271 => (if t271 = true then (if (xs.length : Int) < 1 then (X.spec_l4whom.j0 k xs true) else (X.spec_l4whom.j0 k xs (decide ((xs.length : Int) > 20)))) else (X.spec_l4whom.j0 k xs true))) (fun k => ?_) (Ev.bind (specAddr_f a) ?_)
    · unfold X.spec_l4whom.f; rw [if_neg h]
    · cases addrB a with
      | true => rw [Bool.true_and]; exact Ev.congr (fun k => if_pos rfl) hC
      | false => exact Ev.congr (fun k => if_neg (by simp)) (whom_j0 xs hl true)
def bodyV (s : ByteArray) : Bool := bodyB (sp s crlf).dropLast ((sp s crlf).getLastD ⟨#[]⟩) s
theorem bodyV_s (s : ByteArray) : Ev (fun k => X.spec_ValidBody.f k s) (bodyV s) := by
  obtain ⟨qs, last, e1, _⟩ := lines_of s
  have h := specLines_f s qs last e1
  have e : bodyV s = bodyB qs last s := by unfold bodyV; rw [e1]; simp
  rw [e]
  refine Ev.congr (f := fun k => (X.spec_l2lines.f k s).bind fun bt => some bt.2) (fun k => rfl) (Ev.bind h ?_)
  cases bodyB qs last s <;> exact Ev.now _
theorem bodyV_i (s : ByteArray) (hs : s.size < 4294967281) : Ev (fun k => X.impl_ValidBody.f k s) (bodyV s) := by
  obtain ⟨qs, last, e1, e2⟩ := lines_of s
  have e : bodyV s = bodyB qs last s := by unfold bodyV; rw [e1]; simp
  rw [e]
  exact implBody_f s hs qs last e1 e2
theorem right_f (h f b : ByteArray) (xs : List ByteArray) (hl : xs.length ≤ 1048576) (hx : ∀ p ∈ xs, p.size < 4294967281) (hh : h.size < 4294967281) (hf : f.size < 4294967281) (hb : b.size < 4294967281) :
    Ev (fun k => X.impl_right.f k h f xs b) (domainB h && (fromB f && countB xs && xs.all addrB) && bodyV b) := by
  have hT := right_j0 xs hl hx true
  have hC : Ev (fun k => if (xs.length : Int) < 1 then (X.impl_right.j0 k xs true) else (if (xs.length : Int) > 20 then (X.impl_right.j0 k xs true) else ((X.impl_ValidBody.f k b).bind fun t290 => (X.impl_right.j0 k xs (!t290))))) (countB xs && xs.all addrB && bodyV b) := by
    unfold countB
    by_cases h1 : (xs.length : Int) < 1
    · rw [decide_eq_false (p := 1 ≤ xs.length) (by omega)]
      exact Ev.congr (fun k => if_pos h1) hT
    by_cases h2 : (xs.length : Int) > 20
    · rw [decide_eq_false (p := xs.length ≤ 20) (by omega), Bool.and_false]
      exact Ev.congr (fun k => (if_neg h1).trans (if_pos h2)) hT
    rw [decide_eq_true (p := 1 ≤ xs.length) (by omega), decide_eq_true (p := xs.length ≤ 20) (by omega)]
    refine Ev.congr (fun k => (if_neg h1).trans (if_neg h2)) (Ev.bind (bodyV_i b hb) ?_)
    have := right_j0 xs hl hx (!bodyV b)
    simpa [Bool.and_comm] using this
  refine Ev.congr (f := fun k => (X.impl_ValidDomain.f k h).bind fun t289 => if t289 = true then (if f.toList = ([] : List UInt8) then (if (xs.length : Int) < 1 then (X.impl_right.j0 k xs true) else (if (xs.length : Int) > 20 then (X.impl_right.j0 k xs true) else ((X.impl_ValidBody.f k b).bind fun t290 => (X.impl_right.j0 k xs (!t290))))) else ((X.impl_ValidAddress.f k f).bind fun t291 => (if t291 = true then (if (xs.length : Int) < 1 then (X.impl_right.j0 k xs true) else (if (xs.length : Int) > 20 then (X.impl_right.j0 k xs true) else ((X.impl_ValidBody.f k b).bind fun t292 => (X.impl_right.j0 k xs (!t292))))) else (X.impl_right.j0 k xs true)))) else (X.impl_right.j0 k xs true)) (fun k => rfl) (Ev.bind (implDomain_f h hh) ?_)
  cases hd : domainB h with
  | false => exact Ev.congr (fun k => if_neg (by simp)) (by simpa using hT)
  | true =>
    refine Ev.congr (fun k => if_pos rfl) ?_
    unfold fromB
    by_cases hf0 : f.toList = []
    · rw [show f.toList.isEmpty = true by rw [hf0]; rfl]
      exact Ev.congr (fun k => if_pos hf0) (by simpa using hC)
    · rw [show f.toList.isEmpty = false by simpa using hf0]
      refine Ev.congr (fun k => if_neg hf0) (Ev.bind (implAddr_f f hf) ?_)
      cases addrB f with
      | true => exact Ev.congr (fun k => if_pos rfl) (by simpa using hC)
      | false => exact Ev.congr (fun k => if_neg (by simp)) (by simpa using hT)
end Go.Proofs.YtnhhbdhkhdbanaaDoor.Pure
