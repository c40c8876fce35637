/- What the two Proper answer, second part: one law. Plain Lean. -/
import Derived.Test.YtnhhbdhkhdbanaaDoorPProp
namespace Go.Proofs.YtnhhbdhkhdbanaaDoor.Pure
open Go Go.RowKit Go.Proofs.YtnhhbdhkhdbanaaDoorW.PrintWords
set_option linter.unusedVariables false
set_option linter.unusedSimpArgs false
def bodyV (s : ByteArray) : Bool := bodyB (sp s crlf).dropLast ((sp s crlf).getLastD ⟨#[]⟩) s
theorem bodyV_s (s : ByteArray) : Ev (fun k => X.spec_ValidBody.f k s) (bodyV s) := by
  obtain ⟨qs, last, e1, _⟩ := lines_of s
  have h := specLines_f s qs last e1
  have e : bodyV s = bodyB qs last s := by unfold bodyV; rw [e1]; simp
  rw [e]
  refine Ev.congr (f := fun k => (X.spec_l2lines.f k s).bind fun bt => some bt.2) (fun k => rfl) (Ev.bind h ?_)
  cases bodyB qs last s <;> exact Ev.now _
theorem bodyV_i (s : ByteArray) (hs : s.size < 4294967281) : Ev (fun k => X.impl_ValidBody.f k s) (bodyV s) := by
  obtain ⟨qs, last, e1, e2⟩ := lines_of s
  have e : bodyV s = bodyB qs last s := by unfold bodyV; rw [e1]; simp
  rw [e]
  exact implBody_f s hs qs last e1 e2
theorem right_f (h f b : ByteArray) (xs : List ByteArray) (hl : xs.length ≤ 1048576) (hx : ∀ p ∈ xs, p.size < 4294967281) (hh : h.size < 4294967281) (hf : f.size < 4294967281) (hb : b.size < 4294967281) :
    Ev (fun k => X.impl_right.f k h f xs b) (domainB h && (fromB f && countB xs && xs.all addrB) && bodyV b) := by
  have hT := right_j0 xs hl hx true
  have hC : Ev (fun k => if (xs.length : Int) < 1 then (X.impl_right.j0 k xs true) else (if (xs.length : Int) > 20 then (X.impl_right.j0 k xs true) else ((X.impl_ValidBody.f k b).bind fun t290 => (X.impl_right.j0 k xs (!t290))))) (countB xs && xs.all addrB && bodyV b) := by
    unfold countB
    by_cases h1 : (xs.length : Int) < 1
    · rw [decide_eq_false (p := 1 ≤ xs.length) (by omega)]
      exact Ev.congr (fun k => if_pos h1) hT
    by_cases h2 : (xs.length : Int) > 20
    · rw [decide_eq_false (p := xs.length ≤ 20) (by omega), Bool.and_false]
      exact Ev.congr (fun k => (if_neg h1).trans (if_pos h2)) hT
    rw [decide_eq_true (p := 1 ≤ xs.length) (by omega), decide_eq_true (p := xs.length ≤ 20) (by omega)]
    refine Ev.congr (fun k => (if_neg h1).trans (if_neg h2)) (Ev.bind (bodyV_i b hb) ?_)
    have := right_j0 xs hl hx (!bodyV b)
    simpa [Bool.and_comm] using this
  refine Ev.congr (f := fun k => (X.impl_ValidDomain.f k h).bind fun t289 => if t289 = true then (if f.toList = ([] : List UInt8) then (if (xs.length : Int) < 1 then (X.impl_right.j0 k xs true) else (if (xs.length : Int) > 20 then (X.impl_right.j0 k xs true) else ((X.impl_ValidBody.f k b).bind fun t290 => (X.impl_right.j0 k xs (!t290))))) else ((X.impl_ValidAddress.f k f).bind fun t291 => (if t291 = true then (if (xs.length : Int) < 1 then (X.impl_right.j0 k xs true) else (if (xs.length : Int) > 20 then (X.impl_right.j0 k xs true) else ((X.impl_ValidBody.f k b).bind fun t292 => (X.impl_right.j0 k xs (!t292))))) else (X.impl_right.j0 k xs true)))) else (X.impl_right.j0 k xs true)) (fun k => rfl) (Ev.bind (implDomain_f h hh) ?_)
  cases hd : domainB h with
  | false => exact Ev.congr (fun k => if_neg (by simp)) (by simpa using hT)
  | true =>
    refine Ev.congr (fun k => if_pos rfl) ?_
    unfold fromB
    by_cases hf0 : f.toList = []
    · rw [show f.toList.isEmpty = true by rw [hf0]; rfl]
      exact Ev.congr (fun k => if_pos hf0) (by simpa using hC)
    · rw [show f.toList.isEmpty = false by simpa using hf0]
      refine Ev.congr (fun k => if_neg hf0) (Ev.bind (implAddr_f f hf) ?_)
      cases addrB f with
      | true => exact Ev.congr (fun k => if_pos rfl) (by simpa using hC)
      | false => exact Ev.congr (fun k => if_neg (by simp)) (by simpa using hT)
def nx (n : Int) (phase : Int) (buf : ByteArray) (next : Int) : Bool := decide (0 ≤ next) && decide (next ≤ n) && !(decide (next = n) && decide (phase = 5)) && decide (buf.size ≤ 40000)
section
variable (a0 : Int) (a1 a2 a3 a4 : ByteArray) (a5 : List ByteArray) (a6 : Int) (a7 : List Bool) (a8 : List VI)
theorem specP_j1 (h8 : a8.length ≤ 1048576) (b : Bool) : Ev (fun k => X.spec_Proper.j1 k b a0 a1 a2 a3 a4 a5 a6 a7 a8) (!b && a8.all verdB) := by
  cases b with
  | true => exact Ev.step (f := fun _ => some false) (fun k => by rw [X.spec_Proper.j1, if_pos rfl]) (Ev.now _)
  | false =>
    have := verds_s a8 h8 a8.length 0 (by omega) (by omega)
    rw [List.drop_zero] at this
    exact Ev.step (f := fun k => X.spec_Proper.l0 k a8 (a8.length : Int) 0) (fun k => by rw [X.spec_Proper.j1, if_neg (by decide)]) (by simpa using this)
theorem implP_j1 (h8 : a8.length ≤ 1048576) (b : Bool) : Ev (fun k => X.impl_Proper.j1 k b a0 a1 a2 a3 a4 a5 a6 a7 a8) (!b && a8.all verdB) := by
  cases b with
  | true => exact Ev.step (f := fun _ => some false) (fun k => by rw [X.impl_Proper.j1, if_pos rfl]) (Ev.now _)
  | false =>
    have := verds_i a8 h8 a8.length 0 (by omega) (by omega)
    rw [List.drop_zero] at this
    exact Ev.step (f := fun k => X.impl_Proper.l0 k a8 (a8.length : Int) 0) (fun k => by rw [X.impl_Proper.j1, if_neg (by decide)]) (by simpa using this)
theorem specP_j0 (h8 : a8.length ≤ 1048576) (n : Int) (b : Bool) : Ev (fun k => X.spec_Proper.j0 k n b a0 a1 a2 a3 a4 a5 a6 a7 a8) (!b && (decide ((a7.length : Int) = n) && decide ((a8.length : Int) = n)) && nx n a0 a1 a6 && a8.all verdB) := by
  have J := specP_j1 a0 a1 a2 a3 a4 a5 a6 a7 a8 h8
  cases b with
  | true => exact Ev.step (f := fun _ => some false) (fun k => by rw [X.spec_Proper.j0, if_pos rfl]) (Ev.now _)
  | false =>
    by_cases h7 : (a7.length : Int) = n
    · by_cases h9 : (a8.length : Int) = n
      · rw [decide_eq_true h7, decide_eq_true h9]
        unfold nx
        by_cases c1 : a6 < 0
        · rw [decide_eq_false (p := 0 ≤ a6) (by omega)]
          exact Ev.step (f := fun k => X.spec_Proper.j1 k true a0 a1 a2 a3 a4 a5 a6 a7 a8) (fun k => by rw [X.spec_Proper.j0, if_neg (by decide), if_pos h7, if_pos h9, if_pos c1]) (by simpa using J true)
        by_cases c2 : a6 > n
        · rw [decide_eq_false (p := a6 ≤ n) (by omega)]
          exact Ev.step (f := fun k => X.spec_Proper.j1 k true a0 a1 a2 a3 a4 a5 a6 a7 a8) (fun k => by rw [X.spec_Proper.j0, if_neg (by decide), if_pos h7, if_pos h9, if_neg c1, if_pos c2]) (by simpa using J true)
        rw [decide_eq_true (p := 0 ≤ a6) (by omega), decide_eq_true (p := a6 ≤ n) (by omega)]
        have e : (!decide ((a1.size : Int) > 40000)) = decide (a1.size ≤ 40000) := by rw [Bool.eq_iff_iff]; simp; omega
        have Jb := J (decide ((a1.size : Int) > 40000))
        rw [e] at Jb
        by_cases c3 : a6 = n
        · by_cases c4 : a0 = 5
          · rw [decide_eq_true c3, decide_eq_true c4]
            exact Ev.step (f := fun k => X.spec_Proper.j1 k true a0 a1 a2 a3 a4 a5 a6 a7 a8) (fun k => by rw [X.spec_Proper.j0, if_neg (by decide), if_pos h7, if_pos h9, if_neg c1, if_neg c2, if_pos c3, if_pos c4]) (by simpa using J true)
          · rw [decide_eq_false c4]
            exact Ev.step (f := fun k => X.spec_Proper.j1 k (decide ((a1.size : Int) > 40000)) a0 a1 a2 a3 a4 a5 a6 a7 a8) (fun k => by rw [X.spec_Proper.j0, if_neg (by decide), if_pos h7, if_pos h9, if_neg c1, if_neg c2, if_pos c3, if_neg c4]) (by simpa using Jb)
        · rw [decide_eq_false c3]
          exact Ev.step (f := fun k => X.spec_Proper.j1 k (decide ((a1.size : Int) > 40000)) a0 a1 a2 a3 a4 a5 a6 a7 a8) (fun k => by rw [X.spec_Proper.j0, if_neg (by decide), if_pos h7, if_pos h9, if_neg c1, if_neg c2, if_neg c3]) (by simpa using Jb)
      · rw [decide_eq_false h9]
        exact Ev.step (f := fun k => X.spec_Proper.j1 k true a0 a1 a2 a3 a4 a5 a6 a7 a8) (fun k => by rw [X.spec_Proper.j0, if_neg (by decide), if_pos h7, if_neg h9]) (by simpa using J true)
    · rw [decide_eq_false h7]
      exact Ev.step (f := fun k => X.spec_Proper.j1 k true a0 a1 a2 a3 a4 a5 a6 a7 a8) (fun k => by rw [X.spec_Proper.j0, if_neg (by decide), if_neg h7]) (by simpa using J true)
theorem implP_j0 (h8 : a8.length ≤ 1048576) (n : Int) (b : Bool) : Ev (fun k => X.impl_Proper.j0 k n b a0 a1 a2 a3 a4 a5 a6 a7 a8) (!b && nx n a0 a1 a6 && a8.all verdB) := by
  have J := implP_j1 a0 a1 a2 a3 a4 a5 a6 a7 a8 h8
  cases b with
  | true => exact Ev.step (f := fun _ => some false) (fun k => by rw [X.impl_Proper.j0, if_pos rfl]) (Ev.now _)
  | false =>
    unfold nx
    by_cases c1 : a6 < 0
    · rw [decide_eq_false (p := 0 ≤ a6) (by omega)]
      exact Ev.step (f := fun k => X.impl_Proper.j1 k true a0 a1 a2 a3 a4 a5 a6 a7 a8) (fun k => by rw [X.impl_Proper.j0, if_neg (by decide), if_pos c1]) (by simpa using J true)
    by_cases c2 : a6 > n
    · rw [decide_eq_false (p := a6 ≤ n) (by omega)]
      exact Ev.step (f := fun k => X.impl_Proper.j1 k true a0 a1 a2 a3 a4 a5 a6 a7 a8) (fun k => by rw [X.impl_Proper.j0, if_neg (by decide), if_neg c1, if_pos c2]) (by simpa using J true)
    rw [decide_eq_true (p := 0 ≤ a6) (by omega), decide_eq_true (p := a6 ≤ n) (by omega)]
    have e : (!decide ((a1.size : Int) > 40000)) = decide (a1.size ≤ 40000) := by rw [Bool.eq_iff_iff]; simp; omega
    have Jb := J (decide ((a1.size : Int) > 40000))
    rw [e] at Jb
    by_cases c4 : a0 = 5
    · by_cases c3 : a6 = n
      · rw [decide_eq_true c3, decide_eq_true c4]
        exact Ev.step (f := fun k => X.impl_Proper.j1 k true a0 a1 a2 a3 a4 a5 a6 a7 a8) (fun k => by rw [X.impl_Proper.j0, if_neg (by decide), if_neg c1, if_neg c2, if_pos c4, if_pos c3]) (by simpa using J true)
      · rw [decide_eq_false c3]
        exact Ev.step (f := fun k => X.impl_Proper.j1 k (decide ((a1.size : Int) > 40000)) a0 a1 a2 a3 a4 a5 a6 a7 a8) (fun k => by rw [X.impl_Proper.j0, if_neg (by decide), if_neg c1, if_neg c2, if_pos c4, if_neg c3]) (by simpa using Jb)
    · rw [decide_eq_false c4]
      exact Ev.step (f := fun k => X.impl_Proper.j1 k (decide ((a1.size : Int) > 40000)) a0 a1 a2 a3 a4 a5 a6 a7 a8) (fun k => by rw [X.impl_Proper.j0, if_neg (by decide), if_neg c1, if_neg c2, if_neg c4]) (by simpa using Jb)
def properB : Bool := (decide (1 ≤ a0) && decide (a0 ≤ 9)) && (domainB a2 && (fromB a3 && countB a5 && a5.all addrB) && bodyV a4) && (decide ((a7.length : Int) = (a5.length : Int)) && decide ((a8.length : Int) = (a5.length : Int))) && nx (a5.length : Int) a0 a1 a6 && a8.all verdB
theorem specP_f (h5 : a5.length ≤ 1048576) (h8 : a8.length ≤ 1048576) : Ev (fun k => X.spec_Proper.f k a0 a1 a2 a3 a4 a5 a6 a7 a8) (properB a0 a1 a2 a3 a4 a5 a6 a7 a8) := by
  have J := specP_j0 a0 a1 a2 a3 a4 a5 a6 a7 a8 h8 (a5.length : Int)
  unfold properB
  by_cases c1 : a0 < 1
  · rw [decide_eq_false (p := 1 ≤ a0) (by omega)]
    refine Ev.congr (f := fun k => X.spec_Proper.j0 k (a5.length : Int) true a0 a1 a2 a3 a4 a5 a6 a7 a8) (fun k => ?_) (by simpa using J true)
    unfold X.spec_Proper.f; rw [if_pos c1]
  by_cases c2 : a0 > 9
  · rw [decide_eq_false (p := a0 ≤ 9) (by omega)]
    refine Ev.congr (f := fun k => X.spec_Proper.j0 k (a5.length : Int) true a0 a1 a2 a3 a4 a5 a6 a7 a8) (fun k => ?_) (by simpa using J true)
    unfold X.spec_Proper.f; rw [if_neg c1, if_pos c2]
  rw [decide_eq_true (p := 1 ≤ a0) (by omega), decide_eq_true (p := a0 ≤ 9) (by omega)]
  refine Ev.congr (f := fun k => (X.spec_ValidDomain.f k a2).bind fun t429 => (if t429 = true then ((X.spec_l4whom.f k a3 a5).bind fun t430 => (if t430 = true then ((X.spec_ValidBody.f k a4).bind fun t431 => (X.spec_Proper.j0 k (a5.length : Int) (!t431) a0 a1 a2 a3 a4 a5 a6 a7 a8)) else (X.spec_Proper.j0 k (a5.length : Int) true a0 a1 a2 a3 a4 a5 a6 a7 a8))) else (X.spec_Proper.j0 k (a5.length : Int) true a0 a1 a2 a3 a4 a5 a6 a7 a8))) (fun k => by unfold X.spec_Proper.f; rw [if_neg c1, if_neg c2]) (Ev.bind (specDomain_f a2) ?_)
  cases domainB a2 with
  | false => exact Ev.congr (fun k => if_neg (by simp)) (by simpa using J true)
  | true =>
    refine Ev.congr (fun k => if_pos rfl) (Ev.bind (whom_f a3 a5 h5) ?_)
    cases (fromB a3 && countB a5 && a5.all addrB) with
    | false => exact Ev.congr (fun k => if_neg (by simp)) (by simpa using J true)
    | true =>
      refine Ev.congr (fun k => if_pos rfl) (Ev.bind (bodyV_s a4) ?_)
      simpa using J (!bodyV a4)
theorem implP_f (h5 : a5.length ≤ 1048576) (h8 : a8.length ≤ 1048576) (hx : ∀ p ∈ a5, p.size < 4294967281) (s2 : a2.size < 4294967281) (s3 : a3.size < 4294967281) (s4 : a4.size < 4294967281) : Ev (fun k => X.impl_Proper.f k a0 a1 a2 a3 a4 a5 a6 a7 a8) (properB a0 a1 a2 a3 a4 a5 a6 a7 a8) := by
  have J := implP_j0 a0 a1 a2 a3 a4 a5 a6 a7 a8 h8 (a5.length : Int)
  unfold properB
  by_cases c1 : a0 < 1
  · rw [decide_eq_false (p := 1 ≤ a0) (by omega)]
    refine Ev.congr (f := fun k => X.impl_Proper.j0 k (a5.length : Int) true a0 a1 a2 a3 a4 a5 a6 a7 a8) (fun k => ?_) (by simpa using J true)
    unfold X.impl_Proper.f; rw [if_pos c1]
  by_cases c2 : a0 > 9
  · rw [decide_eq_false (p := a0 ≤ 9) (by omega)]
    refine Ev.congr (f := fun k => X.impl_Proper.j0 k (a5.length : Int) true a0 a1 a2 a3 a4 a5 a6 a7 a8) (fun k => ?_) (by simpa using J true)
    unfold X.impl_Proper.f; rw [if_neg c1, if_pos c2]
  rw [decide_eq_true (p := 1 ≤ a0) (by omega), decide_eq_true (p := a0 ≤ 9) (by omega)]
  refine Ev.congr (f := fun k => (X.impl_right.f k a2 a3 a5 a4).bind fun t464 => (if t464 = true then (if (a7.length : Int) = (a5.length : Int) then (X.impl_Proper.j0 k (a5.length : Int) ((a8.length : Int) != (a5.length : Int)) a0 a1 a2 a3 a4 a5 a6 a7 a8) else (X.impl_Proper.j0 k (a5.length : Int) true a0 a1 a2 a3 a4 a5 a6 a7 a8)) else (X.impl_Proper.j0 k (a5.length : Int) true a0 a1 a2 a3 a4 a5 a6 a7 a8))) (fun k => by unfold X.impl_Proper.f; rw [if_neg c1, if_neg c2]) (Ev.bind (right_f a2 a3 a4 a5 h5 hx s2 s3 s4) ?_)
  cases (domainB a2 && (fromB a3 && countB a5 && a5.all addrB) && bodyV a4) with
  | false => exact Ev.congr (fun k => if_neg (by simp)) (by simpa using J true)
  | true =>
    refine Ev.congr (fun k => if_pos rfl) ?_
    by_cases h7 : (a7.length : Int) = (a5.length : Int)
    · refine Ev.congr (fun k => if_pos h7) ?_
      rw [decide_eq_true h7]
      have := J ((a8.length : Int) != (a5.length : Int))
      have e : (!((a8.length : Int) != (a5.length : Int))) = decide ((a8.length : Int) = (a5.length : Int)) := by rw [Bool.eq_iff_iff]; simp
      rw [e] at this
      simpa using this
    · rw [decide_eq_false h7]
      exact Ev.congr (fun k => if_neg h7) (by simpa using J true)
end
end Go.Proofs.YtnhhbdhkhdbanaaDoor.Pure
