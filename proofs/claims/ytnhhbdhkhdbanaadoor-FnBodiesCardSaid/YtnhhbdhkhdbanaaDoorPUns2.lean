/- What the two Unstuff answer, second half. Plain Lean. -/
import Derived.Test.YtnhhbdhkhdbanaaDoorPUnst
namespace Go.Proofs.YtnhhbdhkhdbanaaDoor.Pure
open Go Go.RowKit Go.Proofs.YtnhhbdhkhdbanaaDoorW.PrintWords
set_option linter.unusedVariables false
set_option linter.unusedSimpArgs false
def strip (q : ByteArray) : ByteArray := if q.size ≠ 0 ∧ bt q 0 = 46 then q.extract 1 q.size else q
theorem strip_size (q : ByteArray) : (strip q).size ≤ q.size := by
  unfold strip; split
  · rw [ByteArray.size_extract]; omega
  · exact Nat.le_refl _
def unb : List ByteArray → ByteArray → ByteArray
  | [], acc => acc
  | q :: qs, acc => unb qs (acc ++ (strip q ++ crlf))
theorem unb_size : ∀ (qs : List ByteArray) (acc : ByteArray), (unb qs acc).size ≤ acc.size + tot qs
  | [], acc => Nat.le_add_right _ _
  | q :: qs, acc => by
    unfold unb
    have h := unb_size qs (acc ++ (strip q ++ crlf))
    have h1 := strip_size q
    have hc : crlf.size = 2 := rfl
    rw [ByteArray.size_append, ByteArray.size_append, hc] at h
    simp only [tot, List.map_cons, List.sum_cons] at h ⊢
    omega
theorem tot_cons (q : ByteArray) (qs : List ByteArray) : tot (q :: qs) = q.size + 2 + tot qs := by simp only [tot, List.map_cons, List.sum_cons]
def fin (x0 b : ByteArray) : ByteArray × Bool := if (stuffV b).toList = x0.toList then (b, true) else (⟨#[]⟩, false)
theorem specUn_l0 (x0 : ByteArray) (xs : List ByteArray) (hl : xs.length ≤ 4294967 ) : ∀ (n i : Nat) (acc : ByteArray), xs.length - i = n → i ≤ xs.length → acc.size + tot (xs.drop i) ≤ 4294967 →
    Ev (fun k => X.spec_Unstuff.l0 k x0 acc xs (xs.length : Int) (i : Int)) (fin x0 (unb (xs.drop i) acc)) := by
  intro n
  induction n with
  | zero =>
    intro i acc hn hi ha
    rw [List.drop_of_length_le (by omega)] at ha ⊢
    refine Ev.step (f := fun k => (X.spec_Stuff.f k acc).bind fun t226 => (if t226.toList = x0.toList then (some (acc, true)) else (some ((⟨#[]⟩ : ByteArray), false)))) (fun k => ?_) ?_
    · rw [X.spec_Unstuff.l0, if_neg (by omega)]
    · refine Ev.bind (stuff_evs acc (by omega)).1 ?_
      unfold fin unb
      split <;> exact Ev.now _
  | succ n ih =>
    intro i acc hn hi ha
    have e2 : wrap64 ((i : Int) + 1) = ((i + 1 : Nat) : Int) := by rw [wrap_id _ (by omega) (by omega)]; omega
    have hi' : i < xs.length := by omega
    rw [List.drop_eq_getElem_cons hi'] at ha ⊢
    rw [tot_cons] at ha
    have hr := rd_get xs i hi'
    generalize xs[i] = q at ha hr ⊢
    have hcs : ∀ x : ByteArray, (x ++ (⟨#[13, 10]⟩ : ByteArray)).size = x.size + 2 := fun x => by rw [ByteArray.size_append]; rfl
    have hcs' : ∀ x : ByteArray, (x ++ crlf).size = x.size + 2 := hcs
    have hst := strip_size q
    unfold unb
    refine Ev.step (f := fun k => X.spec_Unstuff.l0 k x0 (acc ++ (strip q ++ crlf)) xs (xs.length : Int) ((i + 1 : Nat) : Int)) (fun k => ?_) (ih (i + 1) _ (by omega) (by omega) (by rw [ByteArray.size_append, hcs']; omega))
    rw [X.spec_Unstuff.l0, if_pos (by omega), if_pos (by omega), if_pos (by omega), hr, e2]
    unfold strip
    by_cases h0 : q.size = 0
    · rw [if_neg (show ¬ (q.size : Int) > 0 by omega), if_pos (by omega), if_pos (by rw [hcs]; omega), if_neg (fun h => h.1 h0)]; rfl
    rw [if_pos (show (q.size : Int) > 0 by omega), if_pos (by omega)]
    by_cases h1 : bt q 0 = 46
    · have he : (q.extract 1 q.size).size = q.size - 1 := by rw [ByteArray.size_extract]; omega
      rw [if_pos h1, if_pos (by omega), if_pos (by omega), if_pos (by rw [hcs]; omega), if_pos ⟨h0, h1⟩]; rfl
    · rw [if_neg h1, if_pos (by omega), if_pos (by rw [hcs]; omega), if_neg (fun h => h1 h.2)]; rfl
theorem trim_f (q : ByteArray) : X.strings_TrimPrefix.f q ⟨#[46]⟩ = some (strip q) := by
  unfold X.strings_TrimPrefix.f X.stringslite_TrimPrefix.f
  have hp := prefix_f q
  unfold X.strings_HasPrefix.f at hp
  have hp' : X.stringslite_HasPrefix.f q ⟨#[46]⟩ = some (decide (q.size ≠ 0 ∧ bt q 0 = 46)) := by
    cases hx : X.stringslite_HasPrefix.f q ⟨#[46]⟩ with
    | none => rw [hx] at hp; cases hp
    | some v => rw [hx] at hp; exact hp
  have h1 : ((⟨#[46]⟩ : ByteArray).size : Int) = 1 := rfl
  rw [hp', Option.bind_some, h1]
  unfold strip
  by_cases h : q.size ≠ 0 ∧ bt q 0 = 46
  · rw [if_pos (decide_eq_true h), if_pos (by omega), if_pos (by omega), if_pos h]; rfl
  · rw [if_neg (fun hh => h (of_decide_eq_true hh)), if_neg h]; rfl
theorem strip_crlf (q : ByteArray) : strip (q ++ crlf) = strip q ++ crlf := by
  unfold strip
  by_cases h : q.size ≠ 0 ∧ bt q 0 = 46
  · rw [if_pos ((prefix_crlf q).2 h), if_pos h]
    have hq := data_length q
    have hc : (q ++ crlf).data.toList = q.data.toList ++ [13, 10] := by rw [ByteArray.data_append, Array.toList_append]; rfl
    apply ByteArray.ext; apply Array.ext'
    rw [data_extract, ← data_length (q ++ crlf), List.take_length, hc, ByteArray.data_append, Array.toList_append, data_extract, ← hq, List.take_length, List.drop_append_of_le_length (by omega)]; rfl
  · rw [if_neg (fun hh => h ((prefix_crlf q).1 hh)), if_neg h]
def fin2 (x0 b : ByteArray) : ByteArray × Bool := if x0.toList = [] then (⟨#[]⟩, false) else fin x0 b
theorem implUn_end (x0 acc : ByteArray) (ys : List ByteArray) (i : Nat) (hi : ys.length ≤ i) (ha : acc.size ≤ 4294967) : Ev (fun k => X.impl_Unstuff.l0 k x0 acc ys (ys.length : Int) (i : Int)) (fin2 x0 acc) := by
  unfold fin2
  by_cases h0 : x0.toList = []
  · rw [if_pos h0]
    refine Ev.step (f := fun _ => some ((⟨#[]⟩ : ByteArray), false)) (fun k => ?_) (Ev.now _)
    rw [X.impl_Unstuff.l0, if_neg (by omega), if_pos h0]
  · rw [if_neg h0]
    refine Ev.step (f := fun k => (X.impl_Stuff.f k acc).bind fun t237 => (if t237.toList = x0.toList then (some (acc, true)) else (some ((⟨#[]⟩ : ByteArray), false)))) (fun k => ?_) ?_
    · rw [X.impl_Unstuff.l0, if_neg (by omega), if_neg h0]
    · refine Ev.bind (stuff_evs acc (by omega)).2 ?_
      unfold fin
      split <;> exact Ev.now _
theorem implUn_l0 (x0 : ByteArray) (xs : List ByteArray) (last : ByteArray) (hl : xs.length ≤ 4294967) : ∀ (n i : Nat) (acc : ByteArray), xs.length - i = n → i ≤ xs.length → acc.size + tot (xs.drop i) + last.size ≤ 4294967 →
    Ev (fun k => X.impl_Unstuff.l0 k x0 acc (xs.map (· ++ crlf) ++ [last]) ((xs.map (· ++ crlf) ++ [last]).length : Int) (i : Int)) (fin2 x0 (unb (xs.drop i) acc ++ strip last)) := by
  have hll : (xs.map (· ++ crlf) ++ [last]).length = xs.length + 1 := by simp
  intro n
  induction n with
  | zero =>
    intro i acc hn hi ha
    obtain rfl : i = xs.length := by omega
    have e2 : wrap64 ((xs.length : Int) + 1) = ((xs.length + 1 : Nat) : Int) := by rw [wrap_id _ (by omega) (by omega)]; omega
    have hst := strip_size last
    rw [List.drop_length] at ha ⊢
    unfold unb
    refine Ev.step (f := fun k => X.impl_Unstuff.l0 k x0 (acc ++ strip last) (xs.map (· ++ crlf) ++ [last]) ((xs.map (· ++ crlf) ++ [last]).length : Int) ((xs.length + 1 : Nat) : Int)) (fun k => ?_) (implUn_end x0 _ _ _ (by rw [hll]; exact Nat.le_refl _) (by rw [ByteArray.size_append]; omega))
    rw [X.impl_Unstuff.l0, if_pos (by rw [hll]; omega), if_pos (by omega), if_pos (by rw [hll]; omega), rd_mapl, trim_f, Option.bind_some, if_pos (by omega), e2]
  | succ n ih =>
    intro i acc hn hi ha
    have e2 : wrap64 ((i : Int) + 1) = ((i + 1 : Nat) : Int) := by rw [wrap_id _ (by omega) (by omega)]; omega
    have hi' : i < xs.length := by omega
    have hr := rd_map xs last i hi'
    rw [List.drop_eq_getElem_cons hi'] at ha ⊢
    rw [tot_cons] at ha
    generalize xs[i] = q at ha hr ⊢
    have hst := strip_size q
    have hc : (strip q ++ crlf).size = (strip q).size + 2 := by rw [ByteArray.size_append]; rfl
    unfold unb
    refine Ev.step (f := fun k => X.impl_Unstuff.l0 k x0 (acc ++ (strip q ++ crlf)) (xs.map (· ++ crlf) ++ [last]) ((xs.map (· ++ crlf) ++ [last]).length : Int) ((i + 1 : Nat) : Int)) (fun k => ?_) (ih (i + 1) _ (by omega) (by omega) (by rw [ByteArray.size_append, hc]; omega))
    rw [X.impl_Unstuff.l0, if_pos (by rw [hll]; omega), if_pos (by omega), if_pos (by rw [hll]; omega), hr, trim_f, strip_crlf, Option.bind_some, if_pos (by rw [hc]; omega), e2]
/-- The text's end: a point and an end of line. -/
def tailB (s : ByteArray) : Bool := decide (3 ≤ s.size) && ((s.extract (s.size - 3) s.size).toList == [46, 13, 10])
theorem suffix_f (s : ByteArray) (hs : s.size ≤ 4294967) : X.strings_TrimSuffix.f s ⟨#[46, 13, 10]⟩ = some (if tailB s = true then s.extract 0 (s.size - 3) else s) := by
  unfold X.strings_TrimSuffix.f X.stringslite_TrimSuffix.f X.stringslite_HasSuffix.f tailB
  have h3 : ((⟨#[46, 13, 10]⟩ : ByteArray).size : Int) = 3 := rfl
  have e3 : (⟨#[46, 13, 10]⟩ : ByteArray).toList = [46, 13, 10] := by rw [ByteArray.toList_eq]
  rw [h3, e3]
  by_cases h : 3 ≤ s.size
  · have e1 : wrap64 ((s.size : Int) - 3) = ((s.size - 3 : Nat) : Int) := by rw [wrap_id _ (by omega) (by omega)]; omega
    rw [if_pos (by omega), e1, if_pos (by omega), if_pos (by omega), Option.bind_some, Int.toNat_natCast, decide_eq_true h, Bool.true_and]
    by_cases hb : ((s.extract (s.size - 3) s.size).toList == [46, 13, 10]) = true
    · rw [if_pos hb, if_pos hb, if_pos (by omega), if_pos (by omega)]; rfl
    · rw [if_neg hb, if_neg hb]; rfl
  · rw [if_neg (by omega), decide_eq_false h]; rfl
theorem tail_iff (s : ByteArray) : tailB s = true ↔ ∃ u, s.data.toList = u ++ [46, 13, 10] := by
  have hs := data_length s
  unfold tailB
  rw [Bool.and_eq_true, decide_eq_true_eq, beq_iff_eq, ByteArray.toList_eq, data_extract, ← hs, List.take_length]
  constructor
  · rintro ⟨h, e⟩
    exact ⟨s.data.toList.take (s.data.toList.length - 3), by rw [← e, List.take_append_drop]⟩
  · rintro ⟨u, e⟩
    rw [e]
    refine ⟨by simp, ?_⟩
    rw [List.length_append, show u.length + ([46, 13, 10] : List UInt8).length - 3 = u.length from by simp, List.drop_left]
theorem implUns (s : ByteArray) (hs : s.size ≤ 1048576) (t : ByteArray) (hts : t.size ≤ s.size) (ht : X.strings_TrimSuffix.f s ⟨#[46, 13, 10]⟩ = some t) (qs : List ByteArray) (last : ByteArray) (e1 : sp t crlf = qs ++ [last]) (e2 : Lib.splitB crlf crlf.size (X.pieces t crlf - 1) t = qs.map (· ++ crlf) ++ [last]) : Ev (fun k => X.impl_Unstuff.f k s) (fin2 s (unb qs ⟨#[]⟩ ++ strip last)) := by
  have hc := congrArg List.length (sp_cat t qs last e1)
  rw [List.length_append, cat_len, data_length, data_length] at hc
  have hq := sp_len t crlf (by decide)
  rw [e1, List.length_append, List.length_singleton] at hq
  have h := implUn_l0 s qs last (by omega) qs.length 0 ⟨#[]⟩ (by omega) (by omega) (by rw [List.drop_zero]; show 0 + _ + _ ≤ _; omega)
  rw [List.drop_zero] at h
  refine Ev.congr (fun k => ?_) h
  unfold X.impl_Unstuff.f
  rw [ht, Option.bind_some, implLines_f t (by omega) qs last e2, Option.bind_some]; rfl
theorem unstuffs (s : ByteArray) (hs : s.size ≤ 1048576) : ∃ r, Ev (fun k => X.spec_Unstuff.f k s) r ∧ Ev (fun k => X.impl_Unstuff.f k s) r := by
  have hsl := data_length s
  -- what spec does below the size bounds
  have hspec : ∀ (h3 : 3 ≤ s.size) (h6 : s.size ≤ 6003) (qs : List ByteArray) (last : ByteArray), sp (s.extract 0 (s.size - 3)) crlf = qs ++ [last] → tot qs ≤ s.size → qs.length ≤ 4294966 → Ev (fun k => X.spec_Unstuff.f k s) (fin s (unb qs ⟨#[]⟩)) := by
    intro h3 h6 qs last e1 ht hq
    have w1 : wrap64 ((s.size : Int) - 3) = ((s.size - 3 : Nat) : Int) := by rw [wrap_id _ (by omega) (by omega)]; omega
    have w2 : wrap64 (((qs ++ [last]).length : Int) - 1) = (qs.length : Int) := by
      rw [List.length_append, List.length_singleton, wrap_id _ (by omega) (by omega)]; omega
    have hll : (qs ++ [last]).length = qs.length + 1 := by simp
    have hsp := l2split_f (s.extract 0 (s.size - 3)) crlf (by decide) (by rw [ByteArray.size_extract]; omega) (by decide)
    rw [e1] at hsp
    refine Ev.congr (f := fun k => X.spec_Unstuff.j0 k s false) (fun k => ?_) ?_
    · unfold X.spec_Unstuff.f
      rw [if_neg (by omega), decide_eq_false (by omega)]
    · refine Ev.step (f := fun k => (X.spec_l2split.f k (s.extract 0 (s.size - 3)) crlf).bind fun t218 => (if 0 ≤ (wrap64 ((t218.length : Int) - 1)) then (if (wrap64 ((t218.length : Int) - 1)) ≤ (t218.length : Int) then ((some (t218.take ((wrap64 ((t218.length : Int) - 1)) : Int).toNat : List ByteArray)).bind fun y221 => (X.spec_Unstuff.l0 k s (⟨#[]⟩ : ByteArray) y221 (y221.length : Int) 0)) else (none)) else (none))) (fun k => ?_) (Ev.bind hsp ?_)
      · rw [X.spec_Unstuff.j0, if_neg (by decide), w1, if_pos (by omega), if_pos (by omega), Int.toNat_natCast]; rfl
      · have h := specUn_l0 s qs (by omega) qs.length 0 ⟨#[]⟩ (by omega) (by omega) (by rw [List.drop_zero]; show 0 + _ ≤ _; omega)
        rw [List.drop_zero] at h
        refine Ev.congr (fun k => ?_) h
        rw [w2, if_pos (by omega), if_pos (by rw [hll]; omega), Int.toNat_natCast, take_init, Option.bind_some]; rfl
  have hshort : ¬ (3 ≤ s.size ∧ s.size ≤ 6003) → Ev (fun k => X.spec_Unstuff.f k s) (⟨#[]⟩, false) := by
    intro h
    refine Ev.congr (f := fun k => X.spec_Unstuff.j0 k s true) (fun k => ?_) (Ev.step (f := fun _ => some ((⟨#[]⟩ : ByteArray), false)) (fun k => by rw [X.spec_Unstuff.j0, if_pos rfl]) (Ev.now _))
    unfold X.spec_Unstuff.f
    by_cases h6 : (s.size : Int) > 6003
    · rw [if_pos h6]
    · rw [if_neg h6, decide_eq_true (by omega)]
  have himpl := implUns s hs
  -- no stuffed body but for lines and the end
  have hnot : tailB s = false → ∀ b, fin2 s b = (⟨#[]⟩, false) := by
    intro ht b
    unfold fin2 fin
    by_cases h0 : s.toList = []
    · rw [if_pos h0]
    rw [if_neg h0, if_neg]
    intro h
    rw [ByteArray.toList_eq, ByteArray.toList_eq] at h
    rw [ByteArray.toList_eq] at h0
    rcases stuffV_shape b with hn | ⟨ls, _, hl, _⟩
    · exact h0 (h.symm.trans hn)
    · have : tailB s = true := (tail_iff s).2 ⟨_, h.symm.trans hl⟩
      rw [ht] at this; cases this
  cases htl : tailB s with
  | false =>
    obtain ⟨qs, last, e1, e2⟩ := lines_of s
    have hi := himpl s (Nat.le_refl _) (by rw [suffix_f s (by omega), htl]; rfl) qs last e1 e2
    rw [hnot htl] at hi
    refine ⟨(⟨#[]⟩, false), ?_, hi⟩
    by_cases hz : 3 ≤ s.size ∧ s.size ≤ 6003
    · obtain ⟨ps, pl, f1, _⟩ := lines_of (s.extract 0 (s.size - 3))
      have hc := congrArg List.length (sp_cat _ ps pl f1)
      rw [List.length_append, cat_len, data_length, data_length, ByteArray.size_extract] at hc
      have hq := sp_len (s.extract 0 (s.size - 3)) crlf (by decide)
      rw [f1, List.length_append, List.length_singleton, ByteArray.size_extract] at hq
      have h := hspec hz.1 hz.2 ps pl f1 (by omega) (by omega)
      have hf := hnot htl (unb ps ⟨#[]⟩)
      unfold fin2 at hf
      rw [if_neg (fun h0 => by rw [ByteArray.toList_eq] at h0; rw [h0] at hsl; simp at hsl; omega)] at hf
      rw [hf] at h
      exact h
    · exact hshort hz
  | true =>
    obtain ⟨u, hu⟩ := (tail_iff s).1 htl
    have hul : s.size = u.length + 3 := by rw [← hsl, hu]; simp
    have hcut : (s.extract 0 (s.size - 3)).data.toList = u := by
      rw [data_extract, hu, hul, List.drop_zero]
      simp
    obtain ⟨qs, last, e1, e2⟩ := lines_of (s.extract 0 (s.size - 3))
    have hi := himpl (s.extract 0 (s.size - 3)) (by rw [ByteArray.size_extract]; omega) (by rw [suffix_f s (by omega), htl]; rfl) qs last e1 e2
    have hc := congrArg List.length (sp_cat _ qs last e1)
    rw [List.length_append, cat_len, data_length, data_length, ByteArray.size_extract] at hc
    have hq := sp_len (s.extract 0 (s.size - 3)) crlf (by decide)
    rw [e1, List.length_append, List.length_singleton, ByteArray.size_extract] at hq
    have hne : ¬ s.toList = [] := fun h0 => by rw [ByteArray.toList_eq] at h0; rw [h0] at hsl; simp at hsl; omega
    have hF : ∀ b, (stuffV b).toList = s.toList → last.data.toList = [] ∧ s.size ≤ 6003 := by
      intro b h
      rw [ByteArray.toList_eq, ByteArray.toList_eq] at h
      rcases stuffV_shape b with hn | ⟨ls, h13, hl, hz⟩
      · rw [ByteArray.toList_eq] at hne
        exact absurd (h.symm.trans hn) hne
      · have hcat : u = catL ls := by
          have := h.symm.trans hl
          rw [hu] at this
          exact List.append_cancel_right this
        have h2 := sp_lines ls h13 (s.extract 0 (s.size - 3)) (hcut.trans hcat)
        rw [e1] at h2
        have h3 := List.append_inj_right' h2 rfl
        simp only [List.cons.injEq, and_true] at h3
        refine ⟨by rw [h3], ?_⟩
        have hz' := data_length (stuffV b)
        rw [h, hsl] at hz'
        omega
    unfold fin2 at hi
    rw [if_neg hne] at hi
    by_cases hz : 3 ≤ s.size ∧ s.size ≤ 6003
    · have h := hspec hz.1 hz.2 qs last e1 (by omega) (by omega)
      by_cases hlast : last.data.toList = []
      · have hs0 : strip last = last := by
          unfold strip
          have : last.size = 0 := by rw [← data_length, hlast]; rfl
          rw [if_neg (fun h => h.1 this)]
        rw [hs0, add_empty _ last (by rw [ByteArray.toList_eq]; exact hlast)] at hi
        exact ⟨_, h, hi⟩
      · have f1 : fin s (unb qs ⟨#[]⟩) = (⟨#[]⟩, false) := by unfold fin; rw [if_neg (fun h => hlast (hF _ h).1)]
        have f2 : fin s (unb qs ⟨#[]⟩ ++ strip last) = (⟨#[]⟩, false) := by unfold fin; rw [if_neg (fun h => hlast (hF _ h).1)]
        rw [f1] at h
        rw [f2] at hi
        exact ⟨_, h, hi⟩
    · have f2 : fin s (unb qs ⟨#[]⟩ ++ strip last) = (⟨#[]⟩, false) := by unfold fin; rw [if_neg (fun h => hz ⟨by omega, (hF _ h).2⟩)]
      rw [f2] at hi
      exact ⟨_, hshort hz, hi⟩
end Go.Proofs.YtnhhbdhkhdbanaaDoor.Pure
