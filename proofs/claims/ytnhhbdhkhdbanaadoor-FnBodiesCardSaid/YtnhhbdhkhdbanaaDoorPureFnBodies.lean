/- The pure statement of FnBodies. Plain Lean. -/
import Derived.Test.YtnhhbdhkhdbanaaDoorX7
import Derived.Test.YtnhhbdhkhdbanaaDoorPBod
namespace Go.Proofs.YtnhhbdhkhdbanaaDoor.Pure
open Go Go.RowKit Go.Proofs.YtnhhbdhkhdbanaaDoorW.PrintWords
set_option linter.unusedVariables false
set_option linter.unusedSimpArgs false
theorem ev_one {α : Type} {g : Nat → Option α} {r s : α} (h : Ev g r) (h' : Ev g s) : r = s := by
  obtain ⟨K, h⟩ := h
  obtain ⟨K', h'⟩ := h'
  have a := h (K + K') (by omega)
  have b := h' (K + K') (by omega)
  rw [a] at b
  exact Option.some.inj b
theorem bod_j2 (l1 : List Int) (hl : Bytes l1) : Ev (fun k => X.laws_FnBodies.j2 k l1) true := by
  obtain ⟨t, ht, hz⟩ := drawUnstuff_f l1 hl
  obtain ⟨r, hs, hi⟩ := unstuffs t (by omega)
  -- what impl says is honest
  have hH : r.2 = true → (stuffV r.1).toList = t.toList ∧ r.1.size ≤ 1048576 := by
    intro hr
    obtain ⟨qs, last, e1, e2⟩ := lines_of (if tailB t = true then t.extract 0 (t.size - 3) else t)
    have hle : (if tailB t = true then t.extract 0 (t.size - 3) else t).size ≤ t.size := by
      split
      · rw [ByteArray.size_extract]; omega
      · exact Nat.le_refl _
    have W := implUns t (by omega) _ hle (suffix_f t (by omega)) qs last e1 e2
    have E := ev_one hi W
    have hc := congrArg List.length (sp_cat _ qs last e1)
    rw [List.length_append, cat_len, data_length, data_length] at hc
    have hu := unb_size qs ⟨#[]⟩
    have hst := strip_size last
    have h0 : (⟨#[]⟩ : ByteArray).size = 0 := rfl
    unfold fin2 fin at E
    split at E
    · rw [E] at hr; cases hr
    · split at E
      · rename_i h; rw [E]; exact ⟨h, by rw [ByteArray.size_append]; omega⟩
      · rw [E] at hr; cases hr
  obtain ⟨b, ok⟩ := r
  refine Ev.step (f := fun k => (X.spec_DrawUnstuff.f k l1).bind fun t219 => ((X.impl_Unstuff.f k t219).bind fun bt220 => ((X.spec_Unstuff.f k t219).bind fun bt222 => (if (bt220.2 == bt222.2) = true then (if bt220.1.toList = bt222.1.toList then (if bt220.2 = true then ((X.impl_Stuff.f k bt220.1).bind fun t224 => (some (t224.toList == t219.toList))) else (some true)) else (some false)) else (some false))))) (fun k => by rw [X.laws_FnBodies.j2]) ?_
  refine Ev.bind ht (Ev.bind hi (Ev.bind hs (Ev.congr (fun k => (if_pos (by simp)).trans (if_pos rfl)) ?_)))
  cases ok with
  | false => exact Ev.congr (fun k => if_neg (by simp)) (Ev.now _)
  | true =>
    obtain ⟨h1, h2⟩ := hH rfl
    refine Ev.congr (fun k => if_pos rfl) (Ev.bind (stuff_evs b (by have : b.size ≤ 1048576 := h2; omega)).2 ?_)
    have h1' : (stuffV b).toList = t.toList := h1
    rw [h1', beq_self_eq_true]
    exact Ev.now _
theorem bod_j0 (a b : List Int) (ha : Bytes a) (hb : Bytes b) : Ev (fun k => X.laws_FnBodies.j0 k a b false) true := by
  obtain ⟨t, ht, hz⟩ := drawStuff_f a ha
  have J2 := bod_j2 b hb
  obtain ⟨hs, hi⟩ := stuff_evs t (by omega)
  obtain ⟨qs, last, e1, e2⟩ := lines_of t
  have hv := implBody_f t (by omega) qs last e1 e2
  have hV := stuffV_eq t qs last e1
  have J1 : Ev (fun k => X.laws_FnBodies.j1 k b t (stuffV t) false) true := by
    cases hB : bodyB qs last t with
    | false =>
      rw [hB] at hV
      have h0 : (stuffV t).toList = [] := by rw [hV]; rw [if_neg (by decide), ByteArray.toList_eq]
      exact Ev.step (fun k => by rw [X.laws_FnBodies.j1, if_neg (by decide), if_pos h0]) J2
    | true =>
      rw [hB, if_pos rfl] at hV
      rw [hV]
      have hl : (stf qs ⟨#[]⟩).data.toList = catL (qs.map dotted) ++ [46, 13, 10] := stf_lists qs ⟨#[]⟩
      have hback := back_f t hz qs last e1 hB
      have hsz : (stf qs ⟨#[]⟩).size ≤ 6003 := by rw [← hV]; exact stuffV_size t
      generalize stf qs ⟨#[]⟩ = s at *
      have hsl := data_length s
      have hlen : s.size = (catL (qs.map dotted)).length + 3 := by rw [← hsl, hl]; simp
      have hne : ¬ s.toList = ([] : List UInt8) := fun h0 => by rw [ByteArray.toList_eq] at h0; rw [h0] at hsl; simp at hsl; omega
      have hI := eol_index qs (no13 t qs last hB)
      have hx : ((⟨#[13, 10]⟩ : ByteArray) ++ s).data.toList = [13, 10] ++ (catL (qs.map dotted) ++ [46, 13, 10]) := by rw [ByteArray.data_append, Array.toList_append, hl]
      have hxz : ((⟨#[13, 10]⟩ : ByteArray) ++ s).size = s.size + 2 := by rw [ByteArray.size_append]; show 2 + s.size = _; omega
      have hat := at_f ((⟨#[13, 10]⟩ : ByteArray) ++ s) ⟨#[13, 10, 46, 13, 10]⟩ (by omega) (by show 5 ≤ _; omega) (catL (qs.map dotted)).length (by rw [hx]; exact hI) (by decide)
      have ew : wrap64 ((s.size : Int) - 3) = ((catL (qs.map dotted)).length : Int) := by rw [wrap_id _ (by omega) (by omega)]; omega
      refine Ev.step (f := fun k => (X.impl_Unstuff.f k s).bind fun bt216 => (if bt216.2 = true then (if bt216.1.toList = t.toList then (if 2 + s.size ≤ 9223372036854775807 then ((X.laws_at.f k ((⟨#[13, 10]⟩ : ByteArray) ++ s) (⟨#[13, 10, 46, 13, 10]⟩ : ByteArray) 0).bind fun t218 => (if t218 = (wrap64 ((s.size : Int) - 3)) then (X.laws_FnBodies.j2 k b) else (some false))) else (none)) else (some false)) else (some false))) (fun k => by rw [X.laws_FnBodies.j1, if_neg (by decide), if_neg hne]) ?_
      refine Ev.bind hback (Ev.congr (fun k => (if_pos rfl).trans ((if_pos rfl).trans (if_pos (by omega)))) (Ev.bind hat (Ev.congr (fun k => if_pos ew.symm) J2)))
  refine Ev.step (f := fun k => (X.spec_DrawStuff.f k a).bind fun t212 => ((X.impl_Stuff.f k t212).bind fun t213 => ((X.spec_Stuff.f k t212).bind fun t214 => (if t213.toList = t214.toList then ((X.impl_ValidBody.f k t212).bind fun t215 => (X.laws_FnBodies.j1 k b t212 t213 (t215 != (t213.toList != ([] : List UInt8))))) else (X.laws_FnBodies.j1 k b t212 t213 true))))) (fun k => by rw [X.laws_FnBodies.j0, if_neg (by decide)]) ?_
  refine Ev.bind ht (Ev.bind hi (Ev.bind hs (Ev.congr (fun k => if_pos rfl) (Ev.bind hv ?_))))
  have hE : (bodyB qs last t != ((stuffV t).toList != ([] : List UInt8))) = false := by
    cases hB : bodyB qs last t with
    | false =>
      rw [hB] at hV
      have h0 : (stuffV t).toList = [] := by rw [hV]; rw [if_neg (by decide), ByteArray.toList_eq]
      rw [h0]; rfl
    | true =>
      rw [hB, if_pos rfl] at hV
      have hl : (stf qs ⟨#[]⟩).data.toList = catL (qs.map dotted) ++ [46, 13, 10] := stf_lists qs ⟨#[]⟩
      have hne : ((stuffV t).toList != ([] : List UInt8)) = true := by
        rw [hV, ByteArray.toList_eq, hl]; simp
      rw [hne]; rfl
  show Ev (fun k => X.laws_FnBodies.j1 k b t (stuffV t) (bodyB qs last t != ((stuffV t).toList != ([] : List UInt8)))) true
  rw [hE]; exact J1
theorem FnBodies (a : List Int) (wa : a.length ≤ maxLen ∧ ∀ y ∈ a, (Lit.int .u8 y).wf = true) (b : List Int) (wb : b.length ≤ maxLen ∧ ∀ y ∈ b, (Lit.int .u8 y).wf = true) : ∃ k, X.laws_FnBodies.f k a b = some true := by
  have T : ∀ (l : List Int), (∀ y ∈ l, (Lit.int .u8 y).wf = true) → l.length ≤ 1048576 → Bytes l := fun l h hl => ⟨hl, fun x hx => by
    have := h x hx
    have h2 : (decide ((0 : Int) ≤ x) && decide (x ≤ 255)) = true := this
    simpa using h2⟩
  have Z : ∃ k, X.laws_FnBodies.j0 k a b true = some true := ⟨1, by rw [X.laws_FnBodies.j0, if_pos rfl]⟩
  unfold X.laws_FnBodies.f
  by_cases h1 : (a.length : Int) > 1048576
  · simp only [if_pos h1]; exact Z
  by_cases h2 : (b.length : Int) > 1048576
  · simp only [if_neg h1, if_pos h2]; exact Z
  simp only [if_neg h1, if_neg h2]
  have ew : wrap64 ((a.length : Int) + (b.length : Int)) = (a.length : Int) + (b.length : Int) := wrap_id _ (by omega) (by omega)
  rw [ew]
  by_cases h3 : (a.length : Int) + (b.length : Int) > 1048576
  · rw [decide_eq_true h3]; exact Z
  · rw [decide_eq_false h3]
    obtain ⟨K, hK⟩ := bod_j0 a b (T a wa.2 (by omega)) (T b wb.2 (by omega))
    exact ⟨K, hK K (Nat.le_refl _)⟩
end Go.Proofs.YtnhhbdhkhdbanaaDoor.Pure
