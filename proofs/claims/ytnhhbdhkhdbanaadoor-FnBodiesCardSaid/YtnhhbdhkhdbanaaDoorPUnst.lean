/- What the two Unstuff answer: one law. Plain Lean. -/
import Derived.Test.YtnhhbdhkhdbanaaDoorPStuf
import Derived.Test.YtnhhbdhkhdbanaaDoorX6
import Derived.Test.YtnhhbdhkhdbanaaDoorX6
namespace Go.Proofs.YtnhhbdhkhdbanaaDoor.Pure
open Go Go.RowKit Go.Proofs.YtnhhbdhkhdbanaaDoorW.PrintWords
set_option linter.unusedVariables false
set_option linter.unusedSimpArgs false
def tot (qs : List ByteArray) : Nat := (qs.map fun q => q.size + 2).sum
def catL (qs : List ByteArray) : List UInt8 := (qs.map fun q => q.data.toList ++ [13, 10]).flatten
theorem cat_len (qs : List ByteArray) : (catL qs).length = tot qs := by
  induction qs with
  | nil => rfl
  | cons q qs ih => 
    simp only [catL, tot, List.map_cons, List.flatten_cons, List.length_append, List.sum_cons] at ih ⊢
    rw [ih, data_length]; simp
theorem split_cat : ∀ (k : Nat) (s : ByteArray) (qs : List ByteArray) (last : ByteArray), Lib.splitB crlf 0 k s = qs ++ [last] → s.data.toList = catL qs ++ last.data.toList
  | 0, s, qs, last, h => by
    have h' : [s] = qs ++ [last] := h
    cases qs with
    | nil => simp only [List.nil_append, List.cons.injEq, and_true] at h'; rw [h']; rfl
    | cons a b => simp at h'
  | k + 1, s, qs, last, h => by
    rcases Lib.indexB_cases s crlf with hm | ⟨i, hi, hr⟩
    · rw [Lib.splitB_miss _ _ _ _ hm] at h
      cases qs with
      | nil => simp only [List.nil_append, List.cons.injEq, and_true] at h; rw [h]; rfl
      | cons a b => simp at h
    · rw [Lib.splitB_hit crlf 0 k s i hi] at h
      cases qs with
      | nil =>
        exfalso
        have hl := congrArg List.length h
        simp only [List.length_cons, List.nil_append, List.length_nil] at hl
        have : ∀ z, Lib.splitB crlf 0 k z ≠ [] := fun z => by
          cases k with
          | zero => simp [Lib.splitB]
          | succ k => unfold Lib.splitB; split <;> simp
        exact this (s.extract (i + crlf.size) s.size) (List.eq_nil_of_length_eq_zero (by omega))
      | cons q qs =>
        rw [List.cons_append, List.cons.injEq] at h
        obtain ⟨hq, ht⟩ := h
        have ih := split_cat k _ qs last ht
        have hc2 : crlf.size = 2 := rfl
        have hocc : (s.extract i (i + crlf.size)).toList = crlf.toList := by
          rcases Lib.index_spec s.data.toList crlf.data.toList with ⟨h1, _⟩ | ⟨j, h1, _, h3, _⟩
          · have : Lib.indexB s crlf = -1 := h1
            omega
          · have hij : j = i := by
              have : Lib.indexB s crlf = (j : Int) := h1
              omega
            subst hij
            exact (occ_at s crlf j hr).2 h3
        rw [ByteArray.toList_eq, ByteArray.toList_eq, data_extract] at hocc
        have e : s.data.toList = s.data.toList.take i ++ (((s.data.toList.take (i + crlf.size)).drop i) ++ s.data.toList.drop (i + crlf.size)) := by
          have h1 := List.take_append_drop (i + crlf.size) s.data.toList
          have h2 := List.take_append_drop i (s.data.toList.take (i + crlf.size))
          rw [List.take_take, Nat.min_eq_left (by omega)] at h2
          rw [← List.append_assoc, h2, h1]
        have hq' : q.data.toList = s.data.toList.take i := by
          rw [← hq, data_extract]; simp
        have ht' : s.data.toList.drop (i + crlf.size) = catL qs ++ last.data.toList := by
          rw [← ih, data_extract, ← data_length s, List.take_length]
        rw [e, hocc, ht', ← hq']
        simp only [catL, List.map_cons, List.flatten_cons, List.append_assoc]
        rfl
theorem sp_cat (s : ByteArray) (qs : List ByteArray) (last : ByteArray) (h : sp s crlf = qs ++ [last]) : s.data.toList = catL qs ++ last.data.toList := split_cat _ s qs last h
/-- Lines without a CR, each with its end: cut again. -/
theorem sp_lines : ∀ (ls : List ByteArray), (∀ l ∈ ls, (13 : UInt8) ∉ l.data.toList) → ∀ s : ByteArray, s.data.toList = catL ls → sp s crlf = ls ++ [(⟨#[]⟩ : ByteArray)]
  | [], _, s, h => by
    have hs : s = ⟨#[]⟩ := by apply ByteArray.ext; apply Array.ext'; rw [h]; rfl
    rw [hs, sp_miss _ _ (by rfl)]; rfl
  | l :: ls, hl, s, h => by
    have h' : s.data.toList = l.data.toList ++ ([13, 10] ++ catL ls) := by
      rw [h]; simp only [catL, List.map_cons, List.flatten_cons, List.append_assoc]
    have hln := data_length l
    have hsn := data_length s
    have hlen : s.size = l.size + (2 + (catL ls).length) := by
      rw [← hsn, h', List.length_append, List.length_append, hln]; rfl
    have hidx : Lib.indexB s crlf = (l.size : Int) := by
      show Lib.index s.data.toList [13, 10] = _
      refine Lib.index_first (by rw [hsn]; omega) ?_ ?_
      · unfold Lib.occAt
        rw [h', ← hln, List.drop_left]
        simp [List.isPrefixOf]
      · intro j hj
        cases hx : Lib.occAt s.data.toList [13, 10] j with
        | false => rfl
        | true =>
          have hh := Lib.occAt_head rfl hx
          rw [h', List.getElem?_append_left (by omega)] at hh
          exact absurd (List.mem_of_getElem? hh) (hl l (List.mem_cons_self ..))
    rw [sp_hit s crlf l.size (by decide) hidx, List.cons_append]
    have hc2 : crlf.size = 2 := rfl
    have e1 : s.extract 0 l.size = l := by
      apply ByteArray.ext; apply Array.ext'
      rw [data_extract, h', ← hln, List.take_left]; rfl
    have e2 : (s.extract (l.size + crlf.size) s.size).data.toList = catL ls := by
      rw [data_extract, ← hsn, List.take_length, h', hc2, ← hln, ← List.drop_drop, List.drop_left]; rfl
    rw [e1, sp_lines ls (fun x hx => hl x (List.mem_cons_of_mem _ hx)) _ e2]
def dotted (q : ByteArray) : ByteArray := if q.size ≠ 0 ∧ bt q 0 = 46 then dot ++ q else q
theorem stf_lists : ∀ (qs : List ByteArray) (acc : ByteArray), (stf qs acc).data.toList = acc.data.toList ++ (catL (qs.map dotted) ++ [46, 13, 10])
  | [], acc => by unfold stf; rw [ByteArray.data_append, Array.toList_append]; rfl
  | q :: qs, acc => by
    have hc : ∀ x : ByteArray, (x ++ crlf).data.toList = x.data.toList ++ [13, 10] := fun x => by rw [ByteArray.data_append, Array.toList_append]; rfl
    have hd : ∀ x : ByteArray, (x ++ dot).data.toList = x.data.toList ++ [46] := fun x => by rw [ByteArray.data_append, Array.toList_append]; rfl
    have hd' : ∀ x : ByteArray, (dot ++ x).data.toList = 46 :: x.data.toList := fun x => by rw [ByteArray.data_append, Array.toList_append]; rfl
    unfold stf
    by_cases h : q.size ≠ 0 ∧ bt q 0 = 46
    · rw [if_pos h, stf_lists qs]
      simp only [List.map_cons, dotted, if_pos h, catL, List.flatten_cons, hd', ByteArray.data_append, Array.toList_append, hd, hc, List.append_assoc, List.cons_append, List.nil_append]
      simp [dot, crlf]
    · rw [if_neg h, stf_lists qs]
      simp only [List.map_cons, dotted, if_neg h, catL, List.flatten_cons, ByteArray.data_append, Array.toList_append, hc, List.append_assoc]
      simp [crlf]
theorem dotted_size (q : ByteArray) : (dotted q).size + 2 ≤ 2 * (q.size + 2) := by
  unfold dotted
  split
  · rw [ByteArray.size_append]
    have : dot.size = 1 := rfl
    omega
  · omega
theorem tot_dotted : ∀ qs : List ByteArray, tot (qs.map dotted) ≤ 2 * tot qs
  | [] => Nat.le_refl _
  | q :: qs => by
    have ih := tot_dotted qs
    have := dotted_size q
    simp only [tot, List.map_cons, List.sum_cons] at ih ⊢
    omega
def stuffV (b : ByteArray) : ByteArray := if bodyB (sp b crlf).dropLast ((sp b crlf).getLastD ⟨#[]⟩) b = true then stf (sp b crlf).dropLast ⟨#[]⟩ else ⟨#[]⟩
theorem stuffV_eq (b : ByteArray) (qs : List ByteArray) (last : ByteArray) (h : sp b crlf = qs ++ [last]) : stuffV b = if bodyB qs last b = true then stf qs ⟨#[]⟩ else ⟨#[]⟩ := by
  unfold stuffV; rw [h]; simp
/-- What comes out of Stuff is empty, or it is lines and the end; and it is short. -/
theorem stuffV_shape (b : ByteArray) : (stuffV b).data.toList = [] ∨ ∃ ls : List ByteArray, (∀ l ∈ ls, (13 : UInt8) ∉ l.data.toList) ∧ (stuffV b).data.toList = catL ls ++ [46, 13, 10] ∧ (stuffV b).size ≤ 6003 := by
  obtain ⟨qs, last, e1, _⟩ := lines_of b
  rw [stuffV_eq b qs last e1]
  cases hb : bodyB qs last b with
  | false => left; rfl
  | true =>
    right
    rw [if_pos rfl]
    have hl := stf_lists qs ⟨#[]⟩
    have hl' : (stf qs ⟨#[]⟩).data.toList = catL (qs.map dotted) ++ [46, 13, 10] := hl
    refine ⟨qs.map dotted, ?_, hl', ?_⟩
    · intro l hm
      obtain ⟨q, hq, rfl⟩ := List.mem_map.1 hm
      unfold bodyB at hb
      rw [Bool.and_eq_true, List.all_eq_true] at hb
      have := hb.2 q hq
      unfold lineB at this
      simp only [Bool.and_eq_true, Bool.not_eq_true'] at this
      have h13 : (13 : UInt8) ∉ q.data.toList := fun hh => by
        have h1 := this.1.1.2
        rw [List.contains_iff_mem.2 hh] at h1; cases h1
      unfold dotted
      split
      · rw [ByteArray.data_append, Array.toList_append]
        intro hh
        rcases List.mem_append.1 hh with hh | hh
        · exact absurd hh (by decide)
        · exact h13 hh
      · exact h13
    · rw [← data_length, hl', List.length_append, cat_len]
      have h1 := tot_dotted qs
      have h2 := congrArg List.length (sp_cat b qs last e1)
      rw [List.length_append, cat_len, data_length] at h2
      unfold bodyB at hb
      simp only [Bool.and_eq_true, decide_eq_true_eq] at hb
      simp only [List.length_cons, List.length_nil]
      omega
theorem stuff_evs (b : ByteArray) (hs : b.size < 4294967281) : Ev (fun k => X.spec_Stuff.f k b) (stuffV b) ∧ Ev (fun k => X.impl_Stuff.f k b) (stuffV b) := by
  obtain ⟨qs, last, e1, e2⟩ := lines_of b
  have h1 := specLines_f b qs last e1
  have h2 := implBody_f b hs qs last e1 e2
  rw [stuffV_eq b qs last e1]
  cases hb : bodyB qs last b with
  | false =>
    rw [hb] at h1 h2
    refine ⟨?_, ?_⟩
    · exact Ev.bind (f := fun k (bt204 : List ByteArray × Bool) => if bt204.2 = true then (X.spec_Stuff.l0 k (⟨#[]⟩ : ByteArray) bt204.1 (bt204.1.length : Int) 0) else (some (⟨#[]⟩ : ByteArray))) h1 (Ev.now _)
    · exact Ev.bind (f := fun k (t210 : Bool) => if t210 = true then ((X.impl_lines.f b).bind fun t211 => (X.impl_Stuff.l0 k (⟨#[]⟩ : ByteArray) t211 (t211.length : Int) 0)) else (some (⟨#[]⟩ : ByteArray))) h2 (Ev.now _)
  | true =>
    obtain ⟨b1, b2, b3⟩ := body_bounds b qs last e1 hb
    rw [hb] at h1 h2
    refine ⟨?_, ?_⟩
    · refine Ev.bind (f := fun k (bt204 : List ByteArray × Bool) => if bt204.2 = true then (X.spec_Stuff.l0 k (⟨#[]⟩ : ByteArray) bt204.1 (bt204.1.length : Int) 0) else (some (⟨#[]⟩ : ByteArray))) h1 ?_
      have := specStf_l0 qs b1 b2 qs.length 0 ⟨#[]⟩ (by omega) (by omega) (Nat.le_refl 0)
      rw [List.drop_zero] at this
      exact this
    · refine Ev.bind (f := fun k (t210 : Bool) => if t210 = true then ((X.impl_lines.f b).bind fun t211 => (X.impl_Stuff.l0 k (⟨#[]⟩ : ByteArray) t211 (t211.length : Int) 0)) else (some (⟨#[]⟩ : ByteArray))) h2 ?_
      have := implStf_l0 qs last b3 b1 b2 qs.length 0 ⟨#[]⟩ (by omega) (by omega) (Nat.le_refl 0)
      rw [List.drop_zero] at this
      refine Ev.congr (fun k => ?_) this
      simp only [if_true]
      rw [implLines_f b hs qs last e2, Option.bind_some]; rfl
end Go.Proofs.YtnhhbdhkhdbanaaDoor.Pure
