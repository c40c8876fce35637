/- A text's beginning is read as the whole is, or waits. Plain Lean. -/
import Derived.Test.YtnhhbdhkhdbanaaDoorQPRep3
namespace Go.Proofs.YtnhhbdhkhdbanaaDoor.Pure
open Go Go.RowKit Go.Proofs.YtnhhbdhkhdbanaaDoorW.PrintWords
set_option linter.unusedVariables false
set_option linter.unusedSimpArgs false
theorem rep_ge (b : ByteArray) : ∀ (n u : Nat) (a1 : ByteArray) (acc : List ByteArray), (rep n b u a1 acc).2.2.2 = 2 → (u : Int) ≤ (rep n b u a1 acc).2.2.1 := by
  intro n
  induction n with
  | zero => intro u a1 acc h; cases h
  | succ n ih =>
    intro u a1 acc h
    unfold rep at h ⊢
    split at h
    · split at h <;> cases h
    · rename_i h1
      rw [if_neg h1]
      split at h
      · rename_i h2
        rw [if_pos h2]
        split at h
        · rename_i h3
          rw [if_pos h3]
          show (u : Int) ≤ ((_ : Nat) : Int)
          omega
        · rename_i h3
          rw [if_neg h3]
          have := ih _ _ _ h
          omega
      · cases h
theorem no10 (l : List UInt8) (j : Nat) (h : l[j]? = some 10) : ¬ Lib.indexByte l 10 < 0 := by
  have := Lib.indexByte_ge l 10
  intro h0
  exact Lib.indexByte_none (by omega) j h
theorem has_of_not (l : List UInt8) (h : ¬ Lib.indexByte l 10 < 0) : ∃ j : Nat, l[j]? = some 10 := by
  obtain ⟨o, ho⟩ : ∃ o : Nat, Lib.indexByte l 10 = (o : Int) := ⟨(Lib.indexByte l 10).toNat, by omega⟩
  exact ⟨o, (Lib.indexByte_some ho).1⟩
theorem first_eq (l : List UInt8) (c : UInt8) (o : Nat) (h : l[o]? = some c) (hno : ∀ k, k < o → l[k]? ≠ some c) : Lib.indexByte l c = (o : Int) := by
  have hge := Lib.indexByte_ge l c
  have hne : Lib.indexByte l c ≠ -1 := fun h' => Lib.indexByte_none h' o h
  obtain ⟨o', ho⟩ : ∃ o : Nat, Lib.indexByte l c = (o : Int) := ⟨(Lib.indexByte l c).toNat, by omega⟩
  obtain ⟨g1, g2⟩ := Lib.indexByte_some ho
  rcases Nat.lt_trichotomy o o' with h1 | h1 | h1
  · exact absurd h (g2 o h1)
  · rw [ho, h1]
  · exact absurd g1 (hno o' h1)
theorem goodL_no (l : ByteArray) (h : goodL l = true) : (∀ j : Nat, l.data.toList[j]? ≠ some 13) ∧ (∀ j : Nat, l.data.toList[j]? ≠ some 10) ∧ l.size + 2 ≤ 512 := by
  unfold goodL at h
  simp only [Bool.and_eq_true, decide_eq_true_eq, Bool.not_eq_true'] at h
  refine ⟨fun j hj => ?_, fun j hj => ?_, h.1.1.1.1.2⟩
  · have := List.contains_iff_mem.2 (List.mem_of_getElem? hj)
    rw [h.1.1.1.1.1.1] at this; cases this
  · have := List.contains_iff_mem.2 (List.mem_of_getElem? hj)
    rw [h.1.1.1.1.1.2] at this; cases this
/-- What is bad already stays bad. -/
theorem bad_stays (t s : ByteArray) (m : Nat) (ht : t.data.toList = s.data.toList.take m) (hm : m ≤ s.size) (hp : pmore t = false) :
    (Lib.indexB s crlf = -1 → pmore s = false) ∧ (∀ i : Nat, Lib.indexB s crlf = (i : Int) → m < i + 2 → goodL (s.extract 0 i) = false) := by
  have hl := data_length s
  have htz : t.size = m := by rw [← data_length, ht, List.length_take]; omega
  have up : ∀ (j : Nat) (c : UInt8), t.data.toList[j]? = some c → s.data.toList[j]? = some c ∧ j < m := by
    intro j c h
    have hj : j < m := by
      rcases Nat.lt_or_ge j m with h' | h'
      · exact h'
      · rw [List.getElem?_eq_none (by rw [data_length]; omega)] at h; cases h
    rw [ht, List.getElem?_take_of_lt hj] at h
    exact ⟨h, hj⟩
  have pick : ∀ (i j : Nat) (c : UInt8), i ≤ s.size → s.data.toList[j]? = some c → j < i → (s.extract 0 i).data.toList[j]? = some c := by
    intro i j c hi h hj
    rw [data_extract, List.drop_zero, List.getElem?_take_of_lt hj]; exact h
  have room : ∀ i : Nat, Lib.indexB s crlf = (i : Int) → i + 2 ≤ s.size ∧ s.data.toList[i]? = some 13 := by
    intro i hi
    obtain ⟨n, h1, h2⟩ := idx_room s (by rw [hi]; omega)
    obtain rfl : n = i := by rw [hi] at h1; omega
    refine ⟨h2, ?_⟩
    rcases Lib.index_spec s.data.toList crlf.data.toList with ⟨g, _⟩ | ⟨k, g1, _, g3, _⟩
    · have : Lib.indexB s crlf = -1 := g
      omega
    · have e : Lib.indexB s crlf = (k : Int) := g1
      obtain rfl : k = n := by omega
      exact Lib.occAt_head rfl g3
  unfold pmore at hp
  by_cases h512 : t.size < 512
  · rw [decide_eq_true h512, Bool.true_and] at hp
    by_cases h10 : Lib.indexByte t.data.toList 10 < 0
    · rw [decide_eq_true h10, Bool.true_and] at hp
      have h13 : ¬ Lib.indexByte t.data.toList 13 < 0 := by
        intro h; rw [decide_eq_true h] at hp; cases hp
      rw [decide_eq_false h13, Bool.false_or, decide_eq_false_iff_not] at hp
      obtain ⟨o, ho⟩ : ∃ o : Nat, Lib.indexByte t.data.toList 13 = (o : Int) := ⟨(Lib.indexByte t.data.toList 13).toNat, by omega⟩
      obtain ⟨g1, g2⟩ := Lib.indexByte_some ho
      obtain ⟨u1, u2⟩ := up o 13 g1
      have hf : Lib.indexByte s.data.toList 13 = (o : Int) := by
        refine first_eq _ _ _ u1 fun k hk h => g2 k hk ?_
        rw [ht, List.getElem?_take_of_lt (by omega)]; exact h
      refine ⟨fun _ => ?_, fun i hi hlt => ?_⟩
      · unfold pmore
        rw [hf, decide_eq_false (p := (o : Int) < 0) (by omega), decide_eq_false (p := (o : Int) = (s.size : Int) - 1) (by omega)]
        simp
      · cases hg : goodL (s.extract 0 i) with
        | false => rfl
        | true => exact absurd (pick i o 13 (by have := (room i hi).1; omega) u1 (by omega)) ((goodL_no _ hg).1 o)
    · obtain ⟨j, hj⟩ := has_of_not _ h10
      obtain ⟨u1, u2⟩ := up j 10 hj
      refine ⟨fun _ => ?_, fun i hi hlt => ?_⟩
      · unfold pmore
        rw [decide_eq_false (no10 _ j u1)]; simp
      · cases hg : goodL (s.extract 0 i) with
        | false => rfl
        | true =>
          have hr := room i hi
          have hji : j ≠ i := by rintro rfl; rw [hr.2] at u1; cases u1
          exact absurd (pick i j 10 (by omega) u1 (by omega)) ((goodL_no _ hg).2.1 j)
  · refine ⟨fun _ => by unfold pmore; rw [decide_eq_false (by omega)]; rfl, fun i hi hlt => ?_⟩
    cases hg : goodL (s.extract 0 i) with
    | false => rfl
    | true =>
      have := (goodL_no _ hg).2.2
      have hr := (room i hi).1
      rw [ByteArray.size_extract] at this
      omega
/-- What a beginning says of the whole. -/
def Says (c : Nat) (r' r : RR) : Prop := (r'.2.2.2 = 3 → r.2.2.2 = 3) ∧ (r'.2.2.2 = 2 → r = r') ∧ (r'.2.2.2 = 1 → r.2.2.2 = 2 → (c : Int) < r.2.2.1) ∧ (r'.2.2.2 = 1 ∨ r'.2.2.2 = 2 ∨ r'.2.2.2 = 3)
theorem says (s : ByteArray) (c : Nat) (hc : c ≤ s.size) : ∀ (n u : Nat) (a1 : ByteArray) (acc : List ByteArray), u ≤ c → Says c (rep n (s.extract 0 c) u a1 acc) (rep n s u a1 acc) := by
  have hPz : (s.extract 0 c).size = c := by rw [ByteArray.size_extract]; omega
  have hPl : (s.extract 0 c).data.toList = s.data.toList.take c := by rw [data_extract, List.drop_zero]
  generalize s.extract 0 c = P at hPz hPl
  intro n
  induction n with
  | zero => intro u a1 acc hu; exact ⟨fun _ => rfl, (fun h => by cases h), (fun h => by cases h), .inr (.inr rfl)⟩
  | succ n ih =>
    intro u a1 acc hu
    have hsz : (s.extract u s.size).size = s.size - u := by rw [ByteArray.size_extract]; omega
    have htz : (P.extract u P.size).size = c - u := by rw [ByteArray.size_extract]; omega
    have htl : (P.extract u P.size).data.toList = ((s.extract u s.size).data.toList).take (c - u) := by
      rw [rest_list _ _ (by omega), rest_list _ _ (by omega), hPl, List.drop_take]
    have hB := bad_stays (P.extract u P.size) (s.extract u s.size) (c - u) htl (by omega)
    by_cases hI : Lib.indexB (P.extract u P.size) crlf = -1
    · have hL : rep (n + 1) P u a1 acc = if pmore (P.extract u P.size) = true then moreR else badR' := by rw [rep, if_pos hI]
      rw [hL]
      have hI' : Lib.index (((s.extract u s.size).data.toList).take (c - u)) crlf.data.toList = -1 := by rw [← htl]; exact hI
      have hM := idx_miss _ _ _ crlf_ne hI'
      cases hp : pmore (P.extract u P.size) with
      | false =>
        obtain ⟨b1, b2⟩ := hB hp
        rw [if_neg (by decide)]
        refine ⟨fun _ => ?_, (fun h => by cases h), (fun h => by cases h), .inr (.inr rfl)⟩
        rcases hM with h1 | ⟨m, h1, h2⟩
        · have h1' : Lib.indexB (s.extract u s.size) crlf = -1 := h1
          rw [rep, if_pos h1', b1 h1']; rfl
        · have h1' : Lib.indexB (s.extract u s.size) crlf = (m : Int) := h1
          have h2' : c - u < m + 2 := h2
          rw [rep, if_neg (by rw [h1']; omega), h1', Int.toNat_natCast, b2 m h1' h2', Bool.false_and]; rfl
      | true =>
        rw [if_pos rfl]
        refine ⟨(fun h => by cases h), (fun h => by cases h), fun _ hr => ?_, .inl rfl⟩
        rcases hM with h1 | ⟨m, h1, h2⟩
        · have h1' : Lib.indexB (s.extract u s.size) crlf = -1 := h1
          rw [rep, if_pos h1'] at hr
          split at hr <;> cases hr
        · have h1' : Lib.indexB (s.extract u s.size) crlf = (m : Int) := h1
          have h2' : c - u < m + 2 := h2
          have hne : ¬ Lib.indexB (s.extract u s.size) crlf = -1 := by rw [h1']; omega
          rw [rep, if_neg hne, h1', Int.toNat_natCast] at hr ⊢
          split at hr
          · rename_i hg
            rw [if_pos hg]
            split at hr
            · rename_i hla
              rw [if_pos hla]
              show (c : Int) < ((u + (m + 2) : Nat) : Int)
              omega
            · rename_i hla
              rw [if_neg hla]
              have := rep_ge s n _ _ _ hr
              omega
          · cases hr
    · obtain ⟨m, hm, hr0⟩ := idx_room _ hI
      have hm' : Lib.indexB (s.extract u s.size) crlf = (m : Int) := idx_hit _ _ (c - u) m crlf_ne (by rw [← htl]; exact hm)
      have hne : ¬ Lib.indexB (s.extract u s.size) crlf = -1 := by rw [hm']; omega
      have hl : (P.extract u P.size).extract 0 m = (s.extract u s.size).extract 0 m := by
        apply ByteArray.ext; apply Array.ext'
        rw [data_extract (P.extract u P.size) 0 m, data_extract (s.extract u s.size) 0 m, htl, List.take_take, Nat.min_eq_left (by omega)]
      rw [rep, rep, if_neg hI, if_neg hne, hm, hm', Int.toNat_natCast, hl]
      generalize (s.extract u s.size).extract 0 m = l
      cases hg : (goodL l && sameB a1 l) with
      | false => exact ⟨fun _ => rfl, (fun h => by cases h), (fun h => by cases h), .inr (.inr rfl)⟩
      | true =>
        rw [if_pos rfl, if_pos rfl]
        cases hla : lastL l with
        | true => exact ⟨(fun h => by cases h), fun _ => rfl, (fun h => by cases h), .inr (.inl rfl)⟩
        | false => exact ih (u + (m + 2)) (l.extract 0 3) (acc ++ [textL l]) (by omega)
end Go.Proofs.YtnhhbdhkhdbanaaDoor.Pure
