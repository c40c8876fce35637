/- What spec's ParseReply answers: the same recursion. Plain Lean. -/
import Derived.Test.YtnhhbdhkhdbanaaDoorQPRep2
namespace Go.Proofs.YtnhhbdhkhdbanaaDoor.Pure
open Go Go.RowKit Go.Proofs.YtnhhbdhkhdbanaaDoorW.PrintWords
set_option linter.unusedVariables false
set_option linter.unusedSimpArgs false
theorem occ_take (l p : List UInt8) (m i : Nat) (hp : p ≠ []) : Lib.occAt (l.take m) p i = (Lib.occAt l p i && decide (i + p.length ≤ m)) := by
  have h0 : 0 < p.length := List.length_pos_iff.2 hp
  unfold Lib.occAt
  rw [List.drop_take, Bool.eq_iff_iff, Bool.and_eq_true, decide_eq_true_eq, List.isPrefixOf_iff_prefix, List.isPrefixOf_iff_prefix, List.prefix_take_iff]
  constructor
  · rintro ⟨h1, h2⟩; exact ⟨h1, by omega⟩
  · rintro ⟨h1, h2⟩; exact ⟨h1, by omega⟩
theorem idx_hit (l p : List UInt8) (m n : Nat) (hp : p ≠ []) (h : Lib.index (l.take m) p = (n : Int)) : Lib.index l p = (n : Int) := by
  rcases Lib.index_spec (l.take m) p with ⟨h1, _⟩ | ⟨i, h1, h2, h3, h4⟩
  · rw [h1] at h; omega
  · obtain rfl : i = n := by rw [h1] at h; omega
    rw [occ_take _ _ _ _ hp, Bool.and_eq_true, decide_eq_true_eq] at h3
    refine Lib.index_first (by rw [List.length_take] at h2; omega) h3.1 fun j hj => ?_
    have := h4 j hj
    rw [occ_take _ _ _ _ hp, decide_eq_true (p := j + p.length ≤ m) (by omega), Bool.and_true] at this
    exact this
theorem idx_miss (l p : List UInt8) (m : Nat) (hp : p ≠ []) (h : Lib.index (l.take m) p = -1) : Lib.index l p = -1 ∨ ∃ n : Nat, Lib.index l p = (n : Int) ∧ m < n + p.length := by
  rcases Lib.index_spec l p with ⟨h1, _⟩ | ⟨i, h1, h2, h3, h4⟩
  · exact .inl h1
  · refine .inr ⟨i, h1, ?_⟩
    rcases Nat.lt_or_ge m (i + p.length) with h5 | h5
    · exact h5
    · exfalso
      have ho : Lib.occAt (l.take m) p i = true := by rw [occ_take _ _ _ _ hp, h3, decide_eq_true h5]; rfl
      rcases Lib.index_spec (l.take m) p with ⟨_, h7⟩ | ⟨j, h7, _⟩
      · have := h7 i (by rw [List.length_take]; omega)
        rw [ho] at this; cases this
      · rw [h7] at h; omega
def keepT (b : ByteArray) : ByteArray := if (26112 : Int) > (b.size : Int) then b else b.extract 0 26112
theorem keep_f (b : ByteArray) : X.spec_l1keep.f b 26112 = some (keepT b) := by
  unfold X.spec_l1keep.f keepT
  rw [if_neg (by decide)]
  by_cases h : (26112 : Int) > (b.size : Int)
  · rw [if_pos h, if_pos h]
  · rw [if_neg h, if_neg h, if_pos (by decide), if_pos (by omega)]; rfl
theorem keep_list (b : ByteArray) : (keepT b).data.toList = b.data.toList.take 26112 := by
  unfold keepT
  by_cases h : (26112 : Int) > (b.size : Int)
  · rw [if_pos h, List.take_of_length_le (by rw [data_length]; omega)]
  · rw [if_neg h, data_extract, List.drop_zero]
theorem keep_size (b : ByteArray) : (keepT b).size = min 26112 b.size := by
  rw [← data_length, keep_list, List.length_take, data_length]
theorem rest_list (s : ByteArray) (u : Nat) (hu : u ≤ s.size) : (s.extract u s.size).data.toList = s.data.toList.drop u := by
  rw [data_extract, ← data_length s, List.take_length]
theorem crlf_ne : crlf.data.toList ≠ [] := by decide
/-- What stands behind a last line that is no whole one. -/
def cutR (s : ByteArray) : ByteArray := if s.size > 0 ∧ bt s ((s.size : Int) - 1) = 13 then s.extract 0 (s.size - 1) else s
theorem contains_take (l : List UInt8) (n : Nat) (c : UInt8) (h : l[n]? ≠ some c) (hn : n + 1 = l.length) : (l.take n).contains c = l.contains c := by
  have e : l = l.take n ++ [l[n]'(by omega)] := by
    rw [← List.take_succ_eq_append_getElem (by omega), List.take_of_length_le (by omega)]
  have hx : (l[n]'(by omega)) ≠ c := by
    intro hc; apply h; rw [List.getElem?_eq_getElem (by omega), hc]
  rw [Bool.eq_iff_iff, List.contains_iff_mem, List.contains_iff_mem]
  constructor
  · exact fun hm => List.mem_of_mem_take hm
  · intro hm
    rw [e, List.mem_append, List.mem_singleton] at hm
    rcases hm with hm | hm
    · exact hm
    · exact absurd hm.symm hx
theorem not_contains (l : List UInt8) (c : UInt8) : decide (Lib.indexByte l c < 0) = !l.contains c := by
  rw [Lib.contains_iff_indexByte]
  rw [Bool.eq_iff_iff]; simp
theorem pmore_cut (s : ByteArray) : pmore s = (decide (s.size < 512) && (!((cutR s).data.toList.contains 13) && !((cutR s).data.toList.contains 10))) := by
  have hl := data_length s
  unfold pmore
  congr 1
  rw [not_contains, not_contains]
  unfold cutR
  by_cases hc : s.size > 0 ∧ bt s ((s.size : Int) - 1) = 13
  · rw [if_pos hc]
    obtain ⟨h0, h1⟩ := hc
    have e1 : ((s.size : Int) - 1) = ((s.size - 1 : Nat) : Int) := by omega
    have hlast : s.data.toList[s.size - 1]? = some 13 := by
      rw [e1, bt_get s _ (by omega)] at h1
      rw [List.getElem?_eq_getElem (by omega)]
      congr 1
      exact (byte_iff _ 13).1 h1
    rw [data_extract, List.drop_zero, contains_take s.data.toList (s.size - 1) 10 (by rw [hlast]; decide) (by omega), Bool.and_comm]
    congr 1
    have hmem : s.data.toList.contains 13 = true := List.contains_iff_mem.2 (List.mem_of_getElem? hlast)
    rw [hmem, Bool.not_true, Bool.false_or]
    have hge := Lib.indexByte_ge s.data.toList 13
    have hne : Lib.indexByte s.data.toList 13 ≠ -1 := fun h => Lib.indexByte_none h _ hlast
    obtain ⟨o, ho⟩ : ∃ o : Nat, Lib.indexByte s.data.toList 13 = (o : Int) := ⟨(Lib.indexByte s.data.toList 13).toNat, by omega⟩
    obtain ⟨g1, g2⟩ := Lib.indexByte_some ho
    rw [ho, e1]
    have hos : o < s.data.toList.length := by
      rcases Nat.lt_or_ge o s.data.toList.length with h' | h'
      · exact h'
      · rw [List.getElem?_eq_none h'] at g1; cases g1
    by_cases hE : o = s.size - 1
    · rw [decide_eq_true (by omega)]
      symm
      rw [Bool.not_eq_true', ← Bool.not_eq_true, List.contains_iff_mem]
      intro hm
      obtain ⟨j, hj⟩ := List.getElem?_of_mem hm
      have hjl : j < s.size - 1 := by
        rcases Nat.lt_or_ge j (s.size - 1) with h' | h'
        · exact h'
        · rw [List.getElem?_eq_none (by rw [List.length_take]; omega)] at hj; cases hj
      rw [List.getElem?_take_of_lt hjl] at hj
      exact g2 j (by omega) hj
    · rw [decide_eq_false (by omega)]
      symm
      rw [Bool.not_eq_false', List.contains_iff_mem]
      refine List.mem_of_getElem? (i := o) ?_
      rw [List.getElem?_take_of_lt (by omega)]; exact g1
  · rw [if_neg hc, Bool.and_comm]
    congr 1
    cases hm : s.data.toList.contains 13 with
    | false => rfl
    | true =>
      rw [Bool.not_true, Bool.false_or]
      refine decide_eq_false fun hE => hc ?_
      have hs0 : s.size > 0 := by
        rw [List.contains_iff_mem] at hm
        have := List.length_pos_of_mem hm
        omega
      refine ⟨hs0, ?_⟩
      have e1 : ((s.size : Int) - 1) = ((s.size - 1 : Nat) : Int) := by omega
      rw [e1] at hE
      obtain ⟨g1, _⟩ := Lib.indexByte_some hE
      rw [e1, bt_list' s (s.size - 1) 13 g1]; rfl
theorem part_j2 (s : ByteArray) (n : Nat) (hs : s.size ≤ 8796093022200) : Ev (fun k => X.spec_ParseReply.j2 k s (n : Int)) (if (decide (n < 512) && (!(s.data.toList.contains 13) && !(s.data.toList.contains 10))) = true then moreR else badR') := by
  have h13 : Ev (fun k => X.spec_l2has.f k s 13) (s.data.toList.contains 13) := has_ev s (by omega) 13
  have h10 : Ev (fun k => X.spec_l2has.f k s 10) (s.data.toList.contains 10) := has_ev s (by omega) 10
  by_cases c1 : n < 512
  · rw [decide_eq_true c1]
    refine Ev.step (f := fun k => (X.spec_l2has.f k s 13).bind fun t452 => if t452 = true then some badR' else (X.spec_l2has.f k s 10).bind fun t453 => if t453 = true then some badR' else some moreR) (fun k => ?_) (Ev.bind h13 ?_)
    · rw [X.spec_ParseReply.j2, if_pos (by omega)]; rfl
    · cases s.data.toList.contains 13 with
      | true => exact Ev.congr (fun k => if_pos rfl) (Ev.now _)
      | false =>
        refine Ev.congr (fun k => if_neg (by decide)) (Ev.bind h10 ?_)
        cases s.data.toList.contains 10 with
        | true => exact Ev.congr (fun k => if_pos rfl) (Ev.now _)
        | false => exact Ev.congr (fun k => if_neg (by decide)) (Ev.now _)
  · rw [decide_eq_false c1]
    exact Ev.step (f := fun _ => some badR') (fun k => by rw [X.spec_ParseReply.j2, if_neg (by omega)]; rfl) (Ev.now _)
theorem part_f (s : ByteArray) (hs : s.size ≤ 8796093022200) : Ev (fun k => if (s.size : Int) > 0 then (if 0 ≤ wrap64 ((s.size : Int) - 1) then (if wrap64 ((s.size : Int) - 1) < (s.size : Int) then X.spec_ParseReply.j1 k s (s.size : Int) (bt s (wrap64 ((s.size : Int) - 1)) == 13) else none) else none) else X.spec_ParseReply.j1 k s (s.size : Int) false) (if pmore s = true then moreR else badR') := by
  rw [pmore_cut]
  have ew : wrap64 ((s.size : Int) - 1) = (s.size : Int) - 1 := wrap_id _ (by omega) (by omega)
  rw [ew]
  by_cases h0 : s.size > 0
  · refine Ev.congr (fun k => (if_pos (by omega)).trans ((if_pos (by omega)).trans (if_pos (by omega)))) ?_
    by_cases h1 : bt s ((s.size : Int) - 1) = 13
    · rw [show cutR s = s.extract 0 (s.size - 1) from if_pos ⟨h0, h1⟩, beq_iff_eq.2 h1]
      refine Ev.step (f := fun k => X.spec_ParseReply.j2 k (s.extract 0 (s.size - 1)) (s.size : Int)) (fun k => ?_) (part_j2 _ s.size (by rw [ByteArray.size_extract]; omega))
      have e1 : ((s.size : Int) - 1).toNat = s.size - 1 := by omega
      rw [X.spec_ParseReply.j1, if_pos rfl, ew, if_pos (by omega), if_pos (by omega), e1]
    · rw [show cutR s = s from if_neg (fun h => h1 h.2), beq_eq_false_iff_ne.2 h1]
      exact Ev.step (fun k => by rw [X.spec_ParseReply.j1, if_neg (by decide)]) (part_j2 _ s.size hs)
  · refine Ev.congr (fun k => if_neg (by omega)) ?_
    rw [show cutR s = s from if_neg (fun h => h0 h.1)]
    exact Ev.step (fun k => by rw [X.spec_ParseReply.j1, if_neg (by decide)]) (part_j2 _ s.size hs)
theorem three (l : ByteArray) (h3 : 3 ≤ l.size) : ∃ x0 x1 x2 : UInt8, (l.extract 0 3).data.toList = [x0, x1, x2] ∧ bt l 0 = (x0.toNat : Int) ∧ bt l 1 = (x1.toNat : Int) ∧ bt l 2 = (x2.toNat : Int) := by
  have hl := data_length l
  obtain ⟨x0, x1, x2, r, e⟩ : ∃ x0 x1 x2 r, l.data.toList = x0 :: x1 :: x2 :: r := by
    match hh : l.data.toList with
    | [] => rw [hh] at hl; simp at hl; omega
    | [_] => rw [hh] at hl; simp at hl; omega
    | [_, _] => rw [hh] at hl; simp at hl; omega
    | a :: b :: c :: r => exact ⟨a, b, c, r, rfl⟩
  exact ⟨x0, x1, x2, by rw [data_extract, e]; rfl, bt_list' l 0 x0 (by rw [e]; rfl), bt_list' l 1 x1 (by rw [e]; rfl), bt_list' l 2 x2 (by rw [e]; rfl)⟩
theorem good_digits (l : ByteArray) (h : goodL l = true) : 3 ≤ l.size ∧ l.size + 2 ≤ 512 ∧ (48 ≤ bt l 0 ∧ bt l 0 ≤ 57) ∧ (48 ≤ bt l 1 ∧ bt l 1 ≤ 57) ∧ (48 ≤ bt l 2 ∧ bt l 2 ≤ 57) := by
  unfold goodL at h
  simp only [Bool.and_eq_true, decide_eq_true_eq] at h
  exact ⟨h.1.1.1.2, h.1.1.1.1.2, (dg_iff _ _).1 h.1.1.2.1.1, (dg_iff _ _).1 h.1.1.2.1.2, (dg_iff _ _).1 h.1.1.2.2⟩
theorem same_dig (l l' : ByteArray) (h : goodL l = true) (h' : goodL l' = true) : (dig3 l != dig3 l') = !sameB (l'.extract 0 3) l := by
  obtain ⟨g1, _, a0, a1, a2⟩ := good_digits l h
  obtain ⟨g1', _, b0, b1, b2⟩ := good_digits l' h'
  obtain ⟨x0, x1, x2, ex, e0, e1, e2⟩ := three l g1
  obtain ⟨y0, y1, y2, ey, f0, f1, f2⟩ := three l' g1'
  unfold sameB dig3
  rw [ByteArray.toList_eq, ByteArray.toList_eq, ex, ey, e0, e1, e2, f0, f1, f2]
  rw [e0] at a0; rw [e1] at a1; rw [e2] at a2; rw [f0] at b0; rw [f1] at b1; rw [f2] at b2
  simp only [List.isEmpty_cons, Bool.false_or]
  rw [bne, Bool.not_inj_iff, Bool.eq_iff_iff, beq_iff_eq, beq_iff_eq]
  constructor
  · intro hE
    have q0 : x0 = y0 := UInt8.toNat_inj.1 (by omega)
    have q1 : x1 = y1 := UInt8.toNat_inj.1 (by omega)
    have q2 : x2 = y2 := UInt8.toNat_inj.1 (by omega)
    rw [q0, q1, q2]
  · intro hE
    simp only [List.cons.injEq, and_true] at hE
    rw [hE.1, hE.2.1, hE.2.2]
/-- The code so far. -/
def CodeIs (i : Nat) (a1 : ByteArray) (code : Int) : Prop := (i = 0 ∧ a1.toList = []) ∨ (0 < i ∧ ∃ l, goodL l = true ∧ a1 = l.extract 0 3 ∧ code = dig3 l)
theorem specLine (xs acc : List ByteArray) (l a1 : ByteArray) (u m i : Nat) (code : Int) (Q : RR) (hlz : l.size = m) (hu : u ≤ 4294967281) (hm : m ≤ 4294967281) (hi : i < 50) (ha : acc.length = i) (hc : CodeIs i a1 code)
    (hrec : goodL l = true → Ev (fun k => X.spec_ParseReply.l0 k ((u + (m + 2) : Nat) : Int) xs xs (xs.length : Int) ((i + 1 : Nat) : Int) (dig3 l) (acc ++ [textL l])) Q) :
    Ev (fun k => (X.spec_l2line.f k l).bind fun bt454 => (if bt454.2.2.2 = true then (if (i : Int) > 0 then (X.spec_ParseReply.j3 k (u : Int) xs l bt454.1 bt454.2.1 bt454.2.2.1 xs (xs.length : Int) (i : Int) (bt454.1 != code) code acc) else (X.spec_ParseReply.j3 k (u : Int) xs l bt454.1 bt454.2.1 bt454.2.2.1 xs (xs.length : Int) (i : Int) false code acc)) else (X.spec_ParseReply.j3 k (u : Int) xs l bt454.1 bt454.2.1 bt454.2.2.1 xs (xs.length : Int) (i : Int) true code acc)))
      (if (goodL l && sameB a1 l) = true then (if lastL l = true then (dig3 l, acc ++ [textL l], ((u + (m + 2) : Nat) : Int), 2) else Q) else badR') := by
  obtain ⟨c, lb, tx, e1, e2⟩ := l2line_f l (by omega)
  have ew2 : wrap64 ((u : Int) + wrap64 ((l.size : Int) + 2)) = ((u + (m + 2) : Nat) : Int) := by
    rw [wrap_id ((l.size : Int) + 2) (by omega) (by omega), wrap_id _ (by omega) (by omega)]; omega
  have ew3 : wrap64 ((i : Int) + 1) = ((i + 1 : Nat) : Int) := by rw [wrap_id _ (by omega) (by omega)]; omega
  have hal : acc.length < 8796093022208 := by omega
  have JT : ∀ (c : Int) (lb : Bool) (tx : ByteArray), Ev (fun k => X.spec_ParseReply.j3 k (u : Int) xs l c lb tx xs (xs.length : Int) (i : Int) true code acc) badR' := fun c lb tx =>
    Ev.step (f := fun _ => some badR') (fun k => by rw [X.spec_ParseReply.j3, if_pos rfl]; rfl) (Ev.now _)
  refine Ev.bind e1 ?_
  cases hg : goodL l with
  | false => exact Ev.congr (fun k => if_neg (by simp)) (JT c lb tx)
  | true =>
    obtain ⟨ec, elb, etx⟩ := e2 hg
    subst ec elb etx
    have JF : Ev (fun k => X.spec_ParseReply.j3 k (u : Int) xs l (dig3 l) (lastL l) (textL l) xs (xs.length : Int) (i : Int) false code acc) (if lastL l = true then (dig3 l, acc ++ [textL l], ((u + (m + 2) : Nat) : Int), 2) else Q) := by
      cases hla : lastL l with
      | true =>
        refine Ev.step (f := fun _ => some (dig3 l, acc ++ [textL l], ((u + (m + 2) : Nat) : Int), 2)) (fun k => ?_) (Ev.now _)
        rw [X.spec_ParseReply.j3, if_neg (by decide), if_pos hal, Option.bind_some, if_pos rfl, ew2]
      | false =>
        refine Ev.step (fun k => ?_) (hrec hg)
        rw [X.spec_ParseReply.j3, if_neg (by decide), if_pos hal, Option.bind_some, if_neg (by decide), ew2, ew3]
    rw [Bool.true_and]
    refine Ev.congr (f := fun k => if (i : Int) > 0 then (X.spec_ParseReply.j3 k (u : Int) xs l (dig3 l) (lastL l) (textL l) xs (xs.length : Int) (i : Int) (dig3 l != code) code acc) else (X.spec_ParseReply.j3 k (u : Int) xs l (dig3 l) (lastL l) (textL l) xs (xs.length : Int) (i : Int) false code acc)) (fun k => if_pos rfl) ?_
    rcases hc with ⟨hi0, ha1⟩ | ⟨hi0, l', hg', ea, ecode⟩
    · have hsame : sameB a1 l = true := by unfold sameB; rw [ha1]; rfl
      rw [hsame]
      exact Ev.congr (fun k => if_neg (by omega)) JF
    · refine Ev.congr (fun k => if_pos (by omega)) ?_
      subst ecode
      rw [same_dig l l' hg hg', ← ea]
      cases sameB a1 l with
      | true => exact JF
      | false => exact JT _ _ _
theorem specRep (b T : ByteArray) (M : Nat) (hM : M = 26112) (hb : b.size < 4294967281) (hks : T.size = min M b.size) (hkl : T.data.toList = b.data.toList.take M) (xs : List ByteArray) (hlen : xs.length ≤ M + 1) :
    ∀ (n i u : Nat) (acc : List ByteArray) (code : Int) (a1 : ByteArray), 50 - i = n → i ≤ 50 → acc.length = i → u ≤ 512 * i → u ≤ T.size → xs.drop i = sp (T.extract u T.size) crlf → CodeIs i a1 code →
    Ev (fun k => X.spec_ParseReply.l0 k (u : Int) xs xs (xs.length : Int) (i : Int) code acc) (rep n b u a1 acc) := by
  intro n
  induction n with
  | zero =>
    intro i u acc code a1 hn hi ha hu hut hd hc
    have hi' : i < xs.length := by
      rcases Nat.lt_or_ge i xs.length with h | h
      · exact h
      · rw [List.drop_of_length_le h] at hd
        obtain ⟨qs, last, e1, _⟩ := lines_of (T.extract u T.size)
        rw [e1] at hd; simp at hd
    exact Ev.step (f := fun _ => some badR') (fun k => by rw [X.spec_ParseReply.l0, if_pos (by omega), if_pos (by omega), if_pos (by omega), if_pos (by omega)]; rfl) (Ev.now _)
  | succ n ih =>
    intro i u acc code a1 hn hi ha hu hut hd hc
    generalize hT : T.extract u T.size = t at hd
    have htz : t.size = T.size - u := by rw [← hT, ByteArray.size_extract]; omega
    have hbz : (b.extract u b.size).size = b.size - u := by rw [ByteArray.size_extract]; omega
    have htl : t.data.toList = ((b.extract u b.size).data.toList).take (M - u) := by
      rw [← hT, rest_list _ _ hut, rest_list _ _ (by omega), hkl, List.drop_take]
    unfold rep
    by_cases hI : Lib.indexB t crlf = -1
    · rw [sp_miss _ _ hI] at hd
      have hl1 : xs.length - i = 1 := by rw [← List.length_drop, hd]; rfl
      have hi' : i < xs.length := by omega
      have hx : xs[i] = t := by
        have : (xs.drop i)[0]? = some t := by rw [hd]; rfl
        rw [List.getElem?_drop, Nat.add_zero, List.getElem?_eq_getElem hi'] at this
        exact Option.some.inj this
      have hr : rdOf ByteArray.empty xs (i : Int) = t := by rw [rd_get _ _ hi', hx]
      have ew : wrap64 ((xs.length : Int) - 1) = (i : Int) := by rw [wrap_id _ (by omega) (by omega)]; omega
      have P := part_f t (by omega)
      have W : Ev (fun k => X.spec_ParseReply.l0 k (u : Int) xs xs (xs.length : Int) (i : Int) code acc) (if pmore t = true then moreR else badR') := by
        refine Ev.step (fun k => ?_) P
        rw [X.spec_ParseReply.l0, if_pos (by omega), if_pos (by omega), if_pos (by omega), if_neg (by omega), if_pos ew.symm, hr]
      have hI' : Lib.index (((b.extract u b.size).data.toList).take (M - u)) crlf.data.toList = -1 := by rw [← htl]; exact hI
      have hbig : t.size ≥ 1024 → pmore t = false := fun h => by unfold pmore; rw [decide_eq_false (by omega)]; rfl
      rcases idx_miss _ _ _ crlf_ne hI' with h1 | ⟨m, h1, h2⟩
      · have h1' : Lib.indexB (b.extract u b.size) crlf = -1 := h1
        rw [if_pos h1']
        by_cases hB : b.size ≤ M
        · have : t = b.extract u b.size := by
            apply ByteArray.ext; apply Array.ext'
            rw [htl, List.take_of_length_le (by rw [data_length]; omega)]
          rw [← this]; exact W
        · rw [hbig (by omega)] at W
          have : pmore (b.extract u b.size) = false := by unfold pmore; rw [decide_eq_false (by omega)]; rfl
          rw [this]; exact W
      · have h1' : Lib.indexB (b.extract u b.size) crlf = (m : Int) := h1
        have h2' : M - u < m + 2 := h2
        have hne : ¬ Lib.indexB (b.extract u b.size) crlf = -1 := by rw [h1']; omega
        rw [if_neg hne, h1', Int.toNat_natCast]
        obtain ⟨m', e', r'⟩ := idx_room (b.extract u b.size) hne
        obtain rfl : m' = m := by rw [h1'] at e'; omega
        rw [hbig (by omega)] at W
        have hg : goodL ((b.extract u b.size).extract 0 m') = false := by
          have hz : ((b.extract u b.size).extract 0 m').size = m' := by rw [ByteArray.size_extract]; omega
          cases hgg : goodL ((b.extract u b.size).extract 0 m') with
          | false => rfl
          | true => have := (good_digits _ hgg).2.1; omega
        rw [hg, Bool.false_and]; exact W
    · obtain ⟨m, hm, hr0⟩ := idx_room t hI
      have hm' : Lib.indexB (b.extract u b.size) crlf = (m : Int) := idx_hit _ _ (M - u) m crlf_ne (by rw [← htl]; exact hm)
      have hne : ¬ Lib.indexB (b.extract u b.size) crlf = -1 := by rw [hm']; omega
      rw [if_neg hne, hm', Int.toNat_natCast]
      rw [sp_hit _ _ m (by decide) hm] at hd
      have hc2 : crlf.size = 2 := rfl
      rw [hc2] at hd
      have hl2 : xs.length - i ≥ 2 := by
        rw [← List.length_drop, hd]
        obtain ⟨qs, last, e1, _⟩ := lines_of (t.extract (m + 2) t.size)
        rw [e1]; simp
      have hi' : i < xs.length := by omega
      have hx : xs[i] = t.extract 0 m := by
        have : (xs.drop i)[0]? = some (t.extract 0 m) := by rw [hd]; rfl
        rw [List.getElem?_drop, Nat.add_zero, List.getElem?_eq_getElem hi'] at this
        exact Option.some.inj this
      have htl2 : t.extract 0 m = (b.extract u b.size).extract 0 m := by
        apply ByteArray.ext; apply Array.ext'
        rw [data_extract, data_extract, htl, List.take_take, Nat.min_eq_left (by omega)]
      have hr : rdOf ByteArray.empty xs (i : Int) = (b.extract u b.size).extract 0 m := by rw [rd_get _ _ hi', hx, htl2]
      have ew : wrap64 ((xs.length : Int) - 1) = (xs.length : Int) - 1 := wrap_id _ (by omega) (by omega)
      have hlz : ((b.extract u b.size).extract 0 m).size = m := by rw [ByteArray.size_extract]; omega
      have hnext : (xs.drop (i + 1)) = sp (T.extract (u + (m + 2)) T.size) crlf := by
        have h1 : xs.drop (i + 1) = (xs.drop i).tail := by rw [List.tail_drop]
        have h2 : t.extract (m + 2) t.size = T.extract (u + (m + 2)) T.size := by
          rw [htz, ← hT, extract_ex _ _ _ _ (by omega), show u + (T.size - u) = T.size by omega]
        rw [h1, hd, List.tail_cons, h2]
      have hu2 : u + (m + 2) ≤ T.size := by omega
      clear hd hx htl2 htl hT
      generalize hl : (b.extract u b.size).extract 0 m = l at hr hlz ⊢
      have L := specLine xs acc l a1 u m i code (rep n b (u + (m + 2)) (l.extract 0 3) (acc ++ [textL l])) hlz (by omega) (by omega) (by omega) ha hc (fun hg => by
        have hsz := (good_digits l hg).2.1
        exact ih (i + 1) (u + (m + 2)) (acc ++ [textL l]) (dig3 l) (l.extract 0 3) (by omega) (by omega) (by rw [List.length_append, List.length_singleton, ha]) (by omega) hu2 hnext (.inr ⟨by omega, l, hg, rfl, rfl⟩))
      refine Ev.step (fun k => ?_) L
      rw [X.spec_ParseReply.l0, if_pos (by omega), if_pos (by omega), if_pos (by omega), if_neg (by omega), if_neg (by rw [ew]; omega), hr]
theorem specRep_f (b : ByteArray) (hb : b.size < 4294967281) : Ev (fun k => X.spec_ParseReply.f k b) (repV b) := by
  have hk0 := keep_size b
  obtain ⟨M, hM⟩ : ∃ M : Nat, M = 26112 := ⟨_, rfl⟩
  have hks : (keepT b).size = min M b.size := by rw [hM]; exact hk0
  have hkl : (keepT b).data.toList = b.data.toList.take M := by rw [hM]; exact keep_list b
  have h0 := sp_len (keepT b) crlf (by decide)
  have hlen : (sp (keepT b) crlf).length ≤ M + 1 := by omega
  have hd : (sp (keepT b) crlf).drop 0 = sp ((keepT b).extract 0 (keepT b).size) crlf := by
    have hx : ∀ s : ByteArray, s.extract 0 s.size = s := fun s => by simp
    rw [List.drop_zero, hx]
  have hz : 0 ≤ (keepT b).size := Nat.zero_le _
  have rfl' : (⟨#[]⟩ : ByteArray).toList = [] := by rw [ByteArray.toList_eq]
  have hsz : (keepT b).size ≤ 8796093022200 := by omega
  have W := specRep b (keepT b) M hM hb hks hkl (sp (keepT b) crlf) hlen 50 0 0 [] 0 ⟨#[]⟩ (Nat.sub_zero 50) (Nat.zero_le _) rfl (Nat.zero_le _) hz hd (.inl ⟨rfl, rfl'⟩)
  refine Ev.congr (f := fun k => (X.spec_l2split.f k (keepT b) crlf).bind fun t448 => X.spec_ParseReply.l0 k 0 t448 t448 (t448.length : Int) 0 0 []) (fun k => ?_) (Ev.bind (l2split_f (keepT b) crlf (by decide) hsz (show (2 : Nat) ≤ 1152921504606846976 by omega)) W)
  unfold X.spec_ParseReply.f; rw [keep_f, Option.bind_some]; rfl
end Go.Proofs.YtnhhbdhkhdbanaaDoor.Pure
