/- Lines of a body: what spec's l2lines and impl's lines answer, side by side. Plain Lean. -/
import Derived.Test.YtnhhbdhkhdbanaaDoorOX2
import Derived.Test.YtnhhbdhkhdbanaaDoorOX4
import Derived.Test.YtnhhbdhkhdbanaaDoorOX5
import Derived.Test.YtnhhbdhkhdbanaaDoorOX2
import Derived.Test.YtnhhbdhkhdbanaaDoorOPLin
import Derived.Test.YtnhhbdhkhdbanaaDoorOPList
namespace Go.Proofs.YtnhhbdhkhdbanaaDoor.Pure
open Go Go.RowKit Go.Proofs.YtnhhbdhkhdbanaaDoorW.PrintWords
set_option linter.unusedVariables false
set_option linter.unusedSimpArgs false
theorem implLines_f (s : ByteArray) (hs : s.size < 4294967281) (qs : List ByteArray) (last : ByteArray) (h : Lib.splitB crlf crlf.size (X.pieces s crlf - 1) s = qs.map (· ++ crlf) ++ [last]) : X.impl_lines.f s = some (qs.map (· ++ crlf) ++ [last]) := by
  unfold X.impl_lines.f X.strings_SplitAfter.f
  rw [if_pos ⟨hs, by decide⟩, Option.bind_some]
  exact congrArg some h
def lineB (q : ByteArray) : Bool := decide (q.size ≤ 998) && !(q.data.toList.contains 13) && !(q.data.toList.contains 10) && !(q.data.toList.contains 0)
theorem lines_l0 (x4 xs : List ByteArray) (hl : xs.length ≤ 8796093022208) (hx : ∀ p ∈ xs, p.size ≤ 8796093022208) : ∀ (n i : Nat), xs.length - i = n → i ≤ xs.length →
    Ev (fun k => X.spec_l2lines.l0 k x4 xs (xs.length : Int) (i : Int)) (if (xs.drop i).all lineB = true then (x4, true) else ([], false)) := by
  intro n
  induction n with
  | zero =>
    intro i hn hi
    refine Ev.step (f := fun _ => some (x4, true)) (fun k => ?_) ?_
    · rw [X.spec_l2lines.l0, if_neg (by omega)]
    · rw [List.drop_of_length_le (by omega)]; exact Ev.now _
  | succ n ih =>
    intro i hn hi
    have e2 : wrap64 ((i : Int) + 1) = ((i + 1 : Nat) : Int) := by rw [wrap_id _ (by omega) (by omega)]; omega
    have hk := ih (i + 1) (by omega) (by omega)
    have hi' : i < xs.length := by omega
    rw [List.drop_eq_getElem_cons hi', List.all_cons]
    have hz := hx _ (List.getElem_mem hi')
    obtain ⟨K, hK⟩ := hk
    obtain ⟨K1, h1⟩ := has_ev xs[i] hz 13
    obtain ⟨K2, h2⟩ := has_ev xs[i] hz 10
    obtain ⟨K3, h3⟩ := has_ev xs[i] hz 0
    refine ⟨K + K1 + K2 + K3 + 1, fun k hk => ?_⟩
    obtain ⟨k, rfl⟩ : ∃ k', k = k' + 1 := ⟨k - 1, by omega⟩
    have g0 : X.spec_l2lines.l0 k x4 xs (xs.length : Int) ((i + 1 : Nat) : Int) = _ := hK k (by omega)
    have g1 : X.spec_l2has.f k xs[i] 13 = _ := h1 k (by omega)
    have g2 : X.spec_l2has.f k xs[i] 10 = _ := h2 k (by omega)
    have g3 : X.spec_l2has.f k xs[i] 0 = _ := h3 k (by omega)
    show X.spec_l2lines.l0 (k + 1) x4 xs (xs.length : Int) (i : Int) = _
    rw [X.spec_l2lines.l0, if_pos (by omega), if_pos (by omega), if_pos (by omega), rd_get xs i hi', e2, g0, g1, g2, g3]
    simp only [Option.bind_some]
    unfold lineB
    by_cases hs : (xs[i].size : Int) > 998
    · rw [if_pos hs, decide_eq_false (p := xs[i].size ≤ 998) (by omega)]; simp
    rw [if_neg hs, decide_eq_true (p := xs[i].size ≤ 998) (by omega)]
    cases xs[i].data.toList.contains 13 <;> cases xs[i].data.toList.contains 10 <;> cases xs[i].data.toList.contains 0 <;> simp
def bodyB (qs : List ByteArray) (last : ByteArray) (s : ByteArray) : Bool := decide (s.size ≤ 3000) && last.toList.isEmpty && qs.all lineB
theorem take_init (qs : List ByteArray) (last : ByteArray) : (qs ++ [last]).take qs.length = qs := by simp
theorem rd_last (qs : List ByteArray) (last : ByteArray) : rdOf ByteArray.empty (qs ++ [last]) (qs.length : Int) = last := by
  rw [rd_get _ _ (by simp)]; simp
theorem specLines_f (s : ByteArray) (qs : List ByteArray) (last : ByteArray) (h : sp s crlf = qs ++ [last]) : Ev (fun k => X.spec_l2lines.f k s) (if bodyB qs last s = true then (qs, true) else ([], false)) := by
  unfold bodyB
  by_cases hs : (s.size : Int) > 3000
  · refine Ev.congr (f := fun _ => some ([], false)) (fun k => ?_) ?_
    · unfold X.spec_l2lines.f; rw [if_pos hs]
    · rw [decide_eq_false (p := s.size ≤ 3000) (by omega)]; exact Ev.now _
  have hlen := sp_len s crlf (by decide)
  rw [h, List.length_append, List.length_singleton] at hlen
  have hsz : ∀ p ∈ qs, p.size ≤ 8796093022208 := fun p hp => by
    have := sp_sizes crlf s.size (Lib.countB s crlf) s (Nat.le_refl _) p (by
      show p ∈ sp s crlf
      rw [h]; exact List.mem_append_left _ hp)
    omega
  rw [decide_eq_true (p := s.size ≤ 3000) (by omega), Bool.true_and]
  have e1 : wrap64 (((qs ++ [last]).length : Int) - 1) = (qs.length : Int) := by
    rw [List.length_append, List.length_singleton, wrap_id _ (by omega) (by omega)]; omega
  have hsp := l2split_f s crlf (by decide) (by omega) (by decide)
  rw [h] at hsp
  refine Ev.congr (f := fun k => (X.spec_l2split.f k s crlf).bind fun t162 => (if 0 ≤ (wrap64 ((t162.length : Int) - 1)) then (if (wrap64 ((t162.length : Int) - 1)) < (t162.length : Int) then (if (rdOf ByteArray.empty t162 (wrap64 ((t162.length : Int) - 1))).toList = ([] : List UInt8) then (if (wrap64 ((t162.length : Int) - 1)) ≤ (t162.length : Int) then ((some (t162.take ((wrap64 ((t162.length : Int) - 1)) : Int).toNat : List ByteArray)).bind fun y166 => (X.spec_l2lines.l0 k y166 y166 (y166.length : Int) 0)) else (none)) else (some (([] : List ByteArray), false))) else (none)) else (none))) (fun k => ?_) (Ev.bind hsp ?_)
  · unfold X.spec_l2lines.f; rw [if_neg hs]; rfl
  · have c1 : (0 : Int) ≤ (qs.length : Int) := by omega
    have c2 : (qs.length : Int) < ((qs ++ [last]).length : Int) := by rw [List.length_append, List.length_singleton]; omega
    refine Ev.congr (f := fun k => if last.toList = ([] : List UInt8) then X.spec_l2lines.l0 k qs qs (qs.length : Int) 0 else some ([], false)) (fun k => ?_) ?_
    · rw [e1, rd_last, if_pos c1, if_pos c2, if_pos (Int.le_of_lt c2), Int.toNat_natCast, take_init, Option.bind_some]
    by_cases hl : last.toList = []
    · have he : last.toList.isEmpty = true := by rw [hl]; rfl
      rw [he, Bool.true_and]
      have := lines_l0 qs qs (by omega) hsz qs.length 0 (by omega) (by omega)
      rw [List.drop_zero] at this
      exact Ev.congr (fun k => if_pos hl) this
    · have he : last.toList.isEmpty = false := by simpa using hl
      rw [he, Bool.false_and]
      exact Ev.congr (fun k => if_neg hl) (Ev.now _)
theorem ext_crlf (q : ByteArray) : (q ++ crlf).extract 0 q.size = q := by
  apply ByteArray.ext; apply Array.ext'
  rw [data_extract, ByteArray.data_append, Array.toList_append, ← data_length q, List.take_left', List.drop_zero]
  rfl
theorem body_l0 (xs : List ByteArray) (hl : xs.length ≤ 8796093022208) (hx : ∀ p ∈ xs, p.size ≤ 1048576) : ∀ (n i : Nat), xs.length - i = n → i ≤ xs.length →
    Ev (fun k => X.impl_ValidBody.l0 k (xs.map (· ++ crlf)) (xs.length : Int) (i : Int)) ((xs.drop i).all lineB) := by
  intro n
  induction n with
  | zero =>
    intro i hn hi
    refine Ev.step (f := fun _ => some true) (fun k => ?_) ?_
    · rw [X.impl_ValidBody.l0, if_neg (by omega)]
    · rw [List.drop_of_length_le (by omega)]; exact Ev.now _
  | succ n ih =>
    intro i hn hi
    have e2 : wrap64 ((i : Int) + 1) = ((i + 1 : Nat) : Int) := by rw [wrap_id _ (by omega) (by omega)]; omega
    have hk := ih (i + 1) (by omega) (by omega)
    have hi' : i < xs.length := by omega
    rw [List.drop_eq_getElem_cons hi', List.all_cons]
    have hz := hx _ (List.getElem_mem hi')
    have hr : rdOf ByteArray.empty (xs.map (· ++ crlf)) (i : Int) = xs[i] ++ crlf := by rw [rd_get _ i (by simpa using hi')]; simp
    have hlm : ((xs.map (· ++ crlf)).length : Int) = (xs.length : Int) := by simp
    generalize xs[i] = q at hz hr ⊢
    have hc2 : crlf.size = 2 := rfl
    have hsz : (q ++ crlf).size = q.size + 2 := by rw [ByteArray.size_append, hc2]
    have e3 : wrap64 (((q ++ crlf).size : Int) - 2) = (q.size : Int) := by rw [hsz, wrap_id _ (by omega) (by omega)]; omega
    have hca : X.strings_ContainsAny.f q ⟨#[13, 10, 0]⟩ = some (q.data.toList.any fun b => ([13, 10, 0] : List UInt8).contains b) := by
      unfold X.strings_ContainsAny.f
      rw [if_pos ⟨by omega, by decide, by decide, by decide⟩, containsAny_iff]
    refine Ev.step (f := fun k => if (q.size : Int) > 998 then some false else if (q.data.toList.any fun b => ([13, 10, 0] : List UInt8).contains b) = true then some false else X.impl_ValidBody.l0 k (xs.map (· ++ crlf)) (xs.length : Int) ((i + 1 : Nat) : Int)) (fun k => ?_) ?_
    · rw [X.impl_ValidBody.l0, if_pos (by omega), if_pos (by omega), if_pos (by omega), hr, e3, if_pos (by omega), if_pos (by omega), Int.toNat_natCast, ext_crlf, hca, Option.bind_some, e2]
    · have hl : lineB q = (decide (q.size ≤ 998) && !(q.data.toList.any fun b => ([13, 10, 0] : List UInt8).contains b)) := by
        unfold lineB
        have : (q.data.toList.any fun b => ([13, 10, 0] : List UInt8).contains b) = (q.data.toList.contains 13 || q.data.toList.contains 10 || q.data.toList.contains 0) := by
          rw [Bool.eq_iff_iff]
          simp only [List.any_eq_true, List.contains_iff_mem, Bool.or_eq_true, List.mem_cons, List.not_mem_nil, or_false]
          constructor
          · rintro ⟨b, hb, rfl | rfl | rfl⟩
            · exact .inl (.inl hb)
            · exact .inl (.inr hb)
            · exact .inr hb
          · rintro ((h | h) | h)
            · exact ⟨_, h, .inl rfl⟩
            · exact ⟨_, h, .inr (.inl rfl)⟩
            · exact ⟨_, h, .inr (.inr rfl)⟩
        rw [this]
        cases q.data.toList.contains 13 <;> cases q.data.toList.contains 10 <;> cases q.data.toList.contains 0 <;> simp
      rw [hl]
      by_cases hs : (q.size : Int) > 998
      · simp only [if_pos hs, decide_eq_false (p := q.size ≤ 998) (by omega), Bool.false_and]; exact Ev.now _
      simp only [if_neg hs, decide_eq_true (p := q.size ≤ 998) (by omega), Bool.true_and]
      cases hb : (q.data.toList.any fun b => ([13, 10, 0] : List UInt8).contains b) with
      | true => simp only [if_true, Bool.not_true, Bool.false_and]; exact Ev.now _
      | false => simp only [Bool.false_eq_true, if_false, Bool.not_false, Bool.true_and]; exact hk
theorem implBody_f (s : ByteArray) (hs0 : s.size < 4294967281) (qs : List ByteArray) (last : ByteArray) (h : sp s crlf = qs ++ [last]) (h' : Lib.splitB crlf crlf.size (X.pieces s crlf - 1) s = qs.map (· ++ crlf) ++ [last]) : Ev (fun k => X.impl_ValidBody.f k s) (bodyB qs last s) := by
  unfold bodyB
  by_cases hs : (s.size : Int) > 3000
  · refine Ev.congr (f := fun _ => some false) (fun k => ?_) ?_
    · unfold X.impl_ValidBody.f; rw [if_pos hs]
    · rw [decide_eq_false (p := s.size ≤ 3000) (by omega)]; exact Ev.now _
  have hlen := sp_len s crlf (by decide)
  rw [h, List.length_append, List.length_singleton] at hlen
  have hsz : ∀ p ∈ qs, p.size ≤ 1048576 := fun p hp => by
    have := sp_sizes crlf s.size (Lib.countB s crlf) s (Nat.le_refl _) p (by
      show p ∈ sp s crlf
      rw [h]; exact List.mem_append_left _ hp)
    omega
  rw [decide_eq_true (p := s.size ≤ 3000) (by omega), Bool.true_and]
  have hll : (qs.map (· ++ crlf) ++ [last]).length = qs.length + 1 := by simp
  have e1 : wrap64 (((qs.map (· ++ crlf) ++ [last]).length : Int) - 1) = (qs.length : Int) := by
    rw [hll, wrap_id _ (by omega) (by omega)]; omega
  have er : rdOf ByteArray.empty (qs.map (· ++ crlf) ++ [last]) (qs.length : Int) = last := by rw [rd_get _ _ (by simp)]; simp
  have et : (qs.map (· ++ crlf) ++ [last]).take qs.length = qs.map (· ++ crlf) := by
    rw [show qs.length = (qs.map (· ++ crlf)).length by simp]; exact List.take_left ..
  refine Ev.congr (f := fun k => if last.toList = ([] : List UInt8) then X.impl_ValidBody.l0 k (qs.map (· ++ crlf)) (qs.length : Int) 0 else some false) (fun k => ?_) ?_
  · unfold X.impl_ValidBody.f
    rw [if_neg hs, implLines_f s hs0 qs last h', Option.bind_some, e1, er, if_pos (by omega), if_pos (by rw [hll]; omega), if_pos (show (qs.length : Int) ≤ _ by rw [hll]; omega), Int.toNat_natCast, et, Option.bind_some]
    simp
  · by_cases hl : last.toList = []
    · have he : last.toList.isEmpty = true := by rw [hl]; rfl
      rw [he, Bool.true_and]
      refine Ev.congr (fun k => if_pos hl) ?_
      have := body_l0 qs (by omega) hsz qs.length 0 (by omega) (by omega)
      rw [List.drop_zero] at this
      exact this
    · have he : last.toList.isEmpty = false := by simpa using hl
      rw [he, Bool.false_and]
      exact Ev.congr (fun k => if_neg hl) (Ev.now _)
end Go.Proofs.YtnhhbdhkhdbanaaDoor.Pure
