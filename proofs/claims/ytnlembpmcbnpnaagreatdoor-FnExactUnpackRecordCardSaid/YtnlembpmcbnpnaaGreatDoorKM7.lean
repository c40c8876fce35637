/- Part 7 of the proof of laws.FnExactUnpackRecord: contracts of functions that it reaches, and laws of what these compute. No condition beyond what each theorem says. -/
import Derived.Lib.CutLaws
import Derived.Lib.SplitLaws
import Derived.Test.YtnlembpmcbnpnaaGreatDoorKM2
import Derived.Test.YtnlembpmcbnpnaaGreatDoorKM3
import Derived.Test.YtnlembpmcbnpnaaGreatDoorKM4
import Derived.Test.YtnlembpmcbnpnaaGreatDoorKM5
import Derived.Test.YtnlembpmcbnpnaaGreatDoorKM6
/- The readers of packed records, impl's and the reference's: what they answer at every text, and at packed parts. Plain Lean. -/
namespace Go.Proofs.YtnlembpmcbnpnaaGreatDoor.Pure
open Go Go.RowKit Go.Proofs.YtnlembpmcbnpnaaGreatDoorW.PrintWords
set_option linter.unusedVariables false
set_option linter.unusedSimpArgs false
def B (l : List UInt8) : ByteArray := ⟨l.toArray⟩
theorem B_data (l : List UInt8) : (B l).data.toList = l := rfl
theorem B_size (l : List UInt8) : (B l).size = l.length := by rw [Lib.size_eq, B_data]
theorem B_eta (b : ByteArray) : B b.data.toList = b := Lib.mk_data b
theorem B_extract (l : List UInt8) (i j : Nat) : (B l).extract i j = B ((l.drop i).take (j - i)) := by
  have := Lib.extract_data (B l) i j
  rw [B_data] at this
  rw [← B_eta ((B l).extract i j), this]
theorem B_append (l r : List UInt8) : B l ++ B r = B (l ++ r) := by
  rw [← B_eta (B l ++ B r), ByteArray.data_append, Array.toList_append, B_data, B_data]
def nT (n : Nat) : List UInt8 := Lib.decDigits n
def sT (s : List UInt8) : List UInt8 := nT s.length ++ 58 :: s
theorem nT_no (n : Nat) (c : UInt8) (h : c = 32 ∨ c = 58) : c ∉ nT n := fun hc => by
  have := dd_dig n c hc
  rcases h with rfl | rfl
  · exact absurd this.1 (by decide)
  · exact absurd this.2 (by decide)
theorem cut_len (l s : List UInt8) : (Lib.cut l s).1.length ≤ l.length ∧ (Lib.cut l s).2.1.length ≤ l.length := by
  unfold Lib.cut
  split
  · simp only [List.length_take, List.length_drop]; omega
  · simp
theorem word_f (l : List UInt8) (h : l.length ≤ 1048576) : X.impl_parts_word.f (B l) = some (B (Lib.cut l [32]).1, B (Lib.cut l [32]).2.1) := by
  unfold X.impl_parts_word.f X.strings_Cut.f
  rw [if_pos (by rw [B_size]; omega), Option.bind_some]
  rfl
theorem inum_f (l : List UInt8) (h : l.length ≤ 1048576) : X.impl_parts_number.f (B l) = some (X.piV (B (Lib.cut l [32]).1), B (Lib.cut l [32]).2.1) := by
  unfold X.impl_parts_number.f
  have := (cut_len l [32]).1
  rw [word_f l h, Option.bind_some]
  dsimp only
  rw [if_pos (by rw [B_size]; omega)]
theorem trim_f (l : List UInt8) : ∃ r, X.strings_TrimPrefix.f (B l) ⟨#[32]⟩ = some (B r) ∧ r.length ≤ l.length ∧ (∀ t, l = 32 :: t → r = t) ∧ (l = [] → r = []) := by
  unfold X.strings_TrimPrefix.f X.stringslite_TrimPrefix.f X.stringslite_HasPrefix.f
  have e1 : ((⟨#[32]⟩ : ByteArray).size : Int) = 1 := rfl
  have e2 : (((⟨#[32]⟩ : ByteArray).size : Int)).toNat = 1 := rfl
  simp only [e1, e2, B_size]
  cases l with
  | nil => exact ⟨[], by rw [if_neg (by decide)]; rfl, Nat.le_refl _, fun t h => (by cases h), fun _ => rfl⟩
  | cons c t =>
    rw [if_pos (by rw [List.length_cons]; omega), if_pos (by omega), if_pos (by rw [List.length_cons]; omega), Option.bind_some, B_extract, Lib.toList_data, B_data]
    by_cases hc : c = 32
    · subst hc
      refine ⟨t, ?_, by simp, fun t' h => (by cases h; rfl), fun h => (by cases h)⟩
      rw [if_pos (by simp [Lib.toList_data]), if_pos (by omega), if_pos (by rw [List.length_cons]; omega), Option.bind_some, B_extract]
      simp
    · refine ⟨c :: t, ?_, Nat.le_refl _, fun t' h => absurd (List.cons.inj h).1 hc, fun h => (by cases h)⟩
      rw [if_neg (by simpa [Lib.toList_data] using hc), Option.bind_some]
theorem atoiV_dd (n : Nat) (h : n ≤ 1000000000000000000) : X.atoiV (B (nT n)) = some (n : Int) := by
  unfold X.atoiV
  rw [B_data]
  unfold nT
  rw [atoi_dd n h]
theorem piV_dd (n : Nat) (h : n ≤ 1000000000000000000) : X.piV (B (nT n)) = (n : Int) := by
  unfold X.piV
  rw [B_data]
  unfold nT
  rw [parseInt_dd n h]
theorem istr_f (l : List UInt8) (h : l.length ≤ 1048576) : ∃ x r, X.impl_parts_str.f (B l) = some (B x, B r) ∧ x.length ≤ l.length ∧ r.length ≤ l.length := by
  unfold X.impl_parts_str.f X.strings_Cut.f
  have hc := cut_len l [58]
  rw [if_pos (by rw [B_size]; omega), Option.bind_some]
  have e1 : (⟨(Lib.cut (B l).data.toList (⟨#[58]⟩ : ByteArray).data.toList).1.toArray⟩ : ByteArray) = B (Lib.cut l [58]).1 := rfl
  have e2 : (⟨(Lib.cut (B l).data.toList (⟨#[58]⟩ : ByteArray).data.toList).2.1.toArray⟩ : ByteArray) = B (Lib.cut l [58]).2.1 := rfl
  dsimp only
  rw [e1, e2]
  generalize (Lib.cut l [58]).1 = c1 at hc ⊢
  generalize (Lib.cut l [58]).2.1 = c2 at hc ⊢
  rw [if_pos (by rw [B_size]; omega)]
  cases X.atoiV (B c1) with
  | none => exact ⟨[], [], rfl, Nat.zero_le _, Nat.zero_le _⟩
  | some k =>
    dsimp only
    by_cases h1 : k < 0
    · rw [if_pos h1]; exact ⟨[], [], rfl, Nat.zero_le _, Nat.zero_le _⟩
    rw [if_neg h1]
    by_cases h2 : ((B c2).size : Int) < k
    · rw [if_pos h2]; exact ⟨[], [], rfl, Nat.zero_le _, Nat.zero_le _⟩
    rw [if_neg h2, B_extract, B_extract, B_size]
    obtain ⟨r, e, hr, _⟩ := trim_f ((c2.drop k.toNat).take (c2.length - k.toNat))
    rw [e, Option.bind_some]
    refine ⟨_, _, rfl, ?_, ?_⟩
    · simp only [List.length_take, List.drop_zero]; omega
    · simp only [List.length_take, List.length_drop] at hr; omega
theorem istr_at (s t r : List UInt8) (ht : t = 32 :: r ∨ t = [] ∧ r = []) (h : (sT s ++ t).length ≤ 1048576) : X.impl_parts_str.f (B (sT s ++ t)) = some (B s, B r) := by
  have hl : (nT s.length ++ 58 :: (s ++ t)).length ≤ 1048576 := by simpa [sT, List.append_assoc] using h
  rw [show sT s ++ t = nT s.length ++ 58 :: (s ++ t) by simp [sT, List.append_assoc]]
  have hn : (nT s.length).length ≤ 1048576 := by rw [List.length_append] at hl; omega
  have hs : s.length ≤ 1048576 := by simp only [List.length_append, List.length_cons] at hl; omega
  unfold X.impl_parts_str.f X.strings_Cut.f
  rw [if_pos (by rw [B_size]; omega), Option.bind_some]
  have ec : Lib.cut (nT s.length ++ 58 :: (s ++ t)) [58] = (nT s.length, s ++ t, true) := cut_hit _ _ _ (nT_no _ _ (.inr rfl))
  have e1 : (⟨(Lib.cut (B (nT s.length ++ 58 :: (s ++ t))).data.toList (⟨#[58]⟩ : ByteArray).data.toList).1.toArray⟩ : ByteArray) = B (nT s.length) := by
    show B (Lib.cut (nT s.length ++ 58 :: (s ++ t)) [58]).1 = _; rw [ec]
  have e2 : (⟨(Lib.cut (B (nT s.length ++ 58 :: (s ++ t))).data.toList (⟨#[58]⟩ : ByteArray).data.toList).2.1.toArray⟩ : ByteArray) = B (s ++ t) := by
    show B (Lib.cut (nT s.length ++ 58 :: (s ++ t)) [58]).2.1 = _; rw [ec]
  dsimp only
  rw [e1, e2, if_pos (by rw [B_size]; omega), atoiV_dd _ (by omega)]
  dsimp only
  rw [if_neg (by omega), if_neg (by rw [B_size, List.length_append]; omega), B_extract, B_extract, B_size, Int.toNat_natCast]
  have ed : ((s ++ t).drop s.length).take ((s ++ t).length - s.length) = t := by
    rw [List.drop_left, List.take_of_length_le (by rw [List.length_append]; omega)]
  have ex : ((s ++ t).drop 0).take (s.length - 0) = s := by rw [List.drop_zero, Nat.sub_zero, List.take_left]
  rw [ed, ex]
  obtain ⟨q, e, _, h1, h2⟩ := trim_f t
  rw [e, Option.bind_some]
  rcases ht with rfl | ⟨rfl, rfl⟩
  · rw [h1 r rfl]
  · rw [h2 rfl]
theorem inum_at (n : Nat) (t r : List UInt8) (hn : n ≤ 1000000000000000000) (ht : t = 32 :: r ∨ t = [] ∧ r = []) (h : (nT n ++ t).length ≤ 1048576) : X.impl_parts_number.f (B (nT n ++ t)) = some ((n : Int), B r) := by
  rw [inum_f _ h]
  rcases ht with rfl | ⟨rfl, rfl⟩
  · rw [cut_hit _ _ _ (nT_no _ _ (.inl rfl)), piV_dd n hn]
  · rw [List.append_nil, cut_miss _ _ (nT_no _ _ (.inl rfl)), piV_dd n hn]
theorem word_at (c : UInt8) (r : List UInt8) (hc : c ≠ 32) (h : (c :: 32 :: r).length ≤ 1048576) : X.impl_parts_word.f (B (c :: 32 :: r)) = some (B [c], B r) := by
  rw [word_f _ h]
  have := cut_hit [c] r 32 (by simpa using Ne.symm hc)
  rw [show c :: 32 :: r = [c] ++ 32 :: r from rfl, this]
/-! The reference's readers. -/
theorem bt_B (l : List UInt8) (j : Nat) (x : UInt8) (h : l[j]? = some x) : bt (B l) (j : Int) = (x.toNat : Int) := by
  have hj : j < l.length := (List.getElem?_eq_some_iff.1 h).1
  have e : (B l).data.toList[j]? = some ((B l)[j]'(by rw [B_size]; exact hj)) := Lib.data_getElem? (B l) j (by rw [B_size]; exact hj)
  unfold bt
  rw [dif_pos (by rw [Int.toNat_natCast, B_size]; exact hj)]
  rw [B_data, h] at e
  have e2 := Option.some.inj e
  have : (B l)[(j : Int).toNat]'(by rw [Int.toNat_natCast, B_size]; exact hj) = x := by rw [e2]; rfl
  rw [this]
def upL (c : UInt8) : List UInt8 → List UInt8 × List UInt8
  | [] => ([], [])
  | b :: r => if b = c then ([], r) else (b :: (upL c r).1, (upL c r).2)
theorem upL_len (c : UInt8) : ∀ l : List UInt8, (upL c l).1.length ≤ l.length ∧ (upL c l).2.length ≤ l.length
  | [] => ⟨Nat.le_refl _, Nat.le_refl _⟩
  | b :: r => by
    have := upL_len c r
    unfold upL
    split
    · simp
    · simp only [List.length_cons]; omega
theorem upL_hit (c : UInt8) : ∀ (l r : List UInt8), c ∉ l → upL c (l ++ c :: r) = (l, r)
  | [], r, _ => by rw [List.nil_append, upL, if_pos rfl]
  | b :: l, r, h => by
    rw [List.cons_append, upL, if_neg (fun e => h (by rw [e]; exact List.mem_cons_self)), upL_hit c l r (fun hc => h (List.mem_cons_of_mem _ hc))]
theorem upL_miss (c : UInt8) : ∀ (l : List UInt8), c ∉ l → upL c l = (l, [])
  | [], _ => rfl
  | b :: l, h => by
    rw [upL, if_neg (fun e => h (by rw [e]; exact List.mem_cons_self)), upL_miss c l (fun hc => h (List.mem_cons_of_mem _ hc))]
theorem up_l0 (c : UInt8) (l : List UInt8) (hl : l.length ≤ 1048576) : ∀ (n i : Nat), l.length - i = n → i ≤ l.length →
    Ev (fun k => X.spec_l6rd_upTo.l0 k (c.toNat : Int) (i : Int) (B l)) (B (l.take i ++ (upL c (l.drop i)).1), B (upL c (l.drop i)).2) := by
  intro n
  induction n with
  | zero =>
    intro i hn hi
    obtain rfl : i = l.length := by omega
    refine Ev.step (f := fun _ => some (B l, B [])) (fun k => ?_) (by rw [List.drop_length, List.take_length]; simpa [upL] using Ev.now (B l, B []))
    rw [X.spec_l6rd_upTo.l0, if_neg (by rw [B_size]; omega), if_pos (by omega), if_pos (by rw [B_size]; omega), Int.toNat_natCast, B_extract, B_extract, B_size, List.drop_length, List.drop_zero, Nat.sub_zero, List.take_length]
    rw [if_neg (by rw [B_size]; simp)]
    simp
  | succ n ih =>
    intro i hn hi
    have hi' : i < l.length := by omega
    have e2 : wrap64 ((i : Int) + 1) = ((i + 1 : Nat) : Int) := by rw [wrap_id _ (by omega) (by omega)]; omega
    have hb := bt_B l i l[i] (List.getElem?_eq_getElem hi')
    have hk := ih (i + 1) (by omega) (by omega)
    rw [List.take_succ_eq_append_getElem hi', List.append_assoc, List.singleton_append] at hk
    rw [List.drop_eq_getElem_cons hi', upL]
    by_cases hc : l[i] = c
    · rw [if_pos hc]
      refine Ev.step (f := fun _ => some (B (l.take i ++ []), B (l.drop (i + 1)))) (fun k => ?_) (Ev.now _)
      have hx : (l.drop i).take (l.length - i) = l.drop i := List.take_of_length_le (by rw [List.length_drop]; omega)
      have hz : (B l).size = l.length := B_size l
      rw [X.spec_l6rd_upTo.l0, hz, if_pos (by omega), if_pos (by omega), if_pos (by rw [hb, hc]), if_pos (by omega), Int.toNat_natCast, B_extract, B_extract, hx]
      have hy : (B (l.drop i)).size = l.length - i := by rw [B_size, List.length_drop]
      rw [hy, if_pos (by omega), if_pos (by omega), B_extract]
      have hw : (l.drop (i + 1)).take (l.length - i - 1) = l.drop (i + 1) := List.take_of_length_le (by rw [List.length_drop]; omega)
      simp only [List.drop_drop, List.drop_zero, Nat.sub_zero, List.append_nil, hw]
    · rw [if_neg hc]
      refine Ev.step (fun k => ?_) hk
      have hne : ¬ ((l[i].toNat : Int) = (c.toNat : Int)) := fun e => hc (UInt8.toNat_inj.1 (by omega))
      rw [X.spec_l6rd_upTo.l0, if_pos (by rw [B_size]; omega), if_pos (by omega), hb, if_neg hne, e2]
theorem up_f (c : UInt8) (l : List UInt8) (hl : l.length ≤ 1048576) : Ev (fun k => X.spec_l6rd_upTo.f k (B l) (c.toNat : Int)) (B (upL c l).1, B (upL c l).2) := by
  have := up_l0 c l hl l.length 0 (by omega) (by omega)
  simpa [X.spec_l6rd_upTo.f] using this
def numO : List UInt8 → Nat → Option Nat
  | [], a => some a
  | b :: r, a => if 48 ≤ b.toNat ∧ b.toNat ≤ 57 then numO r (a * 10 + (b.toNat - 48)) else none
theorem numO_dd : ∀ (l : List UInt8) (a : Nat), (∀ b ∈ l, 48 ≤ b.toNat ∧ b.toNat ≤ 57) → numO l a = some (valD l a)
  | [], a, _ => rfl
  | b :: r, a, h => by rw [numO, if_pos (h b List.mem_cons_self), valD]; exact numO_dd r _ (fun c hc => h c (List.mem_cons_of_mem _ hc))
def tenP : Nat → Nat
  | 0 => 1
  | n + 1 => tenP n * 10
theorem tenP_le (i : Nat) (h : i ≤ 11) : tenP i ≤ 100000000000 :=
  (show ∀ j : Fin 12, tenP j.val ≤ 100000000000 by decide) ⟨i, Nat.lt_succ_of_le h⟩
theorem tenP_more (a d i : Nat) (ha : a < tenP i) (hd : d ≤ 9) : a * 10 + d < tenP (i + 1) := by
  show a * 10 + d < tenP i * 10
  omega
theorem number_l0 (l : List UInt8) (h12 : l.length ≤ 12) : ∀ (n i a : Nat), l.length - i = n → i ≤ l.length → a < tenP i →
    Ev (fun k => X.spec_l2number.l0 k (B l) (a : Int) (i : Int)) (match numO (l.drop i) a with | some v => ((v : Int), true) | none => (0, false)) := by
  intro n
  induction n with
  | zero =>
    intro i a hn hi ha
    rw [List.drop_of_length_le (by omega)]
    refine Ev.step (f := fun _ => some ((a : Int), true)) (fun k => ?_) (Ev.now _)
    rw [X.spec_l2number.l0, if_neg (by rw [B_size]; omega)]
  | succ n ih =>
    intro i a hn hi ha
    have hi' : i < l.length := by omega
    have hb := bt_B l i l[i] (List.getElem?_eq_getElem hi')
    have hz : ((B l).size : Int) = (l.length : Int) := by rw [B_size]
    rw [List.drop_eq_getElem_cons hi', numO]
    generalize l[i] = x at hb
    have h9 : a < 100000000000 := Nat.lt_of_lt_of_le ha (tenP_le i (by omega))
    have q1 : (i : Int) < ((B l).size : Int) := by rw [hz]; omega
    have q2 : (0 : Int) ≤ (i : Int) := by omega
    by_cases c : 48 ≤ x.toNat ∧ x.toNat ≤ 57
    · rw [if_pos c]
      have q3 : ¬ ((x.toNat : Int) < 48) := by clear ih ha; omega
      have q4 : ¬ ((x.toNat : Int) > 57) := by clear ih ha; omega
      have hI := ih (i + 1) (a * 10 + (x.toNat - 48)) (by omega) (by omega) (tenP_more a (x.toNat - 48) i ha (by omega))
      clear ih ha
      have ew1 : wrap64 ((a : Int) * 10) = (a : Int) * 10 := wrap_id _ (by omega) (by omega)
      have e3 : ((x.toNat : Int) - 48) % 256 = ((x.toNat - 48 : Nat) : Int) := by omega
      have ew2 : wrap64 ((a : Int) * 10 + ((x.toNat - 48 : Nat) : Int)) = ((a * 10 + (x.toNat - 48) : Nat) : Int) := by
        rw [wrap_id _ (by omega) (by omega)]; omega
      have ew3 : wrap64 ((i : Int) + 1) = ((i + 1 : Nat) : Int) := by rw [wrap_id _ (by omega) (by omega)]; omega
      refine Ev.step (f := fun k => X.spec_l2number.l0 k (B l) ((a * 10 + (x.toNat - 48) : Nat) : Int) ((i + 1 : Nat) : Int)) (fun k => ?_) hI
      rw [X.spec_l2number.l0, if_pos q1, if_pos q2, hb, if_neg q3, if_neg q4, ew1, e3, ew2, ew3]
    · rw [if_neg c]
      refine Ev.step (f := fun _ => some (0, false)) (fun k => ?_) (Ev.now _)
      rw [X.spec_l2number.l0, if_pos q1, if_pos q2, hb]
      by_cases d : (x.toNat : Int) < 48
      · rw [if_pos d]
      · rw [if_neg d, if_pos (by omega)]
def numV (m : Nat) (l : List UInt8) : Int × Bool := if 1 ≤ l.length ∧ l.length ≤ m then (match numO l 0 with | some v => ((v : Int), true) | none => (0, false)) else (0, false)
theorem number_f (l : List UInt8) (m : Nat) (hm : m ≤ 12) : Ev (fun k => X.spec_l2number.f k (B l) (m : Int)) (numV m l) := by
  have JT : Ev (fun k => X.spec_l2number.j0 k (B l) true) (0, false) := Ev.step (f := fun _ => some (0, false)) (fun k => by rw [X.spec_l2number.j0, if_pos rfl]) (Ev.now _)
  have hz : ((B l).size : Int) = (l.length : Int) := by rw [B_size]
  unfold numV X.spec_l2number.f
  rw [hz]
  by_cases h1 : (l.length : Int) < 1
  · rw [if_neg (by omega)]
    exact Ev.congr (fun k => if_pos h1) JT
  · by_cases h2 : (l.length : Int) > (m : Int)
    · rw [if_neg (by omega)]
      exact Ev.congr (fun k => by rw [if_neg h1, decide_eq_true h2]) JT
    · rw [if_pos (by omega)]
      refine Ev.congr (f := fun k => X.spec_l2number.j0 k (B l) false) (fun k => by rw [if_neg h1, decide_eq_false h2]) (Ev.step (fun k => ?_) (number_l0 l (by omega) l.length 0 0 (by omega) (by omega) (Nat.one_pos)))
      rw [X.spec_l2number.j0, if_neg (by decide)]; rfl
theorem numV_dd (m n : Nat) (h : (nT n).length ≤ m) : numV m (nT n) = ((n : Int), true) := by
  unfold numV
  have h1 : 1 ≤ (nT n).length := by
    cases e : nT n with
    | nil => exact absurd e (dd_ne n)
    | cons _ _ => simp
  rw [if_pos ⟨h1, h⟩, show numO (nT n) 0 = some (valD (nT n) 0) from numO_dd _ _ (dd_dig n)]
  show (((valD (Lib.decDigits n) 0 : Nat) : Int), true) = _
  rw [valD_dd]
theorem snum_f (l : List UInt8) (hl : l.length ≤ 1048576) : Ev (fun k => X.spec_l6rd_num.f k (B l)) ((numV 12 (upL 32 l).1).1, B (upL 32 l).2) := by
  refine Ev.congr (f := fun k => (X.spec_l6rd_upTo.f k (B l) 32).bind fun bt101 => ((X.spec_l2number.f k bt101.1 12).bind fun bt103 => (some (bt103.1, bt101.2)))) (fun k => rfl) ?_
  exact Ev.bind (up_f 32 l hl) (Ev.bind (number_f (upL 32 l).1 12 (by omega)) (Ev.now _))
theorem snum_at (n : Nat) (t r : List UInt8) (hn : (nT n).length ≤ 12) (ht : t = 32 :: r ∨ t = [] ∧ r = []) (h : (nT n ++ t).length ≤ 1048576) : Ev (fun k => X.spec_l6rd_num.f k (B (nT n ++ t))) ((n : Int), B r) := by
  have := snum_f (nT n ++ t) h
  rcases ht with rfl | ⟨rfl, rfl⟩
  · rw [upL_hit 32 _ _ (nT_no _ _ (.inl rfl)), numV_dd 12 n hn] at this; exact this
  · rw [List.append_nil] at this ⊢
    rw [upL_miss 32 _ (nT_no _ _ (.inl rfl)), numV_dd 12 n hn] at this; exact this
theorem tag_at (c : UInt8) (r : List UInt8) (hc : c ≠ 32) (h : (c :: 32 :: r).length ≤ 1048576) : Ev (fun k => X.spec_l6rd_upTo.f k (B (c :: 32 :: r)) 32) (B [c], B r) := by
  have := up_f 32 (c :: 32 :: r) h
  rw [show c :: 32 :: r = [c] ++ 32 :: r from rfl, upL_hit 32 [c] r (by simpa using Ne.symm hc)] at this
  exact this
theorem keep_f (l : List UInt8) (n : Int) : X.spec_l1keep.f (B l) n = some (B (l.take n.toNat)) := by
  unfold X.spec_l1keep.f
  by_cases h1 : n < 0
  · rw [if_pos h1, show n.toNat = 0 by omega]; rfl
  rw [if_neg h1]
  by_cases h2 : n > ((B l).size : Int)
  · rw [if_pos h2, List.take_of_length_le (by rw [B_size] at h2; omega)]
  rw [if_neg h2, if_pos (by omega), if_pos (by omega), B_extract, List.drop_zero, Nat.sub_zero]
theorem sstr_val (l x r : List UInt8) (m : Int) (hl : l.length ≤ 1048576) (h1 : (numV 9 (upL 58 l).1).1 = m) (hx : (upL 58 l).2.take m.toNat = x) (hr : (upL 58 l).2.drop (x.length + 1) = r) : Ev (fun k => X.spec_l6rd_str.f k (B l)) (B x, B r) := by
  have hN := number_f (upL 58 l).1 9 (by omega)
  have hle := (upL_len 58 l).2
  have hU := up_f 58 l hl
  generalize (upL 58 l).1 = a at h1 hN hU
  generalize (upL 58 l).2 = b at hx hr hU hle
  generalize numV 9 a = nv at h1 hN
  obtain ⟨n1, n2⟩ := nv
  dsimp only at h1
  subst h1
  refine Ev.bind hU (Ev.bind hN ?_)
  dsimp only
  refine Ev.congr (f := fun _ => some (B x, B r)) (fun k => ?_) (Ev.now _)
  have hxl : x.length ≤ b.length := by rw [← hx, List.length_take]; omega
  have zx : (B x).size = x.length := B_size x
  have zb : (B b).size = b.length := B_size b
  have hy : (b.drop x.length).take (b.length - x.length) = b.drop x.length := List.take_of_length_le (by rw [List.length_drop]; omega)
  have zd : (B (b.drop x.length)).size = b.length - x.length := by rw [B_size, List.length_drop]
  rw [keep_f, hx, Option.bind_some, zx, zb, if_pos (by omega), if_pos (by omega), Int.toNat_natCast, B_extract, hy, zd]
  have hd : (b.drop x.length).drop 1 = r := by rw [List.drop_drop]; exact hr
  by_cases h0 : ((b.length - x.length : Nat) : Int) > 0
  · rw [if_pos h0, if_pos (by omega), B_extract, hd, List.take_of_length_le (by rw [← hd, List.length_drop, List.length_drop]; omega)]
  · have hz : b.drop x.length = [] := List.eq_nil_of_length_eq_zero (by rw [List.length_drop]; omega)
    rw [if_neg h0, hz]
    rw [hz] at hd
    rw [← hd]; rfl
theorem sstr_f (l : List UInt8) (hl : l.length ≤ 1048576) : ∃ x r, Ev (fun k => X.spec_l6rd_str.f k (B l)) (B x, B r) ∧ x.length ≤ l.length ∧ r.length ≤ l.length := by
  have hle := (upL_len 58 l).2
  refine ⟨_, _, sstr_val l _ _ _ hl rfl rfl rfl, ?_, ?_⟩
  · rw [List.length_take]; omega
  · rw [List.length_drop]; omega
theorem sstr_at (s t r : List UInt8) (hn : (nT s.length).length ≤ 9) (ht : t = 32 :: r ∨ t = [] ∧ r = []) (h : (sT s ++ t).length ≤ 1048576) : Ev (fun k => X.spec_l6rd_str.f k (B (sT s ++ t))) (B s, B r) := by
  have e : sT s ++ t = nT s.length ++ 58 :: (s ++ t) := by simp [sT, List.append_assoc]
  have hu := upL_hit 58 (nT s.length) (s ++ t) (nT_no _ _ (.inr rfl))
  refine sstr_val _ s r (s.length : Int) h ?_ ?_ ?_
  · rw [e, hu, numV_dd 9 _ hn]
  · rw [e, hu, Int.toNat_natCast, List.take_left]
  · rw [e, hu, ← List.drop_drop, List.drop_left]
    rcases ht with rfl | ⟨rfl, rfl⟩
    · rfl
    · rfl
end Go.Proofs.YtnlembpmcbnpnaaGreatDoor.Pure
/- What spec_l2split answers: the pieces of the library's Split. Plain Lean. -/
namespace Go.Proofs.YtnlembpmcbnpnaaGreatDoor.Pure
open Go Go.RowKit Go.Proofs.YtnlembpmcbnpnaaGreatDoorW.PrintWords
set_option linter.unusedVariables false
def sp (s sep : ByteArray) : List ByteArray := Lib.splitB sep 0 (Lib.countB s sep) s
theorem sp_miss (s sep : ByteArray) (h : Lib.indexB s sep = -1) : sp s sep = [s] := Lib.splitB_miss _ _ _ _ h
theorem sp_hit (s sep : ByteArray) (i : Nat) (h1 : 1 ≤ sep.size) (h : Lib.indexB s sep = i) : sp s sep = s.extract 0 i :: sp (s.extract (i + sep.size) s.size) sep := by
  unfold sp
  rw [Lib.countB_hit s sep i h1 h, Nat.add_comm 1, Lib.splitB_hit sep 0 _ s i h]; rfl
theorem sp_pieces (s sep : ByteArray) (h1 : 1 ≤ sep.size) : Lib.splitB sep 0 (X.pieces s sep - 1) s = sp s sep := by
  have := Lib.countB_le sep h1 s.size s (Nat.le_refl _)
  unfold sp X.pieces
  congr 1; omega
theorem split_f (s sep : ByteArray) (h1 : 1 ≤ sep.size) (hs : s.size < 4294967281) : X.strings_Split.f s sep = some (sp s sep) := by
  unfold X.strings_Split.f
  rw [if_pos ⟨hs, h1⟩, sp_pieces s sep h1]
theorem extract_ex (s : ByteArray) (l a b : Nat) (hb : l + b ≤ s.size) : (s.extract l s.size).extract a b = s.extract (l + a) (l + b) := by
  rw [ByteArray.extract_extract]; congr 1; omega
theorem data_extract (s : ByteArray) (a b : Nat) : (s.extract a b).data.toList = (s.data.toList.take b).drop a := by
  rw [ByteArray.data_extract, Array.toList_extract, List.extract_eq_take_drop, List.drop_take]
theorem occ_at (s sep : ByteArray) (i : Nat) (hi : i + sep.size ≤ s.size) : ((s.extract i (i + sep.size)).toList = sep.toList) ↔ Lib.occAt s.data.toList sep.data.toList i = true := by
  rw [Lib.occAt_iff_take _ _ _ (by rw [data_length, data_length]; omega), ByteArray.toList_eq, ByteArray.toList_eq, data_extract, beq_iff_eq, data_length, List.drop_take, show i + sep.size - i = sep.size by omega]
theorem indexB_drop (s sep : ByteArray) (l : Nat) (hl : l ≤ s.size) : Lib.indexB (s.extract l s.size) sep = Lib.index (s.data.toList.drop l) sep.data.toList := by
  show Lib.index _ _ = _
  rw [data_extract, show s.size = s.data.toList.length from (data_length s).symm, List.take_length]
theorem l0_ends (s sep : ByteArray) (h1 : 1 ≤ sep.size) (hs : s.size ≤ 1152921504606846976) (hp : sep.size ≤ 1152921504606846976) : ∀ (n l i : Nat) (acc : List ByteArray), s.size - i = n → l ≤ i → i ≤ s.size → acc.length + (s.size - l) < 8796093022208 →
    (∀ j, l ≤ j → j < i → Lib.occAt s.data.toList sep.data.toList j = false) →
    ∃ k, X.spec_l2split.l0 k s sep acc (l : Int) (i : Int) = some (acc ++ sp (s.extract l s.size) sep) := by
  intro n
  induction n using Nat.strongRecOn with
  | _ n ih =>
    intro l i acc hn hl hi ha hno
    have e1 : wrap64 ((i : Int) + (sep.size : Int)) = ((i + sep.size : Nat) : Int) := by rw [wrap_id _ (by omega) (by omega)]; omega
    have e2 : wrap64 ((i : Int) + 1) = ((i + 1 : Nat) : Int) := by rw [wrap_id _ (by omega) (by omega)]; omega
    have hszs := data_length s
    have hszp := data_length sep
    by_cases hfit : i + sep.size ≤ s.size
    · by_cases hocc : Lib.occAt s.data.toList sep.data.toList i = true
      · have hidx : Lib.indexB (s.extract l s.size) sep = ((i - l : Nat) : Int) := by
          rw [indexB_drop s sep l (by omega)]
          refine Lib.index_first (by rw [List.length_drop, hszs]; omega) ?_ ?_
          · have : Lib.occAt (s.data.toList.drop l) sep.data.toList (i - l) = Lib.occAt s.data.toList sep.data.toList i := by
              unfold Lib.occAt; rw [List.drop_drop, show l + (i - l) = i by omega]
            rw [this]; exact hocc
          · intro j hj
            have : Lib.occAt (s.data.toList.drop l) sep.data.toList j = Lib.occAt s.data.toList sep.data.toList (l + j) := by
              unfold Lib.occAt; rw [List.drop_drop]
            rw [this]; exact hno _ (by omega) (by omega)
        obtain ⟨k, hk⟩ := ih (s.size - (i + sep.size)) (by omega) (i + sep.size) (i + sep.size) (acc ++ [s.extract l i]) rfl (by omega) (by omega) (by simp only [List.length_append, List.length_singleton]; omega) (fun j h h' => by omega)
        refine ⟨k + 1, ?_⟩
        have hsz : (s.extract l s.size).size = s.size - l := by simp [ByteArray.size_extract]
        rw [sp_hit _ sep (i - l) h1 hidx, extract_ex s l 0 (i - l) (by omega), hsz, extract_ex s l _ (s.size - l) (by omega), show l + (i - l) = i by omega, show l + (i - l + sep.size) = i + sep.size by omega, show l + (s.size - l) = s.size by omega, Nat.add_zero]
        unfold X.spec_l2split.l0
        rw [e1, if_pos (by omega), if_pos (by omega), if_pos (by omega), if_pos (by rw [Int.toNat_natCast, Int.toNat_natCast]; exact (occ_at s sep i hfit).2 hocc), if_pos (by omega), if_pos (by omega), if_pos (by omega), if_pos (by omega), Int.toNat_natCast, Int.toNat_natCast, hk]
        simp
      · obtain ⟨k, hk⟩ := ih (s.size - (i + 1)) (by omega) l (i + 1) acc rfl (by omega) (by omega) ha (fun j h h' => by
          rcases Nat.lt_or_ge j i with h2 | h2
          · exact hno j h h2
          · obtain rfl : j = i := by omega
            simpa using hocc)
        refine ⟨k + 1, ?_⟩
        unfold X.spec_l2split.l0
        rw [e1, if_pos (by omega), if_pos (by omega), if_pos (by omega), if_neg (by rw [Int.toNat_natCast, Int.toNat_natCast]; exact fun h => hocc ((occ_at s sep i hfit).1 h)), e2, hk]
    · refine ⟨1, ?_⟩
      have hidx : Lib.indexB (s.extract l s.size) sep = -1 := by
        rw [indexB_drop s sep l (by omega)]
        refine Lib.index_none fun j hj => ?_
        have e : Lib.occAt (s.data.toList.drop l) sep.data.toList j = Lib.occAt s.data.toList sep.data.toList (l + j) := by
          unfold Lib.occAt; rw [List.drop_drop]
        rw [e]
        rcases Nat.lt_or_ge (l + j) i with h2 | h2
        · exact hno _ (by omega) h2
        · cases hx : Lib.occAt s.data.toList sep.data.toList (l + j) with
          | false => rfl
          | true =>
            rcases Lib.occAt_room hx with h3 | h3
            · rw [hszs, hszp] at h3; omega
            · rw [h3] at hszp; simp at hszp; omega
      rw [sp_miss _ _ hidx]
      unfold X.spec_l2split.l0
      rw [e1, if_neg (by omega), if_pos (by omega), if_pos (by omega), if_pos (by omega), Int.toNat_natCast]
theorem l2split_f (s sep : ByteArray) (h1 : 1 ≤ sep.size) (hs : s.size ≤ 8796093022200) (hp : sep.size ≤ 1152921504606846976) : Ev (fun k => X.spec_l2split.f k s sep) (sp s sep) := by
  obtain ⟨k, hk⟩ := l0_ends s sep h1 (by omega) hp s.size 0 0 [] rfl (Nat.le_refl _) (Nat.zero_le _) (by simp; omega) (fun j h h' => by omega)
  have he : s.extract 0 s.size = s := by simp
  rw [he, List.nil_append] at hk
  exact Ev.of (fun k => X.spec_l2split.mono s sep k) (k := k) hk
end Go.Proofs.YtnlembpmcbnpnaaGreatDoor.Pure
/- Pieces: how many, how long; an element of a row. Plain Lean. -/
namespace Go.Proofs.YtnlembpmcbnpnaaGreatDoor.Pure
open Go Go.RowKit Go.Proofs.YtnlembpmcbnpnaaGreatDoorW.PrintWords
set_option linter.unusedVariables false
set_option linter.unusedSimpArgs false
theorem sp_sizes (sep : ByteArray) (n : Nat) : ∀ (k : Nat) (s : ByteArray), s.size ≤ n → ∀ p ∈ Lib.splitB sep 0 k s, p.size ≤ n
  | 0, s, h, p, hp => by simp only [Lib.splitB, List.mem_singleton] at hp; subst hp; exact h
  | k + 1, s, h, p, hp => by
    unfold Lib.splitB at hp
    split at hp
    · simp only [List.mem_singleton] at hp; subst hp; exact h
    · rcases List.mem_cons.1 hp with rfl | hp
      · rw [ByteArray.size_extract]; omega
      · exact sp_sizes sep n k _ (by rw [ByteArray.size_extract]; omega) p hp
theorem sp_len (s sep : ByteArray) (h1 : 1 ≤ sep.size) : (sp s sep).length ≤ s.size + 1 := by
  have h := Lib.splitB_length_le sep 0 (Lib.countB s sep) s
  have := Lib.countB_le sep h1 s.size s (Nat.le_refl _)
  unfold sp; omega
end Go.Proofs.YtnlembpmcbnpnaaGreatDoor.Pure
/- What the two ValidDomain answer: one law. Plain Lean. -/
namespace Go.Proofs.YtnlembpmcbnpnaaGreatDoor.Pure
open Go Go.RowKit Go.Proofs.YtnlembpmcbnpnaaGreatDoorW.PrintWords
set_option linter.unusedVariables false
theorem l2letter_f (c : Int) : X.spec_l2letter.f c = some (X.isLetterB c || X.isDigitB c) := by
  unfold X.spec_l2letter.f X.isLetterB X.isDigitB
  by_cases h1 : c ≥ 97 <;> by_cases h2 : c ≤ 122 <;> by_cases h3 : c ≥ 48 <;> by_cases h4 : c ≤ 57 <;> simp [h1, h2, h3, h4] <;> omega
def labB (p : ByteArray) : Bool := decide (1 ≤ p.size) && decide (p.size ≤ 63) && !(bt p 0 == 45) && !(bt p ((p.size : Int) - 1) == 45) && X.allB X.domB p
theorem label_l0 (p : ByteArray) (hs : p.size ≤ 8796093022208) : ∀ (n i : Nat), p.size - i = n → i ≤ p.size → ∃ k b, X.spec_l2label.l0 k p (i : Int) = some b ∧ (b = true ↔ ∀ j : Nat, i ≤ j → j < p.size → X.domB (bt p j) = true) := by
  intro n
  induction n with
  | zero =>
    intro i hn hi
    refine ⟨1, true, ?_, by simp; omega⟩
    unfold X.spec_l2label.l0
    rw [if_neg (by omega)]
  | succ n ih =>
    intro i hn hi
    have e2 : wrap64 ((i : Int) + 1) = ((i + 1 : Nat) : Int) := by rw [wrap_id _ (by omega) (by omega)]; omega
    obtain ⟨k, b, hk, hb⟩ := ih (i + 1) (by omega) (by omega)
    by_cases hd : X.domB (bt p i) = true
    · refine ⟨k + 1, b, ?_, ?_⟩
      · unfold X.spec_l2label.l0
        rw [if_pos (by omega), if_pos (by omega), l2letter_f, Option.bind_some, e2]
        simp only [X.domB, Bool.or_eq_true, beq_iff_eq] at hd
        by_cases h1 : (X.isLetterB (bt p i) || X.isDigitB (bt p i)) = true
        · rw [if_pos h1, hk]
        · rw [if_neg h1, if_pos (by simp only [Bool.or_eq_true] at h1; exact hd.resolve_left h1), hk]
      · rw [hb]
        constructor
        · intro h j h1 h2
          rcases Nat.eq_or_lt_of_le h1 with rfl | h3
          · exact hd
          · exact h j h3 h2
        · exact fun h j h1 h2 => h j (by omega) h2
    · refine ⟨1, false, ?_, ?_⟩
      · unfold X.spec_l2label.l0
        simp only [X.domB, Bool.or_eq_true, beq_iff_eq, not_or] at hd
        rw [if_pos (by omega), if_pos (by omega), l2letter_f, Option.bind_some, if_neg (by simp only [Bool.or_eq_true, not_or]; exact hd.1), if_neg hd.2]
      · simp only [Bool.false_eq_true, false_iff]
        exact fun h => hd (h i (Nat.le_refl _) (by omega))
theorem label_f (p : ByteArray) (hs : p.size ≤ 8796093022208) : Ev (fun k => X.spec_l2label.f k p) (labB p) := by
  have hb : ∃ k, X.spec_l2label.f k p = some (labB p) := by
    unfold X.spec_l2label.f labB
    by_cases h1 : (p.size : Int) < 1
    · refine ⟨1, ?_⟩
      rw [if_pos h1, decide_eq_false (p := 1 ≤ p.size) (by omega)]
      unfold X.spec_l2label.j0; simp
    by_cases h2 : (p.size : Int) > 63
    · refine ⟨1, ?_⟩
      rw [if_neg h1, if_pos h2, decide_eq_false (p := p.size ≤ 63) (by omega)]
      unfold X.spec_l2label.j0; simp
    have g1 : decide (1 ≤ p.size) = true := by simp; omega
    have g2 : decide (p.size ≤ 63) = true := by simp; omega
    have e1 : wrap64 ((p.size : Int) - 1) = (p.size : Int) - 1 := wrap_id _ (by omega) (by omega)
    by_cases h3 : bt p 0 = 45
    · refine ⟨1, ?_⟩
      rw [if_neg h1, if_neg h2, if_pos (by omega), if_pos h3, h3]
      unfold X.spec_l2label.j0; simp
    by_cases h4 : bt p ((p.size : Int) - 1) = 45
    · refine ⟨1, ?_⟩
      rw [if_neg h1, if_neg h2, if_pos (by omega), if_neg h3, e1, if_pos (by omega), if_pos (by omega), h4]
      unfold X.spec_l2label.j0; simp
    obtain ⟨k, b, hk, hb⟩ := label_l0 p hs p.size 0 (by omega) (by omega)
    refine ⟨k + 1, ?_⟩
    rw [if_neg h1, if_neg h2, if_pos (by omega), if_neg h3, e1, if_pos (by omega), if_pos (by omega), g1, g2]
    have h4' : (bt p ((p.size : Int) - 1) == 45) = false := by simpa using h4
    have h3' : (bt p 0 == 45) = false := by simpa using h3
    rw [h4', h3']
    rw [X.spec_l2label.j0, if_neg (by decide), show (0 : Int) = ((0 : Nat) : Int) from rfl, hk]
    congr 1
    rw [Bool.eq_iff_iff, hb]
    simp only [Bool.true_and, Bool.and_true, Bool.not_false]
    rw [X.allB_iff]
    exact ⟨fun h j hj => h j (Nat.zero_le _) hj, fun h j _ hj => h j hj⟩
  obtain ⟨k, hk⟩ := hb
  exact Ev.of (fun k => X.spec_l2label.mono p k) hk
theorem domain_l0 (xs : List ByteArray) (hl : xs.length ≤ 8796093022208) (hx : ∀ p ∈ xs, p.size ≤ 8796093022208) : ∀ (n i : Nat), xs.length - i = n → i ≤ xs.length → ∃ k, X.spec_ValidDomain.l0 k xs (xs.length : Int) (i : Int) = some ((xs.drop i).all labB) := by
  intro n
  induction n with
  | zero =>
    intro i hn hi
    refine ⟨1, ?_⟩
    unfold X.spec_ValidDomain.l0
    rw [if_neg (by omega), List.drop_of_length_le (by omega)]; rfl
  | succ n ih =>
    intro i hn hi
    have e2 : wrap64 ((i : Int) + 1) = ((i + 1 : Nat) : Int) := by rw [wrap_id _ (by omega) (by omega)]; omega
    obtain ⟨k, hk⟩ := ih (i + 1) (by omega) (by omega)
    have hi' : i < xs.length := by omega
    obtain ⟨K, hK⟩ := label_f xs[i] (hx _ (List.getElem_mem hi'))
    rw [List.drop_eq_getElem_cons hi', List.all_cons]
    refine ⟨max k K + 1, ?_⟩
    unfold X.spec_ValidDomain.l0
    have h1 : X.spec_l2label.f (max k K) xs[i] = some (labB xs[i]) := hK (max k K) (Nat.le_max_right _ _)
    rw [if_pos (by omega), if_pos (by omega), if_pos (by omega), rd_get xs i hi', h1, Option.bind_some, e2]
    have h2 : X.spec_ValidDomain.l0 (max k K) xs (xs.length : Int) ((i + 1 : Nat) : Int) = some ((xs.drop (i + 1)).all labB) := at_rounds (g := fun k => X.spec_ValidDomain.l0 k xs (xs.length : Int) ((i + 1 : Nat) : Int)) (fun k => X.spec_ValidDomain.mono_l k _ _ _) (Nat.le_max_left _ _) hk
    by_cases hb : labB xs[i] = true
    · rw [if_pos hb, h2, hb, Bool.true_and]
    · rw [if_neg hb]; simp only [Bool.not_eq_true] at hb; rw [hb, Bool.false_and]
def domainB (s : ByteArray) : Bool := decide (s.size ≤ 100) && (sp s ⟨#[46]⟩).all labB
theorem specDomain_f (s : ByteArray) : Ev (fun k => X.spec_ValidDomain.f k s) (domainB s) := by
  by_cases h : (s.size : Int) > 100
  · refine ⟨0, fun k _ => ?_⟩
    show X.spec_ValidDomain.f k s = _
    unfold X.spec_ValidDomain.f domainB
    rw [if_pos h, decide_eq_false (p := s.size ≤ 100) (by omega)]; rfl
  · have hl := sp_len s ⟨#[46]⟩ (by decide)
    obtain ⟨k, hk⟩ := domain_l0 (sp s ⟨#[46]⟩) (by omega) (fun p hp => by have := sp_sizes ⟨#[46]⟩ s.size _ s (Nat.le_refl _) p hp; omega) _ 0 rfl (Nat.zero_le _)
    rw [List.drop_zero] at hk
    have h2 : Ev (fun k => X.spec_ValidDomain.l0 k (sp s ⟨#[46]⟩) ((sp s ⟨#[46]⟩).length : Int) 0) ((sp s ⟨#[46]⟩).all labB) := Ev.of (fun k => X.spec_ValidDomain.mono_l k _ _ _) hk
    refine Ev.congr (f := fun k => (X.spec_l2split.f k s (⟨#[46]⟩ : ByteArray)).bind fun t108 => (X.spec_ValidDomain.l0 k t108 (t108.length : Int) 0)) (fun k => ?_) ?_
    · unfold X.spec_ValidDomain.f; rw [if_neg h]
    · unfold domainB
      rw [decide_eq_true (p := s.size ≤ 100) (by omega), Bool.true_and]
      exact Ev.bind (l2split_f s ⟨#[46]⟩ (by decide) (by omega) (by decide)) h2
theorem implDomain_l0 (xs : List ByteArray) (hl : xs.length ≤ 8796093022208) (hx : ∀ p ∈ xs, p.size ≤ 8796093022208) : ∀ (n i : Nat), xs.length - i = n → i ≤ xs.length → ∃ k, X.impl_ValidDomain.l0 k xs (xs.length : Int) (i : Int) = some ((xs.drop i).all labB) := by
  intro n
  induction n with
  | zero =>
    intro i hn hi
    refine ⟨1, ?_⟩
    unfold X.impl_ValidDomain.l0
    rw [if_neg (by omega), List.drop_of_length_le (by omega)]; rfl
  | succ n ih =>
    intro i hn hi
    have e2 : wrap64 ((i : Int) + 1) = ((i + 1 : Nat) : Int) := by rw [wrap_id _ (by omega) (by omega)]; omega
    obtain ⟨k, hk⟩ := ih (i + 1) (by omega) (by omega)
    have hi' : i < xs.length := by omega
    have hz := hx _ (List.getElem_mem hi')
    rw [List.drop_eq_getElem_cons hi', List.all_cons]
    refine ⟨k + 1, ?_⟩
    unfold X.impl_ValidDomain.l0
    rw [if_pos (by omega), if_pos (by omega), if_pos (by omega), rd_get xs i hi', e2]
    generalize xs[i] = p at hz ⊢
    rw [show labB p = (decide (1 ≤ p.size) && decide (p.size ≤ 63) && !(bt p 0 == 45) && !(bt p ((p.size : Int) - 1) == 45) && X.allB X.domB p) from rfl]
    by_cases h1 : (p.size : Int) < 1
    · rw [if_pos h1, decide_eq_false (p := 1 ≤ p.size) (by omega)]; rfl
    by_cases h2 : (p.size : Int) > 63
    · rw [if_neg h1, if_pos h2, decide_eq_false (p := p.size ≤ 63) (by omega)]; simp
    have g1 : decide (1 ≤ p.size) = true := by simp; omega
    have g2 : decide (p.size ≤ 63) = true := by simp; omega
    have e1 : wrap64 ((p.size : Int) - 1) = (p.size : Int) - 1 := wrap_id _ (by omega) (by omega)
    rw [if_neg h1, if_neg h2, if_pos (by omega), g1, g2, e1]
    by_cases h3 : bt p 0 = 45
    · rw [if_pos h3, h3]; simp
    rw [if_neg h3, if_pos (by omega), if_pos (by omega)]
    by_cases h4 : bt p ((p.size : Int) - 1) = 45
    · rw [if_pos h4, h4]; simp
    have h4' : (bt p ((p.size : Int) - 1) == 45) = false := by simpa using h4
    have h3' : (bt p 0 == 45) = false := by simpa using h3
    rw [if_neg h4, h3', h4']
    unfold X.impl_all_impl_ValidDomain_1.f
    rw [if_pos (by omega), Option.bind_some, hk]
    by_cases h5 : X.allB X.domB p = true
    · rw [if_pos h5, h5]; simp
    · rw [if_neg h5]; simp only [Bool.not_eq_true] at h5; rw [h5]; simp
theorem implDomain_f (s : ByteArray) (hs : s.size < 4294967281) : Ev (fun k => X.impl_ValidDomain.f k s) (domainB s) := by
  suffices h : ∃ k, X.impl_ValidDomain.f k s = some (domainB s) by
    obtain ⟨k, hk⟩ := h
    exact Ev.of (fun k => X.impl_ValidDomain.mono s k) hk
  unfold X.impl_ValidDomain.f domainB
  by_cases h1 : (s.size : Int) < 1
  · refine ⟨1, ?_⟩
    have hsz : s.size = 0 := by omega
    obtain rfl : s = ByteArray.empty := by
      apply ByteArray.ext; apply Array.eq_empty_of_size_eq_zero; exact hsz
    rw [if_pos h1]
    rw [X.impl_ValidDomain.j0, if_pos rfl]
    rw [sp_miss _ _ (by rfl)]; simp [labB]
  simp only [if_neg h1]
  by_cases h2 : (s.size : Int) > 100
  · refine ⟨1, ?_⟩
    rw [X.impl_ValidDomain.j0, if_pos (by simpa using h2), decide_eq_false (p := s.size ≤ 100) (by omega)]; rfl
  · have hl := sp_len s ⟨#[46]⟩ (by decide)
    obtain ⟨k, hk⟩ := implDomain_l0 (sp s ⟨#[46]⟩) (by omega) (fun p hp => by have := sp_sizes ⟨#[46]⟩ s.size _ s (Nat.le_refl _) p hp; omega) _ 0 rfl (Nat.zero_le _)
    refine ⟨k + 1, ?_⟩
    rw [X.impl_ValidDomain.j0, if_neg (by simpa using h2), split_f s ⟨#[46]⟩ (by decide) hs, Option.bind_some, decide_eq_true (p := s.size ≤ 100) (by omega), Bool.true_and]
    rw [List.drop_zero] at hk
    exact hk
end Go.Proofs.YtnlembpmcbnpnaaGreatDoor.Pure
/- Pieces at one byte, on lists. Plain Lean. -/
namespace Go.Proofs.YtnlembpmcbnpnaaGreatDoor.Pure
open Go Go.RowKit Go.Proofs.YtnlembpmcbnpnaaGreatDoorW.PrintWords
set_option linter.unusedVariables false
def splitC (c : UInt8) : List UInt8 → List (List UInt8)
  | [] => [[]]
  | b :: l => if b = c then [] :: splitC c l else match splitC c l with
    | [] => [[b]]
    | p :: ps => (b :: p) :: ps
theorem splitC_ne (c : UInt8) (l : List UInt8) : ∃ p ps, splitC c l = p :: ps := by
  cases l with
  | nil => exact ⟨_, _, rfl⟩
  | cons b l =>
    unfold splitC
    split
    · exact ⟨_, _, rfl⟩
    · split <;> exact ⟨_, _, rfl⟩
theorem splitK_eq (c : UInt8) : ∀ (l : List UInt8), Lib.splitK [c] 0 (l.count c) l = splitC c l
  | [] => rfl
  | b :: l => by
    have ih := splitK_eq c l
    by_cases h : b = c
    · subst h
      have hi : Lib.index (b :: l) [b] = 0 := by unfold Lib.index; simp
      rw [List.count_cons_self, Lib.splitK, hi]
      simp only [splitC, if_true]
      rw [if_neg (by decide)]
      simp [ih]
    · have hp : ([c] : List UInt8).isPrefixOf (b :: l) = false := by simp [List.isPrefixOf, Ne.symm h]
      have hi : Lib.index (b :: l) [c] = if Lib.index l [c] == -1 then -1 else Lib.index l [c] + 1 := by rw [Lib.index, hp]; rfl
      rw [List.count_cons_of_ne h]
      simp only [splitC, if_neg h]
      rcases Lib.index_spec l [c] with ⟨h1, _⟩ | ⟨i, h1, h2, h3, _⟩
      · have hm : Lib.index (b :: l) [c] = -1 := by rw [hi, h1]; rfl
        have e1 : ∀ k, Lib.splitK [c] 0 k l = [l] := by intro k; cases k with | zero => rfl | succ k => rw [Lib.splitK, h1]; rfl
        have e2 : ∀ k, Lib.splitK [c] 0 k (b :: l) = [b :: l] := by intro k; cases k with | zero => rfl | succ k => rw [Lib.splitK, hm]; rfl
        rw [e1] at ih
        rw [e2, ← ih]
      · have hm : Lib.index (b :: l) [c] = ((i + 1 : Nat) : Int) := by rw [hi, h1, if_neg (by simp <;> omega)] <;> omega
        have hc : l.count c = (l.count c - 1) + 1 := by
          have : c ∈ l := List.mem_of_getElem? (Lib.occAt_head rfl h3)
          have := List.count_pos_iff.2 this
          omega
        rw [hc, Lib.splitK, h1, if_neg (by simp <;> omega)] at ih
        rw [hc, Lib.splitK, hm, if_neg (by simp <;> omega), ← ih]
        simp [Nat.add_comm, Nat.add_left_comm]
theorem sp_lists (s : ByteArray) (c : UInt8) : (sp s ⟨#[c]⟩).map (·.data.toList) = splitC c s.data.toList := by
  unfold sp
  rw [Lib.splitB_data]
  show Lib.splitK [c] 0 (Lib.count s.data.toList [c]) _ = _
  rw [Lib.count_one, splitK_eq]
theorem splitC_all (c : UInt8) (Q : UInt8 → Prop) : ∀ l, (∀ p ∈ splitC c l, ∀ x ∈ p, Q x) ↔ ∀ x ∈ l, x ≠ c → Q x
  | [] => by simp [splitC]
  | b :: l => by
    have ih := splitC_all c Q l
    unfold splitC
    by_cases h : b = c
    · subst h; simp [ih]
    · rw [if_neg h]
      obtain ⟨p, ps, e⟩ := splitC_ne c l
      rw [e] at ih ⊢
      simp only [List.forall_mem_cons] at ih ⊢
      rw [← ih]
      exact ⟨fun ⟨⟨h1, h2⟩, h3⟩ => ⟨fun _ => h1, h2, h3⟩, fun ⟨h1, h2, h3⟩ => ⟨⟨h1 h, h2⟩, h3⟩⟩
def okTail (c : UInt8) : List UInt8 → Prop
  | [] => True
  | b :: l => if b = c then (∃ d r, l = d :: r ∧ d ≠ c) ∧ okTail c l else okTail c l
theorem splitC_tail (c : UInt8) : ∀ l, (∀ p ∈ (splitC c l).tail, p ≠ []) ↔ okTail c l
  | [] => by simp [splitC, okTail]
  | b :: l => by
    have ih := splitC_tail c l
    unfold splitC okTail
    obtain ⟨p, ps, e⟩ := splitC_ne c l
    by_cases h : b = c
    · rw [if_pos h, if_pos h, ← ih, e]
      simp only [List.tail_cons, List.forall_mem_cons]
      have hp : p ≠ [] ↔ ∃ d r, l = d :: r ∧ d ≠ c := by
        cases l with
        | nil => simp only [splitC, List.cons.injEq] at e; simp [← e.1]
        | cons d r =>
          unfold splitC at e
          by_cases hd : d = c
          · rw [if_pos hd] at e
            simp only [List.cons.injEq] at e
            simp [← e.1, hd]
          · rw [if_neg hd] at e
            obtain ⟨q, qs, e'⟩ := splitC_ne c r
            rw [e'] at e
            simp only [List.cons.injEq] at e
            simp [← e.1, hd]
      rw [hp]
    · rw [if_neg h, if_neg h, ← ih, e]; simp
theorem splitC_good (c : UInt8) (l : List UInt8) : (∀ p ∈ splitC c l, p ≠ []) ↔ (∃ d r, l = d :: r ∧ d ≠ c) ∧ okTail c l := by
  rw [← splitC_tail c l]
  cases l with
  | nil => simp [splitC]
  | cons d r =>
    unfold splitC
    by_cases h : d = c
    · simp [h]
    · rw [if_neg h]
      obtain ⟨q, qs, e'⟩ := splitC_ne c r
      rw [e']; simp [h]
theorem okTail_iff (c : UInt8) : ∀ l, okTail c l ↔ (l.getLast? ≠ some c ∧ Lib.contains l [c, c] = false)
  | [] => by simp [okTail, Lib.contains, Lib.index]
  | b :: l => by
    have ih := okTail_iff c l
    have hc : Lib.contains (b :: l) [c, c] = (([c, c] : List UInt8).isPrefixOf (b :: l) || Lib.contains l [c, c]) := by
      unfold Lib.contains
      rw [Lib.index]
      cases hp : ([c, c] : List UInt8).isPrefixOf (b :: l) with
      | true => simp
      | false =>
        have := Lib.index_ge l [c, c]
        by_cases h1 : Lib.index l [c, c] = -1
        · simp [h1]
        · rw [if_neg (by simp), if_neg (by simpa using h1)]; simp; omega
    unfold okTail
    rw [hc, ih]
    cases l with
    | nil => by_cases h : b = c <;> simp [h, Lib.contains, Lib.index, List.isPrefixOf]
    | cons d r =>
      rw [List.getLast?_cons_cons]
      by_cases h : b = c
      · subst h
        by_cases hd : d = b
        · simp [hd, List.isPrefixOf]
        · have : (b == d) = false := by simpa using Ne.symm hd
          simp [hd, List.isPrefixOf, this]
      · have : (c == b) = false := by simpa using Ne.symm h
        simp [h, List.isPrefixOf, this]
end Go.Proofs.YtnlembpmcbnpnaaGreatDoor.Pure
/- What the two ValidAddress answer: one law. Plain Lean. -/
namespace Go.Proofs.YtnlembpmcbnpnaaGreatDoor.Pure
open Go Go.RowKit Go.Proofs.YtnlembpmcbnpnaaGreatDoorW.PrintWords
set_option linter.unusedVariables false
theorem has_f (c : Int) : Ev (fun k => X.spec_l2has.f k ⟨#[43, 95, 45]⟩ c) (decide (c = 43) || decide (c = 95) || decide (c = 45)) := by
  refine ⟨4, fun n hn => ?_⟩
  obtain ⟨k, rfl⟩ : ∃ k, n = k + 1 + 1 + 1 + 1 := ⟨n - 4, by omega⟩
  show X.spec_l2has.f (k + 1 + 1 + 1 + 1) _ c = _
  have b0 : bt ⟨#[43, 95, 45]⟩ 0 = 43 := by rfl
  have b1 : bt ⟨#[43, 95, 45]⟩ 1 = 95 := by rfl
  have b2 : bt ⟨#[43, 95, 45]⟩ 2 = 45 := by rfl
  have w0 : wrap64 (0 + 1) = 1 := wrap_id _ (by omega) (by omega)
  have w1 : wrap64 (1 + 1) = 2 := wrap_id _ (by omega) (by omega)
  have w2 : wrap64 (2 + 1) = 3 := wrap_id _ (by omega) (by omega)
  have z : ((⟨#[43, 95, 45]⟩ : ByteArray).size : Int) = 3 := by rfl
  unfold X.spec_l2has.f
  simp only [X.spec_l2has.l0, b0, b1, b2, w0, w1, w2, z]
  by_cases h0 : (43 : Int) = c
  · subst h0; simp
  by_cases h1 : (95 : Int) = c
  · subst h1; simp
  by_cases h2 : (45 : Int) = c
  · subst h2; simp
  simp [h0, h1, h2, Ne.symm h0, Ne.symm h1, Ne.symm h2]
def locS (c : Int) : Bool := X.isLetterB c || X.isDigitB c || (decide (c = 43) || decide (c = 95) || decide (c = 45))
def pieceB (p : ByteArray) : Bool := !(p.toList == []) && X.allB locS p
theorem addr_l1 (p : ByteArray) (hs : p.size ≤ 8796093022208) (xs : List ByteArray) (m j : Int) (R : Bool) (hR : Ev (fun k => X.spec_ValidAddress.l0 k xs m (wrap64 (j + 1))) R) : ∀ (n i : Nat), p.size - i = n → i ≤ p.size →
    ∃ b, Ev (fun k => X.spec_ValidAddress.l1 k p (i : Int) xs m j) (b && R) ∧ (b = true ↔ ∀ j : Nat, i ≤ j → j < p.size → locS (bt p j) = true) := by
  intro n
  induction n with
  | zero =>
    intro i hn hi
    refine ⟨true, ?_, by simp; omega⟩
    refine Ev.step (f := fun k => X.spec_ValidAddress.l0 k xs m (wrap64 (j + 1))) (fun k => ?_) (by simpa using hR)
    rw [X.spec_ValidAddress.l1, if_neg (by omega)]
  | succ n ih =>
    intro i hn hi
    have e2 : wrap64 ((i : Int) + 1) = ((i + 1 : Nat) : Int) := by rw [wrap_id _ (by omega) (by omega)]; omega
    obtain ⟨b, hk, hb⟩ := ih (i + 1) (by omega) (by omega)
    obtain ⟨K, hK⟩ := hk
    obtain ⟨K', hK'⟩ := has_f (bt p i)
    by_cases hd : locS (bt p i) = true
    · refine ⟨b, ⟨max K K' + 1, fun k hk => ?_⟩, ?_⟩
      · obtain ⟨k, rfl⟩ : ∃ k', k = k' + 1 := ⟨k - 1, by omega⟩
        have h1 : X.spec_ValidAddress.l1 k p ((i + 1 : Nat) : Int) xs m j = some (b && R) := hK k (by omega)
        have h2 : X.spec_l2has.f k ⟨#[43, 95, 45]⟩ (bt p i) = _ := hK' k (by omega)
        show X.spec_ValidAddress.l1 (k + 1) p i xs m j = _
        rw [X.spec_ValidAddress.l1, if_pos (by omega), if_pos (by omega), l2letter_f, Option.bind_some, e2, h1, h2, Option.bind_some]
        unfold locS at hd
        rcases Bool.or_eq_true _ _ ▸ hd with h3 | h3
        · rw [if_pos h3]
        · rw [if_pos h3]; simp
      · rw [hb]
        constructor
        · intro h j h1 h2
          rcases Nat.eq_or_lt_of_le h1 with rfl | h3
          · exact hd
          · exact h j h3 h2
        · exact fun h j h1 h2 => h j (by omega) h2
    · refine ⟨false, ⟨K' + 1, fun k hk => ?_⟩, ?_⟩
      · obtain ⟨k, rfl⟩ : ∃ k', k = k' + 1 := ⟨k - 1, by omega⟩
        have h2 : X.spec_l2has.f k ⟨#[43, 95, 45]⟩ (bt p i) = _ := hK' k (by omega)
        show X.spec_ValidAddress.l1 (k + 1) p i xs m j = _
        unfold locS at hd
        rw [Bool.or_eq_true, not_or] at hd
        rw [X.spec_ValidAddress.l1, if_pos (by omega), if_pos (by omega), l2letter_f, Option.bind_some, h2, Option.bind_some, if_neg hd.1, if_neg hd.2]; rfl
      · simp only [Bool.false_eq_true, false_iff]
        exact fun h => hd (h i (Nat.le_refl _) (by omega))
theorem addr_l0 (xs : List ByteArray) (hl : xs.length ≤ 8796093022208) (hx : ∀ p ∈ xs, p.size ≤ 8796093022208) : ∀ (n i : Nat), xs.length - i = n → i ≤ xs.length → Ev (fun k => X.spec_ValidAddress.l0 k xs (xs.length : Int) (i : Int)) ((xs.drop i).all pieceB) := by
  intro n
  induction n with
  | zero =>
    intro i hn hi
    refine Ev.step (f := fun _ => some true) (fun k => ?_) ?_
    · rw [X.spec_ValidAddress.l0, if_neg (by omega)]
    · rw [List.drop_of_length_le (by omega)]; exact Ev.now _
  | succ n ih =>
    intro i hn hi
    have e2 : wrap64 ((i : Int) + 1) = ((i + 1 : Nat) : Int) := by rw [wrap_id _ (by omega) (by omega)]; omega
    have hk := ih (i + 1) (by omega) (by omega)
    have hi' : i < xs.length := by omega
    obtain ⟨b, hb, hbi⟩ := addr_l1 xs[i] (hx _ (List.getElem_mem hi')) xs (xs.length : Int) (i : Int) _ (by rw [e2]; exact hk) xs[i].size 0 rfl (Nat.zero_le _)
    rw [List.drop_eq_getElem_cons hi', List.all_cons]
    have hb' : b = X.allB locS xs[i] := by
      rw [Bool.eq_iff_iff, hbi, X.allB_iff]
      exact ⟨fun h j hj => h j (Nat.zero_le _) hj, fun h j _ hj => h j hj⟩
    by_cases h0 : xs[i].toList = []
    · refine Ev.step (f := fun _ => some false) (fun k => ?_) ?_
      · rw [X.spec_ValidAddress.l0, if_pos (by omega), if_pos (by omega), if_pos (by omega), rd_get xs i hi', if_pos h0]
      · unfold pieceB; rw [h0]; simp; exact Ev.now _
    · refine Ev.step (f := fun k => X.spec_ValidAddress.l1 k xs[i] 0 xs (xs.length : Int) (i : Int)) (fun k => ?_) ?_
      · rw [X.spec_ValidAddress.l0, if_pos (by omega), if_pos (by omega), if_pos (by omega), rd_get xs i hi', if_neg h0]
      · have : pieceB xs[i] = b := by unfold pieceB; rw [hb']; simp [h0]
        rw [this]; exact hb
def addrB (s : ByteArray) : Bool := decide (s.size ≤ 160) && (match sp s ⟨#[64]⟩ with
  | [l, d] => decide (l.size ≤ 64) && domainB d && (sp l ⟨#[46]⟩).all pieceB
  | _ => false)
theorem j0_f (a d : ByteArray) (hs : a.size ≤ 8796093022200) (b : Bool) : Ev (fun k => X.spec_ValidAddress.j0 k [a, d] b) (!b && (sp a ⟨#[46]⟩).all pieceB) := by
  cases b with
  | true => refine Ev.step (f := fun _ => some false) (fun k => ?_) (Ev.now _); rw [X.spec_ValidAddress.j0]; rfl
  | false =>
    refine Ev.step (f := fun k => (X.spec_l2split.f k a (⟨#[46]⟩ : ByteArray)).bind fun t132 => (X.spec_ValidAddress.l0 k t132 (t132.length : Int) 0)) (fun k => ?_) ?_
    · rw [X.spec_ValidAddress.j0, if_neg (by decide), if_pos (by simp)]; rfl
    · have hl := sp_len a ⟨#[46]⟩ (by decide)
      have h := addr_l0 (sp a ⟨#[46]⟩) (by omega) (fun p hp => by have := sp_sizes ⟨#[46]⟩ a.size _ a (Nat.le_refl _) p hp; omega) _ 0 rfl (Nat.zero_le _)
      simp only [Bool.not_false, Bool.true_and]
      rw [List.drop_zero] at h
      exact Ev.bind (l2split_f a ⟨#[46]⟩ (by decide) (by omega) (by decide)) h
theorem specAddr_f (s : ByteArray) : Ev (fun k => X.spec_ValidAddress.f k s) (addrB s) := by
  unfold addrB
  by_cases h : (s.size : Int) > 160
  · refine Ev.congr (f := fun _ => some false) (fun k => ?_) ?_
    · unfold X.spec_ValidAddress.f; rw [if_pos h]
    · rw [decide_eq_false (p := s.size ≤ 160) (by omega)]; exact Ev.now _
  rw [decide_eq_true (p := s.size ≤ 160) (by omega), Bool.true_and]
  have hsp := l2split_f s ⟨#[64]⟩ (by decide) (by omega) (by decide)
  refine Ev.congr (g := fun k => X.spec_ValidAddress.f k s) (f := fun k => (X.spec_l2split.f k s (⟨#[64]⟩ : ByteArray)).bind fun t125 => (if (t125.length : Int) = 2 then (if 0 < (t125.length : Int) then (if ((rdOf ByteArray.empty t125 0).size : Int) > 64 then (X.spec_ValidAddress.j0 k t125 true) else (if 1 < (t125.length : Int) then ((X.spec_ValidDomain.f k (rdOf ByteArray.empty t125 1)).bind fun t130 => (X.spec_ValidAddress.j0 k t125 (!t130))) else (none))) else (none)) else (X.spec_ValidAddress.j0 k t125 true))) (fun k => by unfold X.spec_ValidAddress.f; rw [if_neg h]) (Ev.bind hsp ?_)
  have hz : ∀ p ∈ sp s ⟨#[64]⟩, p.size ≤ s.size := sp_sizes ⟨#[64]⟩ s.size (Lib.countB s ⟨#[64]⟩) s (Nat.le_refl _)
  generalize sp s ⟨#[64]⟩ = ps at hz ⊢
  have hno : ps.length ≠ 2 → Ev (fun n => if (ps.length : Int) = 2 then (if 0 < (ps.length : Int) then (if ((rdOf ByteArray.empty ps 0).size : Int) > 64 then (X.spec_ValidAddress.j0 n ps true) else (if 1 < (ps.length : Int) then ((X.spec_ValidDomain.f n (rdOf ByteArray.empty ps 1)).bind fun t130 => (X.spec_ValidAddress.j0 n ps (!t130))) else (none))) else (none)) else (X.spec_ValidAddress.j0 n ps true)) false := by
    intro hn
    refine Ev.congr (f := fun n => X.spec_ValidAddress.j0 n ps true) (fun n => by rw [if_neg (by omega)]) ?_
    refine Ev.step (f := fun _ => some false) (fun k => ?_) (Ev.now _); rw [X.spec_ValidAddress.j0]; rfl
  match ps, hno, hz with
  | [], hno, _ => exact hno (by simp)
  | [_], hno, _ => exact hno (by simp)
  | _ :: _ :: _ :: _, hno, _ => exact hno (by simp)
  | [l, d], _, hz =>
    have hl := hz l (by simp)
    simp only [List.length_cons, List.length_nil, Nat.zero_add, Nat.reduceAdd]
    have r0 : rdOf ByteArray.empty [l, d] 0 = l := rfl
    have r1 : rdOf ByteArray.empty [l, d] 1 = d := rfl
    by_cases h6 : (l.size : Int) > 64
    · refine Ev.congr (f := fun n => X.spec_ValidAddress.j0 n [l, d] true) (fun n => by rw [if_pos (by rfl), if_pos (by decide), r0, if_pos h6]) ?_
      rw [decide_eq_false (p := l.size ≤ 64) (by omega)]
      have := j0_f l d (by omega) true
      simpa using this
    · refine Ev.congr (f := fun n => (X.spec_ValidDomain.f n d).bind fun t130 => (X.spec_ValidAddress.j0 n [l, d] (!t130))) (fun n => by rw [if_pos (by rfl), if_pos (by decide), r0, if_neg h6, if_pos (by decide), r1]) ?_
      rw [decide_eq_true (p := l.size ≤ 64) (by omega)]
      refine Ev.bind (specDomain_f d) ?_
      have := j0_f l d (by omega) (!domainB d)
      simpa using this
theorem domain_all (d : ByteArray) (h : domainB d = true) : ∀ x ∈ d.data.toList, x ≠ 46 → X.domB (x.toNat : Int) = true := by
  unfold domainB at h
  rw [Bool.and_eq_true, List.all_eq_true] at h
  refine (splitC_all 46 (fun x => X.domB (x.toNat : Int) = true) d.data.toList).1 ?_
  rw [← sp_lists]
  intro p hp x hx
  obtain ⟨q, hq, rfl⟩ := List.mem_map.1 hp
  have := h.2 q hq
  unfold labB at this
  simp only [Bool.and_eq_true] at this
  exact List.all_eq_true.1 this.2 x hx
theorem sp_one (d : ByteArray) (h : (64 : UInt8) ∉ d.data.toList) : sp d ⟨#[64]⟩ = [d] := by
  apply sp_miss
  show Lib.index _ [64] = -1
  rcases Lib.index_spec d.data.toList [64] with ⟨h1, _⟩ | ⟨i, h1, h2, h3, _⟩
  · exact h1
  · exact absurd (List.mem_of_getElem? (Lib.occAt_head rfl h3)) h
theorem bt_list (s : ByteArray) (j : Nat) (x : UInt8) (h : s.data.toList[j]? = some x) : bt s (j : Int) = (x.toNat : Int) := by
  obtain ⟨hj, e⟩ := List.getElem?_eq_some_iff.1 h
  have hj' : j < s.size := by rw [data_length] at hj; exact hj
  unfold bt
  rw [dif_pos (show (j : Int).toNat < s.size by simpa using hj'), ← e]; rfl
theorem local_iff (l : ByteArray) : (sp l ⟨#[46]⟩).all pieceB = true ↔ (X.allB X.locB l = true ∧ (∃ d r, l.data.toList = d :: r ∧ d ≠ 46) ∧ l.data.toList.getLast? ≠ some 46 ∧ Lib.contains l.data.toList [46, 46] = false) := by
  have h1 := splitC_all 46 (fun x => locS (x.toNat : Int) = true) l.data.toList
  have h2 := splitC_good 46 l.data.toList
  rw [okTail_iff] at h2
  rw [← sp_lists] at h1 h2
  rw [List.all_eq_true]
  have e : (∀ p ∈ sp l ⟨#[46]⟩, pieceB p = true) ↔ (∀ p ∈ (sp l ⟨#[46]⟩).map (·.data.toList), ∀ x ∈ p, locS (x.toNat : Int) = true) ∧ (∀ p ∈ (sp l ⟨#[46]⟩).map (·.data.toList), p ≠ []) := by
    simp only [List.forall_mem_map]
    rw [← forall_and]
    refine forall_congr' fun p => ?_
    rw [← imp_and]
    refine imp_congr_right fun _ => ?_
    unfold pieceB
    rw [Bool.and_eq_true, ByteArray.toList_eq, and_comm]
    unfold X.allB
    rw [List.all_eq_true]
    simp
  rw [e, h1, h2]
  have e3 : X.allB X.locB l = true ↔ ∀ x ∈ l.data.toList, x ≠ 46 → locS (x.toNat : Int) = true := by
    unfold X.allB
    rw [List.all_eq_true]
    refine forall_congr' fun x => imp_congr_right fun _ => ?_
    have hk : ((x.toNat : Int).toNat.toUInt8) = x := by simp
    unfold X.locB locS
    rw [hk]
    simp only [Bool.or_eq_true, decide_eq_true_eq]
    have hi : 0 ≤ Lib.indexByte [46, 43, 95, 45] x ↔ (x = 46 ∨ x = 43 ∨ x = 95 ∨ x = 45) := by
      have := Lib.contains_iff_indexByte [46, 43, 95, 45] x
      rw [Bool.eq_iff_iff] at this
      simp only [List.contains_iff_mem, decide_eq_true_eq] at this
      rw [← this]; simp
    rw [hi]
    have c : ∀ n : UInt8, ((x.toNat : Int) = (n.toNat : Int)) ↔ x = n := fun n => by
      rw [Int.natCast_inj]; exact ⟨fun h => UInt8.toNat.inj h, fun h => by rw [h]⟩
    have c1 := c 43; have c2 := c 95; have c3 := c 45
    simp only [show (43 : UInt8).toNat = 43 from rfl, show (95 : UInt8).toNat = 95 from rfl, show (45 : UInt8).toNat = 45 from rfl] at c1 c2 c3
    have c1' : (x.toNat : Int) = 43 ↔ x = 43 := c1
    have c2' : (x.toNat : Int) = 95 ↔ x = 95 := c2
    have c3' : (x.toNat : Int) = 45 ↔ x = 45 := c3
    rw [c1', c2', c3']
    by_cases h46 : x = 46
    · subst h46; simp
    · simp only [h46, false_or, ne_eq, not_false_iff, true_implies]
      rw [or_assoc (a := x = 43)]
  rw [e3]
theorem implj0_f (l : ByteArray) (hs : l.size < 4294967281) (hb : 1 ≤ l.size) (k : Nat) : X.impl_ValidAddress.j0 (k + 1) l false = some ((sp l ⟨#[46]⟩).all pieceB) := by
  have hsz := data_length l
  rw [X.impl_ValidAddress.j0, if_neg (by decide)]
  unfold X.impl_all_impl_ValidAddress_1.f
  rw [if_pos (by omega), Option.bind_some]
  have H := local_iff l
  have e1 : wrap64 ((l.size : Int) - 1) = ((l.size - 1 : Nat) : Int) := by rw [wrap_id _ (by omega) (by omega)]; omega
  by_cases h1 : X.allB X.locB l = true
  · rw [if_pos h1, if_pos (by omega), e1]
    obtain ⟨b0, r, hl⟩ : ∃ d r, l.data.toList = d :: r := by
      cases hx : l.data.toList with
      | nil => rw [hx] at hsz; simp at hsz; omega
      | cons d r => exact ⟨_, _, rfl⟩
    have hb0 : bt l 0 = (b0.toNat : Int) := bt_list l 0 b0 (by rw [hl]; rfl)
    have hlen : l.data.toList.length - 1 < l.data.toList.length := by omega
    have hla : l.data.toList.getLast? = some (l.data.toList[l.data.toList.length - 1]) := by rw [List.getLast?_eq_getElem?, List.getElem?_eq_getElem hlen]
    have hbl : bt l ((l.size - 1 : Nat) : Int) = ((l.data.toList[l.data.toList.length - 1]).toNat : Int) := bt_list l _ _ (by rw [← hsz, List.getElem?_eq_getElem hlen])
    have n46 : ∀ x : UInt8, ((x.toNat : Int) = 46) ↔ x = 46 := fun x => by
      constructor
      · intro h
        have h' : x.toNat = (46 : UInt8).toNat := by have h0 : (46 : UInt8).toNat = 46 := rfl; omega
        exact UInt8.toNat.inj h'
      · rintro rfl; rfl
    have hf : ∀ b : Bool, ((sp l ⟨#[46]⟩).all pieceB = true ↔ b = true) → b = (sp l ⟨#[46]⟩).all pieceB := fun b h => by rw [Bool.eq_iff_iff]; exact h.symm
    by_cases c0 : bt l 0 = 46
    · rw [if_pos c0]
      congr 1
      refine hf false ?_
      rw [H]
      rw [hb0, n46] at c0
      constructor
      · rintro ⟨_, ⟨d, r', h, hd⟩, _⟩
        rw [hl] at h
        simp only [List.cons.injEq] at h
        exact absurd (h.1.symm.trans c0) hd
      · exact fun h => by cases h
    rw [if_neg c0, if_pos (by omega), if_pos (by omega)]
    by_cases c1 : bt l ((l.size - 1 : Nat) : Int) = 46
    · rw [if_pos c1]
      congr 1
      refine hf false ?_
      rw [H]
      rw [hbl, n46] at c1
      constructor
      · rintro ⟨_, _, h, _⟩
        exact absurd (hla.trans (by rw [c1])) h
      · exact fun h => by cases h
    rw [if_neg c1]
    unfold X.strings_Contains.f
    rw [if_pos hs, Option.bind_some]
    congr 1
    refine hf _ ?_
    rw [H]
    rw [hbl, n46] at c1
    rw [hb0, n46] at c0
    show _ ↔ (!Lib.contains l.data.toList [46, 46]) = true
    rw [Bool.not_eq_true']
    exact ⟨fun h => h.2.2.2, fun h => ⟨h1, ⟨b0, r, hl, c0⟩, by rw [hla]; simpa using c1, h⟩⟩
  · rw [if_neg h1]
    have : ¬ (sp l ⟨#[46]⟩).all pieceB = true := fun h => h1 (H.1 h).1
    rw [Bool.not_eq_true] at this
    rw [this]
theorem implj0_true (l : ByteArray) (k : Nat) : X.impl_ValidAddress.j0 (k + 1) l true = some false := by rw [X.impl_ValidAddress.j0, if_pos rfl]
theorem implAddr_f (s : ByteArray) (hs : s.size < 4294967281) : Ev (fun k => X.impl_ValidAddress.f k s) (addrB s) := by
  have hj0 : ∀ l : ByteArray, Ev (fun k => X.impl_ValidAddress.j0 k l true) false := fun l => Ev.step (f := fun _ => some false) (fun k => implj0_true l k) (Ev.now _)
  have hcut : X.strings_Cut.f s ⟨#[64]⟩ = some (⟨(Lib.cut s.data.toList [64]).1.toArray⟩, ⟨(Lib.cut s.data.toList [64]).2.1.toArray⟩, (Lib.cut s.data.toList [64]).2.2) := by
    unfold X.strings_Cut.f; rw [if_pos hs]
  rcases Lib.indexB_cases s ⟨#[64]⟩ with hi | ⟨i, hi, hroom⟩
  · have hsp : sp s ⟨#[64]⟩ = [s] := sp_miss _ _ hi
    have hc : (Lib.cut s.data.toList [64]).2.2 = false := by
      have hi' : Lib.index s.data.toList [64] = -1 := hi
      unfold Lib.cut; rw [hi']; rfl
    have e : addrB s = false := by unfold addrB; rw [hsp]; simp
    rw [e]
    refine Ev.congr (f := fun k => X.impl_ValidAddress.j0 k ⟨(Lib.cut s.data.toList [64]).1.toArray⟩ true) (fun k => ?_) (hj0 _)
    unfold X.impl_ValidAddress.f
    rw [hcut, Option.bind_some, hc]; rfl
  · have hi' : Lib.index s.data.toList [64] = (i : Int) := hi
    have hroom' : i + 1 ≤ s.size := hroom
    have hsp : sp s ⟨#[64]⟩ = s.extract 0 i :: sp (s.extract (i + 1) s.size) ⟨#[64]⟩ := sp_hit s ⟨#[64]⟩ i (by decide) hi
    have hc : Lib.cut s.data.toList [64] = (s.data.toList.take i, s.data.toList.drop (i + 1), true) := by
      unfold Lib.cut; rw [hi', if_pos (by omega)]; rfl
    have e1 : (⟨(s.data.toList.take i).toArray⟩ : ByteArray) = s.extract 0 i := by
      apply ByteArray.ext; apply Array.ext'; rw [data_extract]; simp
    have e2 : (⟨(s.data.toList.drop (i + 1)).toArray⟩ : ByteArray) = s.extract (i + 1) s.size := by
      apply ByteArray.ext; apply Array.ext'; rw [data_extract, ← data_length s, List.take_length]
    have hF : ∀ k, X.impl_ValidAddress.f k s = (if (s.size : Int) > 160 then (X.impl_ValidAddress.j0 k (s.extract 0 i) true) else ((X.impl_ValidDomain.f k (s.extract (i + 1) s.size)).bind fun t141 => (if t141 = true then (if ((s.extract 0 i).size : Int) < 1 then (X.impl_ValidAddress.j0 k (s.extract 0 i) true) else (X.impl_ValidAddress.j0 k (s.extract 0 i) (decide (((s.extract 0 i).size : Int) > 64)))) else (X.impl_ValidAddress.j0 k (s.extract 0 i) true)))) := fun k => by
      unfold X.impl_ValidAddress.f
      rw [hcut, Option.bind_some, hc]
      simp only [e1, e2, if_true]
    have hs1 : (s.extract 0 i).size ≤ s.size := by rw [ByteArray.size_extract]; omega
    have hs2 : (s.extract (i + 1) s.size).size ≤ s.size := by rw [ByteArray.size_extract]; omega
    unfold addrB
    rw [hsp]
    generalize s.extract 0 i = l at hF hs1 ⊢
    generalize s.extract (i + 1) s.size = d at hF hs2 ⊢
    by_cases h : (s.size : Int) > 160
    · rw [decide_eq_false (p := s.size ≤ 160) (by omega), Bool.false_and]
      exact Ev.congr (fun k => (hF k).trans (if_pos h)) (hj0 l)
    rw [decide_eq_true (p := s.size ≤ 160) (by omega), Bool.true_and]
    refine Ev.congr (fun k => (hF k).trans (if_neg h)) (Ev.bind (implDomain_f d (by omega)) ?_)
    by_cases hd : domainB d = true
    · have h64 : (64 : UInt8) ∉ d.data.toList := fun hm => absurd (domain_all d hd 64 hm (by decide)) (by decide)
      rw [sp_one d h64]
      simp only [hd, if_true, Bool.and_true]
      by_cases h1 : (l.size : Int) < 1
      · have hl0 : l = ByteArray.empty := by
          apply ByteArray.ext; apply Array.eq_empty_of_size_eq_zero; show l.size = 0; omega
        have e : (sp l ⟨#[46]⟩).all pieceB = false := by rw [hl0, sp_miss _ _ (by rfl), List.all_cons]; unfold pieceB; rw [ByteArray.toList_eq]; rfl
        rw [e, Bool.and_false]
        exact Ev.congr (fun k => if_pos h1) (hj0 l)
      · by_cases h6 : (l.size : Int) > 64
        · rw [decide_eq_false (p := l.size ≤ 64) (by omega), Bool.false_and]
          exact Ev.congr (fun k => (if_neg h1).trans (by rw [decide_eq_true h6])) (hj0 l)
        · rw [decide_eq_true (p := l.size ≤ 64) (by omega), Bool.true_and]
          refine Ev.congr (f := fun k => X.impl_ValidAddress.j0 k l false) (fun k => (if_neg h1).trans (by rw [decide_eq_false h6])) ?_
          exact Ev.step (f := fun _ => some _) (fun k => implj0_f l (by omega) (by omega) k) (Ev.now _)
    · rw [Bool.not_eq_true] at hd
      have e : (match l :: sp d ⟨#[64]⟩ with | [l, d] => decide (l.size ≤ 64) && domainB d && (sp l ⟨#[46]⟩).all pieceB | _ => false) = false := by
        rcases Lib.indexB_cases d ⟨#[64]⟩ with hi | ⟨j, hi, _⟩
        · rw [sp_miss _ _ hi]; simp [hd]
        · rw [sp_hit d ⟨#[64]⟩ j (by decide) hi]
          have : ∀ z : ByteArray, sp z ⟨#[64]⟩ ≠ [] := fun z => by
            rcases Lib.indexB_cases z ⟨#[64]⟩ with hi | ⟨j, hi, _⟩
            · rw [sp_miss _ _ hi]; simp
            · rw [sp_hit z ⟨#[64]⟩ j (by decide) hi]; simp
          cases hz : sp (d.extract (j + (⟨#[64]⟩ : ByteArray).size) d.size) ⟨#[64]⟩ with
          | nil => exact absurd hz (this _)
          | cons a b => rfl
      rw [e, hd]
      exact Ev.congr (fun k => by simp) (hj0 l)
end Go.Proofs.YtnlembpmcbnpnaaGreatDoor.Pure
/- Lines: what l2has answers, the pieces at the ends of lines. Plain Lean. -/
namespace Go.Proofs.YtnlembpmcbnpnaaGreatDoor.Pure
open Go Go.RowKit Go.Proofs.YtnlembpmcbnpnaaGreatDoorW.PrintWords
set_option linter.unusedVariables false
set_option linter.unusedSimpArgs false
theorem byte_iff (x n : UInt8) : ((x.toNat : Int) = (n.toNat : Int)) ↔ x = n := by
  rw [Int.natCast_inj]; exact ⟨fun h => UInt8.toNat.inj h, fun h => by rw [h]⟩
theorem bt_get (s : ByteArray) (j : Nat) (h : j < s.size) : bt s (j : Int) = ((s.data.toList[j]'(by rw [data_length]; exact h)).toNat : Int) := by
  unfold bt
  rw [dif_pos (show (j : Int).toNat < s.size by simpa using h)]; rfl
theorem has_all (s : ByteArray) (hs : s.size ≤ 8796093022208) (c : UInt8) : ∀ (n i : Nat), s.size - i = n → i ≤ s.size → Ev (fun k => X.spec_l2has.l0 k s (c.toNat : Int) (i : Int)) ((s.data.toList.drop i).contains c) := by
  intro n
  induction n with
  | zero =>
    intro i hn hi
    rw [List.drop_of_length_le (by rw [data_length]; omega)]
    refine Ev.step (f := fun _ => some false) (fun k => ?_) (Ev.now _)
    rw [X.spec_l2has.l0, if_neg (by omega)]
  | succ n ih =>
    intro i hn hi
    have e2 : wrap64 ((i : Int) + 1) = ((i + 1 : Nat) : Int) := by rw [wrap_id _ (by omega) (by omega)]; omega
    have hi' : i < s.data.toList.length := by rw [data_length]; omega
    rw [List.drop_eq_getElem_cons hi']
    have hb := bt_get s i (by omega)
    by_cases h : s.data.toList[i] = c
    · refine Ev.step (f := fun _ => some true) (fun k => ?_) ?_
      · rw [X.spec_l2has.l0, if_pos (by omega), if_pos (by omega), hb, if_pos (by rw [h])]
      · rw [h]; simp; exact Ev.now _
    · refine Ev.step (f := fun k => X.spec_l2has.l0 k s (c.toNat : Int) ((i + 1 : Nat) : Int)) (fun k => ?_) ?_
      · rw [X.spec_l2has.l0, if_pos (by omega), if_pos (by omega), hb, if_neg (by rw [byte_iff]; exact h), e2]
      · have := ih (i + 1) (by omega) (by omega)
        have e : (s.data.toList[i] :: s.data.toList.drop (i + 1)).contains c = (s.data.toList.drop (i + 1)).contains c := by
          rw [List.contains_cons, beq_eq_false_iff_ne.2 (Ne.symm h), Bool.false_or]
        rw [e]; exact this
theorem has_ev (s : ByteArray) (hs : s.size ≤ 8796093022208) (c : UInt8) : Ev (fun k => X.spec_l2has.f k s (c.toNat : Int)) (s.data.toList.contains c) := by
  have := has_all s hs c s.size 0 (by omega) (by omega)
  rw [List.drop_zero] at this
  exact this
theorem after_split (sep : ByteArray) (h1 : 1 ≤ sep.size) : ∀ (k : Nat) (s : ByteArray), ∃ qs last, Lib.splitB sep 0 k s = qs ++ [last] ∧ Lib.splitB sep sep.size k s = qs.map (· ++ sep) ++ [last]
  | 0, s => ⟨[], s, rfl, rfl⟩
  | k + 1, s => by
    rcases Lib.indexB_cases s sep with h | ⟨i, h, hr⟩
    · exact ⟨[], s, Lib.splitB_miss _ _ _ _ h, Lib.splitB_miss _ _ _ _ h⟩
    · obtain ⟨qs, last, e1, e2⟩ := after_split sep h1 k (s.extract (i + sep.size) s.size)
      refine ⟨s.extract 0 i :: qs, last, ?_, ?_⟩
      · rw [Lib.splitB_hit sep 0 k s i h, e1]; rfl
      · rw [Lib.splitB_hit sep sep.size k s i h, e2]
        have hx : s.extract 0 (i + sep.size) = s.extract 0 i ++ sep := by
          rcases Lib.index_spec s.data.toList sep.data.toList with ⟨hm, _⟩ | ⟨j, hm, _, hocc, _⟩
          · have : Lib.indexB s sep = -1 := hm
            omega
          · have hij : j = i := by
              have : Lib.indexB s sep = (j : Int) := hm
              omega
            subst hij
            have := (occ_at s sep j hr).2 hocc
            rw [ByteArray.toList_eq, ByteArray.toList_eq] at this
            apply ByteArray.ext
            apply Array.ext'
            rw [data_extract, ByteArray.data_append, Array.toList_append, data_extract, ← this, data_extract]
            simp only [List.drop_zero]
            have t := List.take_append_drop j (s.data.toList.take (j + sep.size))
            rw [List.take_take, Nat.min_eq_left (by omega)] at t
            exact t.symm
        rw [hx]; rfl
def crlf : ByteArray := ⟨#[13, 10]⟩
theorem lines_of (s : ByteArray) : ∃ qs last, sp s crlf = qs ++ [last] ∧ Lib.splitB crlf crlf.size (X.pieces s crlf - 1) s = qs.map (· ++ crlf) ++ [last] := by
  obtain ⟨qs, last, e1, e2⟩ := after_split crlf (by decide) (X.pieces s crlf - 1) s
  exact ⟨qs, last, by rw [← sp_pieces s crlf (by decide)]; exact e1, e2⟩
theorem containsAny_iff (l cs : List UInt8) : Lib.containsAny l cs = l.any (fun b => cs.contains b) := by
  unfold Lib.containsAny
  induction l with
  | nil => rfl
  | cons b l ih =>
    rw [Lib.indexAny, List.any_cons, ← ih]
    have := Lib.indexAny_ge cs l
    cases h : cs.contains b with
    | true => simp
    | false =>
      by_cases h1 : Lib.indexAny l cs = -1
      · simp [h1]
      · rw [if_neg (by simp), if_neg (by simpa using h1)]; simp; omega
end Go.Proofs.YtnlembpmcbnpnaaGreatDoor.Pure
/- Lines of a body: what spec's l2lines and impl's lines answer, side by side. Plain Lean. -/
namespace Go.Proofs.YtnlembpmcbnpnaaGreatDoor.Pure
open Go Go.RowKit Go.Proofs.YtnlembpmcbnpnaaGreatDoorW.PrintWords
set_option linter.unusedVariables false
set_option linter.unusedSimpArgs false
theorem implLines_f (s : ByteArray) (hs : s.size < 4294967281) (qs : List ByteArray) (last : ByteArray) (h : Lib.splitB crlf crlf.size (X.pieces s crlf - 1) s = qs.map (· ++ crlf) ++ [last]) : X.impl_lines.f s = some (qs.map (· ++ crlf) ++ [last]) := by
  unfold X.impl_lines.f X.strings_SplitAfter.f
  rw [if_pos ⟨hs, by decide⟩, Option.bind_some]
  exact congrArg some h
def lineB (q : ByteArray) : Bool := decide (q.size ≤ 998) && !(q.data.toList.contains 13) && !(q.data.toList.contains 10) && !(q.data.toList.contains 0)
theorem lines_l0 (x4 xs : List ByteArray) (hl : xs.length ≤ 8796093022208) (hx : ∀ p ∈ xs, p.size ≤ 8796093022208) : ∀ (n i : Nat), xs.length - i = n → i ≤ xs.length →
    Ev (fun k => X.spec_l2lines.l0 k x4 xs (xs.length : Int) (i : Int)) (if (xs.drop i).all lineB = true then (x4, true) else ([], false)) := by
  intro n
  induction n with
  | zero =>
    intro i hn hi
    refine Ev.step (f := fun _ => some (x4, true)) (fun k => ?_) ?_
    · rw [X.spec_l2lines.l0, if_neg (by omega)]
    · rw [List.drop_of_length_le (by omega)]; exact Ev.now _
  | succ n ih =>
    intro i hn hi
    have e2 : wrap64 ((i : Int) + 1) = ((i + 1 : Nat) : Int) := by rw [wrap_id _ (by omega) (by omega)]; omega
    have hk := ih (i + 1) (by omega) (by omega)
    have hi' : i < xs.length := by omega
    rw [List.drop_eq_getElem_cons hi', List.all_cons]
    have hz := hx _ (List.getElem_mem hi')
    obtain ⟨K, hK⟩ := hk
    obtain ⟨K1, h1⟩ := has_ev xs[i] hz 13
    obtain ⟨K2, h2⟩ := has_ev xs[i] hz 10
    obtain ⟨K3, h3⟩ := has_ev xs[i] hz 0
    refine ⟨K + K1 + K2 + K3 + 1, fun k hk => ?_⟩
    obtain ⟨k, rfl⟩ : ∃ k', k = k' + 1 := ⟨k - 1, by omega⟩
    have g0 : X.spec_l2lines.l0 k x4 xs (xs.length : Int) ((i + 1 : Nat) : Int) = _ := hK k (by omega)
    have g1 : X.spec_l2has.f k xs[i] 13 = _ := h1 k (by omega)
    have g2 : X.spec_l2has.f k xs[i] 10 = _ := h2 k (by omega)
    have g3 : X.spec_l2has.f k xs[i] 0 = _ := h3 k (by omega)
    show X.spec_l2lines.l0 (k + 1) x4 xs (xs.length : Int) (i : Int) = _
    rw [X.spec_l2lines.l0, if_pos (by omega), if_pos (by omega), if_pos (by omega), rd_get xs i hi', e2, g0, g1, g2, g3]
    simp only [Option.bind_some]
    unfold lineB
    by_cases hs : (xs[i].size : Int) > 998
    · rw [if_pos hs, decide_eq_false (p := xs[i].size ≤ 998) (by omega)]; simp
    rw [if_neg hs, decide_eq_true (p := xs[i].size ≤ 998) (by omega)]
    cases xs[i].data.toList.contains 13 <;> cases xs[i].data.toList.contains 10 <;> cases xs[i].data.toList.contains 0 <;> simp
def bodyB (qs : List ByteArray) (last : ByteArray) (s : ByteArray) : Bool := decide (s.size ≤ 3000) && last.toList.isEmpty && qs.all lineB
theorem take_init (qs : List ByteArray) (last : ByteArray) : (qs ++ [last]).take qs.length = qs := by simp
theorem rd_last (qs : List ByteArray) (last : ByteArray) : rdOf ByteArray.empty (qs ++ [last]) (qs.length : Int) = last := by
  rw [rd_get _ _ (by simp)]; simp
theorem specLines_f (s : ByteArray) (qs : List ByteArray) (last : ByteArray) (h : sp s crlf = qs ++ [last]) : Ev (fun k => X.spec_l2lines.f k s) (if bodyB qs last s = true then (qs, true) else ([], false)) := by
  unfold bodyB
  by_cases hs : (s.size : Int) > 3000
  · refine Ev.congr (f := fun _ => some ([], false)) (fun k => ?_) ?_
    · unfold X.spec_l2lines.f; rw [if_pos hs]
    · rw [decide_eq_false (p := s.size ≤ 3000) (by omega)]; exact Ev.now _
  have hlen := sp_len s crlf (by decide)
  rw [h, List.length_append, List.length_singleton] at hlen
  have hsz : ∀ p ∈ qs, p.size ≤ 8796093022208 := fun p hp => by
    have := sp_sizes crlf s.size (Lib.countB s crlf) s (Nat.le_refl _) p (by
      show p ∈ sp s crlf
      rw [h]; exact List.mem_append_left _ hp)
    omega
  rw [decide_eq_true (p := s.size ≤ 3000) (by omega), Bool.true_and]
  have e1 : wrap64 (((qs ++ [last]).length : Int) - 1) = (qs.length : Int) := by
    rw [List.length_append, List.length_singleton, wrap_id _ (by omega) (by omega)]; omega
  have hsp := l2split_f s crlf (by decide) (by omega) (by decide)
  rw [h] at hsp
  refine Ev.congr (f := fun k => (X.spec_l2split.f k s crlf).bind fun t162 => (if 0 ≤ (wrap64 ((t162.length : Int) - 1)) then (if (wrap64 ((t162.length : Int) - 1)) < (t162.length : Int) then (if (rdOf ByteArray.empty t162 (wrap64 ((t162.length : Int) - 1))).toList = ([] : List UInt8) then (if (wrap64 ((t162.length : Int) - 1)) ≤ (t162.length : Int) then ((some (t162.take ((wrap64 ((t162.length : Int) - 1)) : Int).toNat : List ByteArray)).bind fun y166 => (X.spec_l2lines.l0 k y166 y166 (y166.length : Int) 0)) else (none)) else (some (([] : List ByteArray), false))) else (none)) else (none))) (fun k => ?_) (Ev.bind hsp ?_)
  · unfold X.spec_l2lines.f; rw [if_neg hs]; rfl
  · have c1 : (0 : Int) ≤ (qs.length : Int) := by omega
    have c2 : (qs.length : Int) < ((qs ++ [last]).length : Int) := by rw [List.length_append, List.length_singleton]; omega
    refine Ev.congr (f := fun k => if last.toList = ([] : List UInt8) then X.spec_l2lines.l0 k qs qs (qs.length : Int) 0 else some ([], false)) (fun k => ?_) ?_
    · rw [e1, rd_last, if_pos c1, if_pos c2, if_pos (Int.le_of_lt c2), Int.toNat_natCast, take_init, Option.bind_some]
    by_cases hl : last.toList = []
    · have he : last.toList.isEmpty = true := by rw [hl]; rfl
      rw [he, Bool.true_and]
      have := lines_l0 qs qs (by omega) hsz qs.length 0 (by omega) (by omega)
      rw [List.drop_zero] at this
      exact Ev.congr (fun k => if_pos hl) this
    · have he : last.toList.isEmpty = false := by simpa using hl
      rw [he, Bool.false_and]
      exact Ev.congr (fun k => if_neg hl) (Ev.now _)
theorem ext_crlf (q : ByteArray) : (q ++ crlf).extract 0 q.size = q := by
  apply ByteArray.ext; apply Array.ext'
  rw [data_extract, ByteArray.data_append, Array.toList_append, ← data_length q, List.take_left', List.drop_zero]
  rfl
theorem body_l0 (xs : List ByteArray) (hl : xs.length ≤ 8796093022208) (hx : ∀ p ∈ xs, p.size ≤ 1048576) : ∀ (n i : Nat), xs.length - i = n → i ≤ xs.length →
    Ev (fun k => X.impl_ValidBody.l0 k (xs.map (· ++ crlf)) (xs.length : Int) (i : Int)) ((xs.drop i).all lineB) := by
  intro n
  induction n with
  | zero =>
    intro i hn hi
    refine Ev.step (f := fun _ => some true) (fun k => ?_) ?_
    · rw [X.impl_ValidBody.l0, if_neg (by omega)]
    · rw [List.drop_of_length_le (by omega)]; exact Ev.now _
  | succ n ih =>
    intro i hn hi
    have e2 : wrap64 ((i : Int) + 1) = ((i + 1 : Nat) : Int) := by rw [wrap_id _ (by omega) (by omega)]; omega
    have hk := ih (i + 1) (by omega) (by omega)
    have hi' : i < xs.length := by omega
    rw [List.drop_eq_getElem_cons hi', List.all_cons]
    have hz := hx _ (List.getElem_mem hi')
    have hr : rdOf ByteArray.empty (xs.map (· ++ crlf)) (i : Int) = xs[i] ++ crlf := by rw [rd_get _ i (by simpa using hi')]; simp
    have hlm : ((xs.map (· ++ crlf)).length : Int) = (xs.length : Int) := by simp
    generalize xs[i] = q at hz hr ⊢
    have hc2 : crlf.size = 2 := rfl
    have hsz : (q ++ crlf).size = q.size + 2 := by rw [ByteArray.size_append, hc2]
    have e3 : wrap64 (((q ++ crlf).size : Int) - 2) = (q.size : Int) := by rw [hsz, wrap_id _ (by omega) (by omega)]; omega
    have hca : X.strings_ContainsAny.f q ⟨#[13, 10, 0]⟩ = some (q.data.toList.any fun b => ([13, 10, 0] : List UInt8).contains b) := by
      unfold X.strings_ContainsAny.f
      rw [if_pos ⟨by omega, by decide, by decide, by decide⟩, containsAny_iff]
    refine Ev.step (f := fun k => if (q.size : Int) > 998 then some false else if (q.data.toList.any fun b => ([13, 10, 0] : List UInt8).contains b) = true then some false else X.impl_ValidBody.l0 k (xs.map (· ++ crlf)) (xs.length : Int) ((i + 1 : Nat) : Int)) (fun k => ?_) ?_
    · rw [X.impl_ValidBody.l0, if_pos (by omega), if_pos (by omega), if_pos (by omega), hr, e3, if_pos (by omega), if_pos (by omega), Int.toNat_natCast, ext_crlf, hca, Option.bind_some, e2]
    · have hl : lineB q = (decide (q.size ≤ 998) && !(q.data.toList.any fun b => ([13, 10, 0] : List UInt8).contains b)) := by
        unfold lineB
        have : (q.data.toList.any fun b => ([13, 10, 0] : List UInt8).contains b) = (q.data.toList.contains 13 || q.data.toList.contains 10 || q.data.toList.contains 0) := by
          rw [Bool.eq_iff_iff]
          simp only [List.any_eq_true, List.contains_iff_mem, Bool.or_eq_true, List.mem_cons, List.not_mem_nil, or_false]
          constructor
          · rintro ⟨b, hb, rfl | rfl | rfl⟩
            · exact .inl (.inl hb)
            · exact .inl (.inr hb)
            · exact .inr hb
          · rintro ((h | h) | h)
            · exact ⟨_, h, .inl rfl⟩
            · exact ⟨_, h, .inr (.inl rfl)⟩
            · exact ⟨_, h, .inr (.inr rfl)⟩
        rw [this]
        cases q.data.toList.contains 13 <;> cases q.data.toList.contains 10 <;> cases q.data.toList.contains 0 <;> simp
      rw [hl]
      by_cases hs : (q.size : Int) > 998
      · simp only [if_pos hs, decide_eq_false (p := q.size ≤ 998) (by omega), Bool.false_and]; exact Ev.now _
      simp only [if_neg hs, decide_eq_true (p := q.size ≤ 998) (by omega), Bool.true_and]
      cases hb : (q.data.toList.any fun b => ([13, 10, 0] : List UInt8).contains b) with
      | true => simp only [if_true, Bool.not_true, Bool.false_and]; exact Ev.now _
      | false => simp only [Bool.false_eq_true, if_false, Bool.not_false, Bool.true_and]; exact hk
theorem implBody_f (s : ByteArray) (hs0 : s.size < 4294967281) (qs : List ByteArray) (last : ByteArray) (h : sp s crlf = qs ++ [last]) (h' : Lib.splitB crlf crlf.size (X.pieces s crlf - 1) s = qs.map (· ++ crlf) ++ [last]) : Ev (fun k => X.impl_ValidBody.f k s) (bodyB qs last s) := by
  unfold bodyB
  by_cases hs : (s.size : Int) > 3000
  · refine Ev.congr (f := fun _ => some false) (fun k => ?_) ?_
    · unfold X.impl_ValidBody.f; rw [if_pos hs]
    · rw [decide_eq_false (p := s.size ≤ 3000) (by omega)]; exact Ev.now _
  have hlen := sp_len s crlf (by decide)
  rw [h, List.length_append, List.length_singleton] at hlen
  have hsz : ∀ p ∈ qs, p.size ≤ 1048576 := fun p hp => by
    have := sp_sizes crlf s.size (Lib.countB s crlf) s (Nat.le_refl _) p (by
      show p ∈ sp s crlf
      rw [h]; exact List.mem_append_left _ hp)
    omega
  rw [decide_eq_true (p := s.size ≤ 3000) (by omega), Bool.true_and]
  have hll : (qs.map (· ++ crlf) ++ [last]).length = qs.length + 1 := by simp
  have e1 : wrap64 (((qs.map (· ++ crlf) ++ [last]).length : Int) - 1) = (qs.length : Int) := by
    rw [hll, wrap_id _ (by omega) (by omega)]; omega
  have er : rdOf ByteArray.empty (qs.map (· ++ crlf) ++ [last]) (qs.length : Int) = last := by rw [rd_get _ _ (by simp)]; simp
  have et : (qs.map (· ++ crlf) ++ [last]).take qs.length = qs.map (· ++ crlf) := by
    rw [show qs.length = (qs.map (· ++ crlf)).length by simp]; exact List.take_left ..
  refine Ev.congr (f := fun k => if last.toList = ([] : List UInt8) then X.impl_ValidBody.l0 k (qs.map (· ++ crlf)) (qs.length : Int) 0 else some false) (fun k => ?_) ?_
  · unfold X.impl_ValidBody.f
    rw [if_neg hs, implLines_f s hs0 qs last h', Option.bind_some, e1, er, if_pos (by omega), if_pos (by rw [hll]; omega), if_pos (show (qs.length : Int) ≤ _ by rw [hll]; omega), Int.toNat_natCast, et, Option.bind_some]
    simp
  · by_cases hl : last.toList = []
    · have he : last.toList.isEmpty = true := by rw [hl]; rfl
      rw [he, Bool.true_and]
      refine Ev.congr (fun k => if_pos hl) ?_
      have := body_l0 qs (by omega) hsz qs.length 0 (by omega) (by omega)
      rw [List.drop_zero] at this
      exact this
    · have he : last.toList.isEmpty = false := by simpa using hl
      rw [he, Bool.false_and]
      exact Ev.congr (fun k => if_neg hl) (Ev.now _)
end Go.Proofs.YtnlembpmcbnpnaaGreatDoor.Pure
/- Sender, recipients and body: what l4whom and right answer. Plain Lean. -/
namespace Go.Proofs.YtnlembpmcbnpnaaGreatDoor.Pure
open Go Go.RowKit Go.Proofs.YtnlembpmcbnpnaaGreatDoorW.PrintWords
set_option linter.unusedVariables false
set_option linter.unusedSimpArgs false
theorem rcpts_s (xs : List ByteArray) (hl : xs.length ≤ 1048576) : ∀ (n i : Nat), xs.length - i = n → i ≤ xs.length → Ev (fun k => X.spec_l4whom.l0 k xs (xs.length : Int) (i : Int)) ((xs.drop i).all addrB) := by
  intro n
  induction n with
  | zero =>
    intro i hn hi
    rw [List.drop_of_length_le (by omega)]
    refine Ev.step (f := fun _ => some true) (fun k => ?_) (Ev.now _)
    rw [X.spec_l4whom.l0, if_neg (by omega)]
  | succ n ih =>
    intro i hn hi
    have e2 : wrap64 ((i : Int) + 1) = ((i + 1 : Nat) : Int) := by rw [wrap_id _ (by omega) (by omega)]; omega
    have hi' : i < xs.length := by omega
    have hr := rd_get xs i hi'
    have hk := ih (i + 1) (by omega) (by omega)
    rw [List.drop_eq_getElem_cons hi', List.all_cons]
    generalize xs[i] = q at hr ⊢
    refine Ev.step (f := fun k => (X.spec_ValidAddress.f k q).bind fun t => if t = true then X.spec_l4whom.l0 k xs (xs.length : Int) ((i + 1 : Nat) : Int) else some false) (fun k => ?_) (Ev.bind (specAddr_f q) ?_)
    · rw [X.spec_l4whom.l0, if_pos (by omega), if_pos (by omega), if_pos (by omega), hr, e2]
    · cases addrB q with
      | true => exact Ev.congr (fun k => if_pos rfl) (by simpa using hk)
      | false => exact Ev.congr (fun k => if_neg (by simp)) (Ev.now _)
theorem rcpts_i (xs : List ByteArray) (hl : xs.length ≤ 1048576) (hx : ∀ p ∈ xs, p.size < 4294967281) : ∀ (n i : Nat), xs.length - i = n → i ≤ xs.length → Ev (fun k => X.impl_right.l0 k xs (xs.length : Int) (i : Int)) ((xs.drop i).all addrB) := by
  intro n
  induction n with
  | zero =>
    intro i hn hi
    rw [List.drop_of_length_le (by omega)]
    refine Ev.step (f := fun _ => some true) (fun k => ?_) (Ev.now _)
    rw [X.impl_right.l0, if_neg (by omega)]
  | succ n ih =>
    intro i hn hi
    have e2 : wrap64 ((i : Int) + 1) = ((i + 1 : Nat) : Int) := by rw [wrap_id _ (by omega) (by omega)]; omega
    have hi' : i < xs.length := by omega
    have hr := rd_get xs i hi'
    have hz := hx _ (List.getElem_mem hi')
    have hk := ih (i + 1) (by omega) (by omega)
    rw [List.drop_eq_getElem_cons hi', List.all_cons]
    generalize xs[i] = q at hr hz ⊢
    refine Ev.step (f := fun k => (X.impl_ValidAddress.f k q).bind fun t => if t = true then X.impl_right.l0 k xs (xs.length : Int) ((i + 1 : Nat) : Int) else some false) (fun k => ?_) (Ev.bind (implAddr_f q hz) ?_)
    · rw [X.impl_right.l0, if_pos (by omega), if_pos (by omega), if_pos (by omega), hr, e2]
    · cases addrB q with
      | true => exact Ev.congr (fun k => if_pos rfl) (by simpa using hk)
      | false => exact Ev.congr (fun k => if_neg (by simp)) (Ev.now _)
def countB (xs : List ByteArray) : Bool := decide (1 ≤ xs.length) && decide (xs.length ≤ 20)
def fromB (a : ByteArray) : Bool := a.toList.isEmpty || addrB a
theorem whom_j0 (xs : List ByteArray) (hl : xs.length ≤ 1048576) (b : Bool) : Ev (fun k => X.spec_l4whom.j0 k xs b) (!b && xs.all addrB) := by
  cases b with
  | true => exact Ev.step (f := fun _ => some false) (fun k => by rw [X.spec_l4whom.j0, if_pos rfl]) (Ev.now _)
  | false =>
    have := rcpts_s xs hl xs.length 0 (by omega) (by omega)
    rw [List.drop_zero] at this
    exact Ev.step (f := fun k => X.spec_l4whom.l0 k xs (xs.length : Int) 0) (fun k => by rw [X.spec_l4whom.j0, if_neg (by decide)]) (by simpa using this)
theorem right_j0 (xs : List ByteArray) (hl : xs.length ≤ 1048576) (hx : ∀ p ∈ xs, p.size < 4294967281) (b : Bool) : Ev (fun k => X.impl_right.j0 k xs b) (!b && xs.all addrB) := by
  cases b with
  | true => exact Ev.step (f := fun _ => some false) (fun k => by rw [X.impl_right.j0, if_pos rfl]) (Ev.now _)
  | false =>
    have := rcpts_i xs hl hx xs.length 0 (by omega) (by omega)
    rw [List.drop_zero] at this
    exact Ev.step (f := fun k => X.impl_right.l0 k xs (xs.length : Int) 0) (fun k => by rw [X.impl_right.j0, if_neg (by decide)]) (by simpa using this)
theorem whom_f (a : ByteArray) (xs : List ByteArray) (hl : xs.length ≤ 1048576) : Ev (fun k => X.spec_l4whom.f k a xs) (fromB a && countB xs && xs.all addrB) := by
  have hC : Ev (fun k => if (xs.length : Int) < 1 then (X.spec_l4whom.j0 k xs true) else (X.spec_l4whom.j0 k xs (decide ((xs.length : Int) > 20)))) (countB xs && xs.all addrB) := by
    unfold countB
    by_cases h1 : (xs.length : Int) < 1
    · rw [decide_eq_false (p := 1 ≤ xs.length) (by omega)]
      exact Ev.congr (fun k => if_pos h1) (whom_j0 xs hl true)
    · rw [decide_eq_true (p := 1 ≤ xs.length) (by omega), Bool.true_and]
      refine Ev.congr (fun k => if_neg h1) ?_
      have := whom_j0 xs hl (decide ((xs.length : Int) > 20))
      have e : (!decide ((xs.length : Int) > 20)) = decide (xs.length ≤ 20) := by rw [Bool.eq_iff_iff]; simp; omega
      rw [e] at this; exact this
  unfold fromB
  by_cases h : a.toList = []
  · rw [show a.toList.isEmpty = true by rw [h]; rfl, Bool.true_or, Bool.true_and]
    refine Ev.congr (fun k => ?_) hC
    unfold X.spec_l4whom.f; rw [if_pos h]
  · rw [show a.toList.isEmpty = false by simpa using h, Bool.false_or]
    refine Ev.congr (f := fun k => (X.spec_ValidAddress.f k a).bind fun t271 => (if t271 = true then (if (xs.length : Int) < 1 then (X.spec_l4whom.j0 k xs true) else (X.spec_l4whom.j0 k xs (decide ((xs.length : Int) > 20)))) else (X.spec_l4whom.j0 k xs true))) (fun k => ?_) (Ev.bind (specAddr_f a) ?_)
    · unfold X.spec_l4whom.f; rw [if_neg h]
    · cases addrB a with
      | true => rw [Bool.true_and]; exact Ev.congr (fun k => if_pos rfl) hC
      | false => exact Ev.congr (fun k => if_neg (by simp)) (whom_j0 xs hl true)
def bodyV (s : ByteArray) : Bool := bodyB (sp s crlf).dropLast ((sp s crlf).getLastD ⟨#[]⟩) s
theorem bodyV_s (s : ByteArray) : Ev (fun k => X.spec_ValidBody.f k s) (bodyV s) := by
  obtain ⟨qs, last, e1, _⟩ := lines_of s
  have h := specLines_f s qs last e1
  have e : bodyV s = bodyB qs last s := by unfold bodyV; rw [e1]; simp
  rw [e]
  refine Ev.congr (f := fun k => (X.spec_l2lines.f k s).bind fun bt => some bt.2) (fun k => rfl) (Ev.bind h ?_)
  cases bodyB qs last s <;> exact Ev.now _
theorem bodyV_i (s : ByteArray) (hs : s.size < 4294967281) : Ev (fun k => X.impl_ValidBody.f k s) (bodyV s) := by
  obtain ⟨qs, last, e1, e2⟩ := lines_of s
  have e : bodyV s = bodyB qs last s := by unfold bodyV; rw [e1]; simp
  rw [e]
  exact implBody_f s hs qs last e1 e2
theorem right_f (h f b : ByteArray) (xs : List ByteArray) (hl : xs.length ≤ 1048576) (hx : ∀ p ∈ xs, p.size < 4294967281) (hh : h.size < 4294967281) (hf : f.size < 4294967281) (hb : b.size < 4294967281) :
    Ev (fun k => X.impl_right.f k h f xs b) (domainB h && (fromB f && countB xs && xs.all addrB) && bodyV b) := by
  have hT := right_j0 xs hl hx true
  have hC : Ev (fun k => if (xs.length : Int) < 1 then (X.impl_right.j0 k xs true) else (if (xs.length : Int) > 20 then (X.impl_right.j0 k xs true) else ((X.impl_ValidBody.f k b).bind fun t290 => (X.impl_right.j0 k xs (!t290))))) (countB xs && xs.all addrB && bodyV b) := by
    unfold countB
    by_cases h1 : (xs.length : Int) < 1
    · rw [decide_eq_false (p := 1 ≤ xs.length) (by omega)]
      exact Ev.congr (fun k => if_pos h1) hT
    by_cases h2 : (xs.length : Int) > 20
    · rw [decide_eq_false (p := xs.length ≤ 20) (by omega), Bool.and_false]
      exact Ev.congr (fun k => (if_neg h1).trans (if_pos h2)) hT
    rw [decide_eq_true (p := 1 ≤ xs.length) (by omega), decide_eq_true (p := xs.length ≤ 20) (by omega)]
    refine Ev.congr (fun k => (if_neg h1).trans (if_neg h2)) (Ev.bind (bodyV_i b hb) ?_)
    have := right_j0 xs hl hx (!bodyV b)
    simpa [Bool.and_comm] using this
  refine Ev.congr (f := fun k => (X.impl_ValidDomain.f k h).bind fun t289 => if t289 = true then (if f.toList = ([] : List UInt8) then (if (xs.length : Int) < 1 then (X.impl_right.j0 k xs true) else (if (xs.length : Int) > 20 then (X.impl_right.j0 k xs true) else ((X.impl_ValidBody.f k b).bind fun t290 => (X.impl_right.j0 k xs (!t290))))) else ((X.impl_ValidAddress.f k f).bind fun t291 => (if t291 = true then (if (xs.length : Int) < 1 then (X.impl_right.j0 k xs true) else (if (xs.length : Int) > 20 then (X.impl_right.j0 k xs true) else ((X.impl_ValidBody.f k b).bind fun t292 => (X.impl_right.j0 k xs (!t292))))) else (X.impl_right.j0 k xs true)))) else (X.impl_right.j0 k xs true)) (fun k => rfl) (Ev.bind (implDomain_f h hh) ?_)
  cases hd : domainB h with
  | false => exact Ev.congr (fun k => if_neg (by simp)) (by simpa using hT)
  | true =>
    refine Ev.congr (fun k => if_pos rfl) ?_
    unfold fromB
    by_cases hf0 : f.toList = []
    · rw [show f.toList.isEmpty = true by rw [hf0]; rfl]
      exact Ev.congr (fun k => if_pos hf0) (by simpa using hC)
    · rw [show f.toList.isEmpty = false by simpa using hf0]
      refine Ev.congr (fun k => if_neg hf0) (Ev.bind (implAddr_f f hf) ?_)
      cases addrB f with
      | true => exact Ev.congr (fun k => if_pos rfl) (by simpa using hC)
      | false => exact Ev.congr (fun k => if_neg (by simp)) (by simpa using hT)
end Go.Proofs.YtnlembpmcbnpnaaGreatDoor.Pure
/- Packed records: which records are right, their texts, and that impl's and the reference's PackRecord answer just that. Plain Lean. -/
namespace Go.Proofs.YtnlembpmcbnpnaaGreatDoor.Pure
open Go Go.RowKit Go.Proofs.YtnlembpmcbnpnaaGreatDoorW.PrintWords
set_option linter.unusedVariables false
set_option linter.unusedSimpArgs false
theorem evIte {α : Type} {c : Prop} [Decidable c] {f g : Nat → Option α} {r : α} (h1 : c → Ev f r) (h2 : ¬ c → Ev g r) : Ev (fun k => if c then f k else g k) r := by
  by_cases h : c
  · exact Ev.congr (fun k => if_pos h) (h1 h)
  · exact Ev.congr (fun k => if_neg h) (h2 h)
theorem evSome {α β : Type} {o : Option α} {a : α} {f : Nat → α → Option β} {r : β} (ho : o = some a) (h : Ev (fun k => f k a) r) : Ev (fun k => o.bind (f k)) r := by
  subst ho; exact h
structure Rc where
  k : Int
  a : Int
  b : Int
  fr : ByteArray
  xs : List ByteArray
  bd : ByteArray
  i : Int
  r : Int
  vk : Int
  vc : Int
  vt : ByteArray
  tr : Int
  du : Int
def noM (q : Rc) : Prop := q.a = 0 ∧ q.b = 0 ∧ q.fr.toList = [] ∧ q.xs = [] ∧ q.bd.toList = []
def noV (q : Rc) : Prop := q.vk = 0 ∧ q.vc = 0 ∧ q.vt.toList = []
def noT (q : Rc) : Prop := q.tr = 0 ∧ q.du = 0
def msgB (q : Rc) : Bool := (fromB q.fr && countB q.xs && q.xs.all addrB) && bodyV q.bd
def okM (q : Rc) : Prop := q.k = 1 ∧ (1 ≤ q.a ∧ q.a ≤ 999999) ∧ (0 ≤ q.b ∧ q.b ≤ 20000000) ∧ msgB q = true ∧ q.i = 0 ∧ q.r = 0 ∧ noV q ∧ noT q
def okVd (q : Rc) : Prop := q.k = 2 ∧ noM q ∧ (1 ≤ q.i ∧ q.i ≤ 999999) ∧ (0 ≤ q.r ∧ q.r ≤ 19) ∧ (1 ≤ q.vk ∧ q.vk ≤ 4) ∧ (q.vc = 0 ∨ 200 ≤ q.vc ∧ q.vc ≤ 599) ∧ q.vt.size ≤ 512 ∧ noT q
def okT (q : Rc) : Prop := q.k = 3 ∧ noM q ∧ (1 ≤ q.i ∧ q.i ≤ 999999) ∧ q.r = 0 ∧ noV q ∧ (0 ≤ q.tr ∧ q.tr ≤ 999999) ∧ (0 ≤ q.du ∧ q.du ≤ 20014400)
def okK (q : Rc) : Prop := ((q.k = 4 ∨ q.k = 5) ∧ (1 ≤ q.i ∧ q.i ≤ 999999) ∨ q.k = 6 ∧ (1 ≤ q.i ∧ q.i ≤ 1000000)) ∧ noM q ∧ q.r = 0 ∧ noV q ∧ noT q
def okR (q : Rc) : Prop := okM q ∨ okVd q ∨ okT q ∨ okK q
def jt : List (List UInt8) → List UInt8
  | [] => []
  | p :: r => 32 :: (p ++ jt r)
theorem jt_append : ∀ x y : List (List UInt8), jt (x ++ y) = jt x ++ jt y
  | [], _ => rfl
  | p :: x, y => by rw [List.cons_append, jt, jt, jt_append x y]; simp
theorem jt_join (p : List UInt8) (r : List (List UInt8)) : Lib.join (p :: r) [32] = p ++ jt r := by
  rw [Lib.join_cons]
  congr 1
  unfold Lib.joinTail
  induction r with
  | nil => rfl
  | cons x t ih => rw [List.map_cons, List.flatten_cons, ih]; simp [jt]
def cT (x : ByteArray) : List UInt8 := sT x.data.toList
def packL (q : Rc) : List UInt8 :=
  if q.k = 1 then 77 :: jt ([nT q.a.toNat, nT q.b.toNat, nT q.xs.length, cT q.fr] ++ (q.xs.map cT ++ [cT q.bd]))
  else if q.k = 2 then 86 :: jt [nT q.i.toNat, nT q.r.toNat, nT q.vk.toNat, nT q.vc.toNat, cT q.vt]
  else if q.k = 3 then 84 :: jt [nT q.i.toNat, nT q.tr.toNat, nT q.du.toNat]
  else (if q.k = 4 then 66 else if q.k = 5 then 68 else 78) :: jt [nT q.i.toNat]
open Classical in
noncomputable def packV (q : Rc) : ByteArray := if okR q then B (packL q) else B []
theorem packV_no {q : Rc} (h : ¬ okR q) : packV q = B [] := by unfold packV; rw [if_neg h]
theorem packV_yes {q : Rc} (h : okR q) : packV q = B (packL q) := by unfold packV; rw [if_pos h]
/-! The texts' parts, impl. -/
theorem itoa_nT (n : Int) (h : 0 ≤ n) : Lib.itoa n = nT n.toNat := by unfold Lib.itoa; rw [if_neg (by omega)]; rfl
theorem nT_small (n : Nat) (h : n ≤ 1000000000) : (nT n).length ≤ 10 := dd_len 9 n (by omega)
theorem inumT (n : Int) (h : 0 ≤ n) (h1 : n ≤ 9223372036854775807) : X.impl_num.f n = some (B (nT n.toNat)) := by
  unfold X.impl_num.f X.strconv_FormatInt.f
  rw [if_pos (by omega), Option.bind_some, itoa_nT n h]; rfl
theorem cT_B (l : List UInt8) : cT (B l) = sT l := rfl
theorem istrT (x : ByteArray) (h : x.size ≤ 1048576) : X.impl_str.f x = some (B (cT x)) := by
  obtain ⟨l, rfl⟩ : ∃ l, x = B l := ⟨_, (B_eta x).symm⟩
  rw [B_size] at h
  unfold X.impl_str.f X.strconv_Itoa.f
  have e : (⟨(Lib.itoa ((B l).size : Int)).toArray⟩ : ByteArray) = B (nT l.length) := by rw [B_size, itoa_nT _ (by omega), Int.toNat_natCast]; rfl
  have hl := nT_small l.length (by omega)
  have ec : (⟨#[58]⟩ : ByteArray) = B [58] := rfl
  have hz : (B l).size = l.length := B_size l
  rw [if_pos (by rw [hz]; omega), Option.bind_some, e, ec, B_append, B_size, hz, B_size, if_pos (by omega), List.length_append, if_pos (by simp only [List.length_singleton]; omega), B_append, cT_B]
  unfold sT
  simp
/-! The texts' parts, the reference. -/
theorem digit_B (n : Nat) (h : n < 10) : strOfNums [(wrap64 (48 + (n : Int))) % 256] = B (nT n) := by
  rw [wrap_id _ (by omega) (by omega)]
  unfold nT
  rw [dd_small n h]
  have : ((48 + (n : Int)) % 256) = ((48 + n : Nat) : Int) := by omega
  rw [this]
  rfl
theorem decT : ∀ (n : Nat), n ≤ 1000000000 → Ev (fun k => X.spec_l2decimal.f k (n : Int)) (B (nT n)) := by
  intro n
  induction n using Nat.strongRecOn with
  | _ n ih =>
    intro hn
    by_cases h : n < 10
    · refine Ev.step (f := fun _ => some (B (nT n))) (fun k => ?_) (Ev.now _)
      rw [X.spec_l2decimal.f, if_pos (by omega), digit_B n h]
    · have e1 : wrap64 (Int.tdiv (n : Int) 10) = ((n / 10 : Nat) : Int) := by
        rw [Int.tdiv_eq_ediv_of_nonneg (by omega), wrap_id _ (by omega) (by omega)]; omega
      have e2 : Int.tmod (n : Int) 10 = ((n % 10 : Nat) : Int) := by rw [Int.tmod_eq_emod_of_nonneg (by omega)]; omega
      have d1 := nT_small (n / 10) (by omega)
      have d2 := nT_small (n % 10) (by omega)
      refine Ev.step (f := fun k => (X.spec_l2decimal.f k ((n / 10 : Nat) : Int)).bind fun t156 => ((X.spec_l2decimal.f k ((n % 10 : Nat) : Int)).bind fun t157 => (if t156.size + t157.size ≤ 9223372036854775807 then (some (t156 ++ t157)) else (none)))) (fun k => ?_) (Ev.bind (ih (n / 10) (by omega) (by omega)) (Ev.bind (ih (n % 10) (by omega) (by omega)) ?_))
      · rw [X.spec_l2decimal.f, if_neg (by omega), e1, e2]
      · refine Ev.congr (f := fun _ => some (B (nT n))) (fun k => ?_) (Ev.now _)
        rw [if_pos (by rw [B_size, B_size]; omega), B_append]
        have : nT n = nT (n / 10) ++ nT (n % 10) := by
          show Lib.decDigits n = Lib.decDigits (n / 10) ++ Lib.decDigits (n % 10)
          rw [dd_big n h, dd_small (n % 10) (by omega)]
        rw [this]
theorem decI (n : Int) (h0 : 0 ≤ n) (h1 : n ≤ 1000000000) : Ev (fun k => X.spec_l2decimal.f k n) (B (nT n.toNat)) := by
  have := decT n.toNat (by omega)
  rwa [Int.toNat_of_nonneg h0] at this
theorem sp_B : (⟨#[32]⟩ : ByteArray) = B [32] := rfl
theorem snumT (n : Int) (h0 : 0 ≤ n) (h1 : n ≤ 1000000000) : Ev (fun k => X.spec_l6num.f k n) (B (jt [nT n.toNat])) := by
  have d := nT_small n.toNat (by omega)
  refine Ev.bind (decI n h0 h1) (Ev.congr (f := fun _ => some (B (jt [nT n.toNat]))) (fun k => ?_) (Ev.now _))
  rw [if_pos (by rw [B_size]; omega), sp_B, B_append]
  simp [jt]
theorem sstrT (x : ByteArray) (h : x.size ≤ 1048576) : Ev (fun k => X.spec_l6str.f k x) (B (jt [cT x])) := by
  obtain ⟨l, rfl⟩ : ∃ l, x = B l := ⟨_, (B_eta x).symm⟩
  rw [B_size] at h
  have d := nT_small l.length (by omega)
  have hz : (B l).size = l.length := B_size l
  have hD := decT l.length (by omega)
  rw [← hz] at hD
  refine Ev.bind hD (Ev.congr (f := fun _ => some (B (jt [cT (B l)]))) (fun k => ?_) (Ev.now _))
  have ec : (⟨#[58]⟩ : ByteArray) = B [58] := rfl
  rw [hz, sp_B, ec, if_pos (by rw [B_size]; omega), B_append, if_pos (by rw [B_size, List.length_append, List.length_singleton]; omega), B_append, if_pos (by rw [B_size]; simp only [List.length_append, List.length_singleton]; omega), B_append, cT_B]
  simp [jt, sT]
end Go.Proofs.YtnlembpmcbnpnaaGreatDoor.Pure
/- impl.PackRecord's answer at every record: the text of a right record, else nothing. Plain Lean. -/
namespace Go.Proofs.YtnlembpmcbnpnaaGreatDoor.Pure
open Go Go.RowKit Go.Proofs.YtnlembpmcbnpnaaGreatDoorW.PrintWords
set_option linter.unusedVariables false
set_option linter.unusedSimpArgs false
theorem in_f (n lo hi : Int) : X.impl_in.f n lo hi = some (decide (lo ≤ n ∧ n ≤ hi)) := by
  unfold X.impl_in.f
  by_cases h : n ≥ lo
  · rw [if_pos h]
    congr 1
    exact decide_eq_decide.2 ⟨fun h2 => ⟨h, h2⟩, fun h2 => h2.2⟩
  · rw [if_neg h, decide_eq_false (fun h2 => h h2.1)]
structure Fits (q : Rc) : Prop where
  fr : q.fr.size ≤ 1048576
  bd : q.bd.size ≤ 1048576
  vt : q.vt.size ≤ 1048576
  xl : q.xs.length ≤ 1048576
  xs : ∀ x ∈ q.xs, x.size ≤ 1048576
theorem same_l0 (xs : List ByteArray) (hl : xs.length ≤ 1048576) (a b : Int) (fr bd : ByteArray) : ∀ (n i : Nat), xs.length - i = n → i ≤ xs.length →
    Ev (fun k => X.impl_sameMessage.l0 k (xs.length : Int) (i : Int) a b fr xs bd a b fr xs bd) true := by
  intro n
  induction n with
  | zero =>
    intro i hn hi
    refine Ev.step (f := fun _ => some true) (fun k => ?_) (Ev.now _)
    rw [X.impl_sameMessage.l0, if_neg (by omega)]
  | succ n ih =>
    intro i hn hi
    have e2 : wrap64 ((i : Int) + 1) = ((i + 1 : Nat) : Int) := by rw [wrap_id _ (by omega) (by omega)]; omega
    refine Ev.step (fun k => ?_) (ih (i + 1) (by omega) (by omega))
    rw [X.impl_sameMessage.l0, if_pos (by omega), if_pos (by omega), if_pos (by omega), if_pos (by omega), if_pos rfl, e2]
theorem same_refl (a b : Int) (fr : ByteArray) (xs : List ByteArray) (bd : ByteArray) (hl : xs.length ≤ 1048576) : Ev (fun k => X.impl_sameMessage.f k a b fr xs bd a b fr xs bd) true := by
  refine Ev.congr (f := fun k => X.impl_sameMessage.j0 k ((xs.length : Int) != (xs.length : Int)) a b fr xs bd a b fr xs bd) (fun k => ?_) (Ev.step (fun k => ?_) (same_l0 xs hl a b fr bd xs.length 0 (by omega) (by omega)))
  · unfold X.impl_sameMessage.f; rw [if_pos rfl, if_pos rfl, if_pos rfl, if_pos rfl]
  · rw [X.impl_sameMessage.j0, if_neg (by simp)]; rfl
theorem same_j0 (c : Bool) (a b : Int) (fr : ByteArray) (xs : List ByteArray) (bd : ByteArray) : Ev (fun k => X.impl_sameMessage.j0 k c 0 0 ⟨#[]⟩ [] ⟨#[]⟩ a b fr xs bd) (!c) := by
  cases c with
  | true => exact Ev.step (f := fun _ => some false) (fun k => by rw [X.impl_sameMessage.j0, if_pos rfl]) (Ev.now _)
  | false =>
    refine Ev.step (f := fun k => X.impl_sameMessage.l0 k 0 0 0 0 ⟨#[]⟩ [] ⟨#[]⟩ a b fr xs bd) (fun k => by rw [X.impl_sameMessage.j0, if_neg (by decide)]; rfl) (Ev.step (f := fun _ => some true) (fun k => ?_) (Ev.now _))
    rw [X.impl_sameMessage.l0, if_neg (by decide)]
theorem nil_toList : (⟨#[]⟩ : ByteArray).toList = [] := by rw [Lib.toList_data]
open Classical in
theorem same_zero (q : Rc) : Ev (fun k => X.impl_sameMessage.f k 0 0 ⟨#[]⟩ [] ⟨#[]⟩ q.a q.b q.fr q.xs q.bd) (decide (noM q)) := by
  have hT := same_j0 true q.a q.b q.fr q.xs q.bd
  unfold X.impl_sameMessage.f
  rw [nil_toList]
  refine evIte (fun h1 => evIte (fun h2 => evIte (fun h3 => evIte (fun h4 => ?_) (fun h4 => ?_)) (fun h3 => ?_)) (fun h2 => ?_)) (fun h1 => ?_)
  · have := same_j0 ((([] : List ByteArray).length : Int) != (q.xs.length : Int)) q.a q.b q.fr q.xs q.bd
    have e : (!((([] : List ByteArray).length : Int) != (q.xs.length : Int))) = decide (noM q) := by
      rw [Bool.eq_iff_iff]
      simp only [List.length_nil, decide_eq_true_eq, Bool.not_eq_true', bne_eq_false_iff_eq]
      constructor
      · intro h; exact ⟨h1.symm, h2.symm, h3.symm, List.eq_nil_of_length_eq_zero (by omega), h4.symm⟩
      · intro h; rw [h.2.2.2.1]; rfl
    rw [e] at this; exact this
  · rw [decide_eq_false (p := noM q) (fun h => h4 h.2.2.2.2.symm)]; exact hT
  · rw [decide_eq_false (p := noM q) (fun h => h3 h.2.2.1.symm)]; exact hT
  · rw [decide_eq_false (p := noM q) (fun h => h2 h.2.1.symm)]; exact hT
  · rw [decide_eq_false (p := noM q) (fun h => h1 h.1.symm)]; exact hT
theorem okWith_f (f : Nat → Option Bool) (b : Bool) (hb : Ev f b) (o0 o1 o2 : Int) (o3 : ByteArray) (ol : List ByteArray) (o5 : ByteArray) (o6 o7 o8 o9 : Int) (o10 : ByteArray) (o11 o12 : Int) (q : Rc) (s : Bool)
    (hs : Ev (fun k => X.impl_sameMessage.f k o1 o2 o3 ol o5 q.a q.b q.fr q.xs q.bd) s) :
    Ev (fun k => X.okWith k (f k) o0 o1 o2 o3 ol o5 o6 o7 o8 o9 o10 o11 o12 q.k q.a q.b q.fr q.xs q.bd q.i q.r q.vk q.vc q.vt q.tr q.du)
      (b && (s && ((o6 == q.i) && ((o7 == q.r) && (((o8 == q.vk) && ((o9 == q.vc) && (o10.toList == q.vt.toList))) && ((o11 == q.tr) && (o12 == q.du))))))) := by
  unfold X.okWith
  refine Ev.bind (f := fun k b => if b = true then (X.impl_sameMessage.f k o1 o2 o3 ol o5 q.a q.b q.fr q.xs q.bd).bind fun s => some (s && ((o6 == q.i) && ((o7 == q.r) && (((o8 == q.vk) && ((o9 == q.vc) && (o10.toList == q.vt.toList))) && ((o11 == q.tr) && (o12 == q.du)))))) else some false) hb ?_
  cases b with
  | false => exact Ev.congr (fun k => if_neg (by decide)) (Ev.now _)
  | true => rw [Bool.true_and]; exact Ev.congr (fun k => if_pos rfl) (Ev.bind hs (Ev.now _))
theorem helo_ok : domainB ⟨#[111, 117, 116, 46, 101, 120, 97, 109, 112, 108, 101]⟩ = true := by kernel_rfl
theorem mright_f (q : Rc) (h : Fits q) : Ev (fun k => X.impl_messageKind_right.f k q.k q.a q.b q.fr q.xs q.bd q.i q.r q.vk q.vc q.vt q.tr q.du) (decide (1 ≤ q.a ∧ q.a ≤ 999999) && (decide (0 ≤ q.b ∧ q.b ≤ 20000000) && msgB q)) := by
  have hr := right_f ⟨#[111, 117, 116, 46, 101, 120, 97, 109, 112, 108, 101]⟩ q.fr q.bd q.xs h.xl (fun p hp => by have := h.xs p hp; omega) (by decide) (by have := h.fr; omega) (by have := h.bd; omega)
  rw [helo_ok, Bool.true_and] at hr
  unfold X.impl_messageKind_right.f
  refine evSome (in_f _ _ _) ?_
  cases decide (1 ≤ q.a ∧ q.a ≤ 999999) with
  | false => exact Ev.congr (fun k => if_neg (by decide)) (Ev.now _)
  | true =>
    rw [Bool.true_and]
    refine Ev.congr (fun k => if_pos rfl) (evSome (in_f _ _ _) ?_)
    cases decide (0 ≤ q.b ∧ q.b ≤ 20000000) with
    | false => exact Ev.congr (fun k => if_neg (by decide)) (Ev.now _)
    | true => rw [Bool.true_and]; exact Ev.congr (fun k => if_pos rfl) (Ev.bind hr (Ev.now _))
def codeB (n : Int) : Bool := decide (n = 0 ∨ 200 ≤ n ∧ n ≤ 599)
theorem code_i (n : Int) : X.impl_codeOk.f n = some (codeB n) := by
  unfold X.impl_codeOk.f codeB
  by_cases h : n = 0
  · rw [if_pos h, decide_eq_true (.inl h)]
  by_cases h2 : n ≥ 200
  · rw [if_neg h, if_pos h2]
    congr 1
    exact decide_eq_decide.2 ⟨fun h3 => .inr ⟨h2, h3⟩, fun h3 => (h3.resolve_left h).2⟩
  · rw [if_neg h, if_neg h2, decide_eq_false (fun h3 => h2 (h3.resolve_left h).1)]
theorem vright_f (q : Rc) : X.impl_verdictKind_right.f q.k q.a q.b q.fr q.xs q.bd q.i q.r q.vk q.vc q.vt q.tr q.du = some (decide (1 ≤ q.i ∧ q.i ≤ 999999) && (decide (0 ≤ q.r ∧ q.r ≤ 19) && (decide (1 ≤ q.vk ∧ q.vk ≤ 4) && (codeB q.vc && decide (q.vt.size ≤ 512))))) := by
  unfold X.impl_verdictKind_right.f
  rw [in_f, Option.bind_some]
  cases decide (1 ≤ q.i ∧ q.i ≤ 999999) with
  | false => rfl
  | true =>
    rw [if_pos rfl, in_f, Option.bind_some]
    cases decide (0 ≤ q.r ∧ q.r ≤ 19) with
    | false => rfl
    | true =>
      rw [if_pos rfl, in_f, Option.bind_some]
      cases decide (1 ≤ q.vk ∧ q.vk ≤ 4) with
      | false => rfl
      | true =>
        rw [if_pos rfl, code_i, Option.bind_some]
        cases codeB q.vc with
        | false => rfl
        | true =>
          rw [if_pos rfl]
          simp only [Bool.true_and]
          congr 1
          exact decide_eq_decide.2 (by omega)
theorem tright_f (q : Rc) : X.impl_tryKind_right.f q.k q.a q.b q.fr q.xs q.bd q.i q.r q.vk q.vc q.vt q.tr q.du = some (decide (1 ≤ q.i ∧ q.i ≤ 999999) && (decide (0 ≤ q.tr ∧ q.tr ≤ 999999) && decide (0 ≤ q.du ∧ q.du ≤ 20014400))) := by
  unfold X.impl_tryKind_right.f
  rw [in_f, Option.bind_some]
  cases decide (1 ≤ q.i ∧ q.i ≤ 999999) with
  | false => rfl
  | true =>
    rw [if_pos rfl, in_f, Option.bind_some]
    cases decide (0 ≤ q.tr ∧ q.tr ≤ 999999) with
    | false => rfl
    | true => rw [if_pos rfl, in_f, Option.bind_some]; rfl
theorem kright_f (c : ByteArray) (m : Int) (q : Rc) : X.impl_markKind_right.f c m q.k q.a q.b q.fr q.xs q.bd q.i q.r q.vk q.vc q.vt q.tr q.du = some (decide (1 ≤ q.i ∧ q.i ≤ m)) := by
  unfold X.impl_markKind_right.f
  rw [in_f, Option.bind_some]
theorem zero_beq (n : Int) : ((0 : Int) == n) = decide (n = 0) := by
  rw [Bool.eq_iff_iff, beq_iff_eq, decide_eq_true_eq]; exact eq_comm
theorem nil_beq (l : List UInt8) : (([] : List UInt8) == l) = decide (l = []) := by
  rw [Bool.eq_iff_iff, beq_iff_eq, decide_eq_true_eq]; exact eq_comm
open Classical in
theorem okMark (q : Rc) (c : ByteArray) (m : Int) (e : okR q ↔ (1 ≤ q.i ∧ q.i ≤ m) ∧ noM q ∧ q.r = 0 ∧ noV q ∧ noT q) :
    Ev (fun k => X.okWith k (X.impl_markKind_right.f c m q.k q.a q.b q.fr q.xs q.bd q.i q.r q.vk q.vc q.vt q.tr q.du) q.k 0 0 ⟨#[]⟩ [] ⟨#[]⟩ q.i 0 0 0 ⟨#[]⟩ 0 0 q.k q.a q.b q.fr q.xs q.bd q.i q.r q.vk q.vc q.vt q.tr q.du) (decide (okR q)) := by
  have := okWith_f _ _ (Ev.congr (fun k => kright_f c m q) (Ev.now _)) q.k 0 0 ⟨#[]⟩ [] ⟨#[]⟩ q.i 0 0 0 ⟨#[]⟩ 0 0 q _ (same_zero q)
  refine (show _ = decide (okR q) from ?_) ▸ this
  rw [Bool.eq_iff_iff]
  simp only [nil_toList, zero_beq, nil_beq, Bool.and_eq_true, decide_eq_true_eq, BEq.rfl, true_and, and_true]
  rw [e]
  unfold noV noT
  constructor
  · rintro ⟨ha, hm, hr, hv, ht⟩; exact ⟨ha, hm, hr, hv, ht⟩
  · rintro ⟨ha, hm, hr, hv, ht⟩; exact ⟨ha, hm, hr, hv, ht⟩
theorem okR_mark (q : Rc) (m : Int) (h : (q.k = 4 ∨ q.k = 5) ∧ m = 999999 ∨ q.k = 6 ∧ m = 1000000) : okR q ↔ (1 ≤ q.i ∧ q.i ≤ m) ∧ noM q ∧ q.r = 0 ∧ noV q ∧ noT q := by
  unfold okR okM okVd okT okK
  constructor
  · rintro (⟨e, _⟩ | ⟨e, _⟩ | ⟨e, _⟩ | ⟨ha, hm, hr, hv, ht⟩)
    · omega
    · omega
    · omega
    · exact ⟨by omega, hm, hr, hv, ht⟩
  · rintro ⟨ha, hm, hr, hv, ht⟩
    exact .inr (.inr (.inr ⟨by omega, hm, hr, hv, ht⟩))
theorem okR_none (q : Rc) (h1 : ¬ q.k = 1) (h2 : ¬ q.k = 2) (h3 : ¬ q.k = 3) (h4 : ¬ q.k = 4) (h5 : ¬ q.k = 5) (h6 : ¬ q.k = 6) : ¬ okR q := by
  unfold okR okM okVd okT okK
  rintro (⟨e, _⟩ | ⟨e, _⟩ | ⟨e, _⟩ | ⟨e, _⟩) <;> omega
open Classical in
theorem okI_f (q : Rc) (h : Fits q) : Ev (fun k => X.impl_recordOk.f k q.k q.a q.b q.fr q.xs q.bd q.i q.r q.vk q.vc q.vt q.tr q.du) (decide (okR q)) := by
  unfold X.impl_recordOk.f
  refine evIte (fun h1 => ?_) (fun h1 => evIte (fun h2 => ?_) (fun h2 => evIte (fun h3 => ?_) (fun h3 => evIte (fun h4 => ?_) (fun h4 => evIte (fun h5 => ?_) (fun h5 => evIte (fun h6 => ?_) (fun h6 => ?_))))))
  · have := okWith_f _ _ (mright_f q h) q.k q.a q.b q.fr q.xs q.bd 0 0 0 0 ⟨#[]⟩ 0 0 q true (same_refl _ _ _ _ _ h.xl)
    refine (show _ = decide (okR q) from ?_) ▸ this
    rw [Bool.eq_iff_iff]
    simp only [nil_toList, zero_beq, nil_beq, Bool.and_eq_true, decide_eq_true_eq, Bool.true_and, true_and]
    unfold okR okM okVd okT okK noV noT
    constructor
    · rintro ⟨⟨ha, hb, hm⟩, hi, hr, ⟨hv1, hv2, hv3⟩, ht1, ht2⟩
      exact .inl ⟨h1, ha, hb, hm, hi, hr, ⟨hv1, hv2, hv3⟩, ht1, ht2⟩
    · rintro (⟨_, ha, hb, hm, hi, hr, ⟨hv1, hv2, hv3⟩, ht1, ht2⟩ | ⟨e, _⟩ | ⟨e, _⟩ | ⟨e, _⟩)
      · exact ⟨⟨ha, hb, hm⟩, hi, hr, ⟨hv1, hv2, hv3⟩, ht1, ht2⟩
      all_goals omega
  · have := okWith_f _ _ (Ev.congr (fun k => vright_f q) (Ev.now _)) q.k 0 0 ⟨#[]⟩ [] ⟨#[]⟩ q.i q.r q.vk q.vc q.vt 0 0 q _ (same_zero q)
    refine (show _ = decide (okR q) from ?_) ▸ this
    rw [Bool.eq_iff_iff]
    simp only [zero_beq, nil_beq, Bool.and_eq_true, decide_eq_true_eq, BEq.rfl, true_and, and_true, codeB]
    unfold okR okM okVd okT okK noT
    constructor
    · rintro ⟨⟨ha, hb, hc, hd, he⟩, hm, ht1, ht2⟩
      exact .inr (.inl ⟨h2, hm, ha, hb, hc, hd, he, ht1, ht2⟩)
    · rintro (⟨e, _⟩ | ⟨_, hm, ha, hb, hc, hd, he, ht1, ht2⟩ | ⟨e, _⟩ | ⟨e, _⟩)
      · omega
      · exact ⟨⟨ha, hb, hc, hd, he⟩, hm, ht1, ht2⟩
      all_goals omega
  · have := okWith_f _ _ (Ev.congr (fun k => tright_f q) (Ev.now _)) q.k 0 0 ⟨#[]⟩ [] ⟨#[]⟩ q.i 0 0 0 ⟨#[]⟩ q.tr q.du q _ (same_zero q)
    refine (show _ = decide (okR q) from ?_) ▸ this
    rw [Bool.eq_iff_iff]
    simp only [nil_toList, zero_beq, nil_beq, Bool.and_eq_true, decide_eq_true_eq, BEq.rfl, true_and, and_true]
    unfold okR okM okVd okT okK noV
    constructor
    · rintro ⟨⟨ha, hb, hc⟩, hm, hr, hv⟩
      exact .inr (.inr (.inl ⟨h3, hm, ha, hr, hv, hb, hc⟩))
    · rintro (⟨e, _⟩ | ⟨e, _⟩ | ⟨_, hm, ha, hr, hv, hb, hc⟩ | ⟨e, _⟩)
      · omega
      · omega
      · exact ⟨⟨ha, hb, hc⟩, hm, hr, hv⟩
      · omega
  · exact okMark q _ _ (okR_mark q _ (by omega))
  · exact okMark q _ _ (okR_mark q _ (by omega))
  · exact okMark q _ _ (okR_mark q _ (by omega))
  · rw [decide_eq_false (okR_none q h1 h2 h3 h4 h5 h6)]
    exact Ev.now _
end Go.Proofs.YtnlembpmcbnpnaaGreatDoor.Pure
/- A right record's text is short; impl.PackRecord gives it. Plain Lean. -/
namespace Go.Proofs.YtnlembpmcbnpnaaGreatDoor.Pure
open Go Go.RowKit Go.Proofs.YtnlembpmcbnpnaaGreatDoorW.PrintWords
set_option linter.unusedVariables false
set_option linter.unusedSimpArgs false
theorem addr_size (s : ByteArray) (h : addrB s = true) : s.size ≤ 160 := by
  unfold addrB at h
  rw [Bool.and_eq_true] at h
  exact of_decide_eq_true h.1
theorem body_size (s : ByteArray) (h : bodyV s = true) : s.size ≤ 3000 := by
  unfold bodyV bodyB at h
  rw [Bool.and_eq_true, Bool.and_eq_true] at h
  exact of_decide_eq_true h.1.1
theorem from_size (s : ByteArray) (h : fromB s = true) : s.size ≤ 160 := by
  unfold fromB at h
  rw [Bool.or_eq_true] at h
  rcases h with h | h
  · have : s.toList = [] := by simpa using h
    have e : s.data.toList = [] := by rwa [Lib.toList_data] at this
    rw [Lib.size_eq, e]; simp
  · exact addr_size s h
theorem cT_len (x : ByteArray) : (cT x).length = (nT x.size).length + 1 + x.size := by
  unfold cT sT
  rw [List.length_append, List.length_cons, ← Lib.size_eq]; omega
theorem jt_len_cons (p : List UInt8) (r : List (List UInt8)) : (jt (p :: r)).length = p.length + 1 + (jt r).length := by
  rw [jt, List.length_cons, List.length_append]; omega
theorem jt_len_nil : (jt []).length = 0 := rfl
theorem nT_len (k n : Nat) (h : n < 10 ^ (k + 1)) : (nT n).length ≤ k + 1 := dd_len k n h
theorem cT_len_le (x : ByteArray) (k m : Nat) (hx : x.size ≤ m) (hm : m < 10 ^ (k + 1)) : (cT x).length ≤ k + 2 + m := by
  rw [cT_len]
  have := nT_len k x.size (Nat.lt_of_le_of_lt hx hm)
  omega
theorem xs_len : ∀ xs : List ByteArray, (∀ x ∈ xs, x.size ≤ 160) → (jt (xs.map cT)).length ≤ 165 * xs.length
  | [], _ => Nat.le_refl _
  | x :: xs, h => by
    rw [List.map_cons, jt_len_cons, List.length_cons]
    have h1 := cT_len_le x 2 160 (h x List.mem_cons_self) (by decide)
    have h2 := xs_len xs (fun y hy => h y (List.mem_cons_of_mem _ hy))
    omega
theorem okM_parts (q : Rc) (h : okM q) : q.fr.size ≤ 160 ∧ q.xs.length ≤ 20 ∧ (∀ x ∈ q.xs, x.size ≤ 160) ∧ q.bd.size ≤ 3000 := by
  obtain ⟨_, _, _, hm, _⟩ := h
  unfold msgB at hm
  simp only [Bool.and_eq_true] at hm
  obtain ⟨⟨⟨hf, hc⟩, ha⟩, hb⟩ := hm
  unfold countB at hc
  rw [Bool.and_eq_true] at hc
  exact ⟨from_size _ hf, of_decide_eq_true hc.2, fun x hx => addr_size x (List.all_eq_true.1 ha x hx), body_size _ hb⟩
theorem packL_M (q : Rc) (h : q.k = 1) : packL q = 77 :: jt ([nT q.a.toNat, nT q.b.toNat, nT q.xs.length, cT q.fr] ++ (q.xs.map cT ++ [cT q.bd])) := by unfold packL; rw [if_pos h]
theorem packL_V (q : Rc) (h : q.k = 2) : packL q = 86 :: jt [nT q.i.toNat, nT q.r.toNat, nT q.vk.toNat, nT q.vc.toNat, cT q.vt] := by unfold packL; rw [if_neg (by omega), if_pos h]
theorem packL_T (q : Rc) (h : q.k = 3) : packL q = 84 :: jt [nT q.i.toNat, nT q.tr.toNat, nT q.du.toNat] := by unfold packL; rw [if_neg (by omega), if_neg (by omega), if_pos h]
theorem packL_B (q : Rc) (h : q.k = 4) : packL q = 66 :: jt [nT q.i.toNat] := by unfold packL; rw [if_neg (by omega), if_neg (by omega), if_neg (by omega), if_pos h]
theorem packL_D (q : Rc) (h : q.k = 5) : packL q = 68 :: jt [nT q.i.toNat] := by unfold packL; rw [if_neg (by omega), if_neg (by omega), if_neg (by omega), if_neg (by omega), if_pos h]
theorem packL_N (q : Rc) (h : q.k = 6) : packL q = 78 :: jt [nT q.i.toNat] := by unfold packL; rw [if_neg (by omega), if_neg (by omega), if_neg (by omega), if_neg (by omega), if_neg (by omega)]
theorem n6 (n : Int) (h : 1 ≤ n ∧ n ≤ 1000000) : (nT n.toNat).length ≤ 7 := nT_len 6 _ (show _ < 10000000 by omega)
theorem packL_len (q : Rc) (h : okR q) : (packL q).length ≤ 8000 := by
  rcases h with h | h | h | h
  · obtain ⟨hf, hl, hx, hb⟩ := okM_parts q h
    obtain ⟨hk, ha, hb', _⟩ := h
    rw [packL_M q hk, List.length_cons, jt_append, jt_append, List.length_append, List.length_append]
    simp only [jt_len_cons, jt_len_nil]
    have h1 := n6 q.a (by omega)
    have h2 : (nT q.b.toNat).length ≤ 8 := nT_len 7 _ (show _ < 100000000 by omega)
    have h3 : (nT q.xs.length).length ≤ 2 := nT_len 1 _ (show _ < 100 by omega)
    have h4 := cT_len_le q.fr 2 160 hf (by decide)
    have h5 := xs_len q.xs hx
    have h6 := cT_len_le q.bd 3 3000 hb (by decide)
    omega
  · obtain ⟨hk, _, hi, hr, hv, hc, ht, _⟩ := h
    rw [packL_V q hk, List.length_cons]
    simp only [jt_len_cons, jt_len_nil]
    have h1 := n6 q.i (by omega)
    have h2 : (nT q.r.toNat).length ≤ 2 := nT_len 1 _ (show _ < 100 by omega)
    have h3 : (nT q.vk.toNat).length ≤ 1 := nT_len 0 _ (show _ < 10 by omega)
    have h4 : (nT q.vc.toNat).length ≤ 3 := nT_len 2 _ (show _ < 1000 by omega)
    have h5 := cT_len_le q.vt 2 512 ht (by decide)
    omega
  · obtain ⟨hk, _, hi, _, _, ht, hd⟩ := h
    rw [packL_T q hk, List.length_cons]
    simp only [jt_len_cons, jt_len_nil]
    have h1 := n6 q.i (by omega)
    have h2 : (nT q.tr.toNat).length ≤ 6 := nT_len 5 _ (show _ < 1000000 by omega)
    have h3 : (nT q.du.toNat).length ≤ 8 := nT_len 7 _ (show _ < 100000000 by omega)
    omega
  · obtain ⟨hk, _⟩ := h
    have h1 := n6 q.i (by omega)
    rcases hk with ⟨hk | hk, _⟩ | ⟨hk, _⟩
    · rw [packL_B q hk, List.length_cons, jt_len_cons, jt_len_nil]; omega
    · rw [packL_D q hk, List.length_cons, jt_len_cons, jt_len_nil]; omega
    · rw [packL_N q hk, List.length_cons, jt_len_cons, jt_len_nil]; omega
theorem join_B (l : List (List UInt8)) (h1 : l.length ≤ 1048576) (h2 : (Lib.join l [32]).length ≤ 8000) : X.strings_Join.f (l.map B) ⟨#[32]⟩ = some (B (Lib.join l [32])) := by
  have e : (l.map B).map (·.data.toList) = l := by rw [List.map_map]; exact (List.map_congr_left (fun _ _ => rfl)).trans (List.map_id l)
  unfold X.strings_Join.f
  rw [e, List.length_map]
  have e2 : (⟨#[32]⟩ : ByteArray).data.toList = [32] := rfl
  rw [e2, if_pos (by omega)]; rfl
theorem mpack_l0 (xs : List ByteArray) (bd : ByteArray) (a b : Int) (fr : ByteArray) (hl : xs.length ≤ 20) (hx : ∀ x ∈ xs, x.size ≤ 1048576) (hb : bd.size ≤ 1048576) (full : List (List UInt8)) (hf : (Lib.join full [32]).length ≤ 8000) (hfl : full.length ≤ 100) :
    ∀ (n i : Nat) (acc : List (List UInt8)), xs.length - i = n → i ≤ xs.length → full = acc ++ ((xs.drop i).map cT ++ [cT bd]) →
    Ev (fun k => X.impl_messageKind_pack.l0 k (acc.map B) xs (xs.length : Int) (i : Int) a b fr xs bd) (B (Lib.join full [32])) := by
  intro n
  induction n with
  | zero =>
    intro i acc hn hi he
    obtain rfl : i = xs.length := by omega
    rw [List.drop_length, List.map_nil, List.nil_append] at he
    refine Ev.step (f := fun _ => some (B (Lib.join full [32]))) (fun k => ?_) (Ev.now _)
    have hal : acc.length ≤ 100 := by rw [he, List.length_append] at hfl; omega
    rw [X.impl_messageKind_pack.l0, if_neg (by omega), istrT bd hb, Option.bind_some, if_pos (by rw [List.length_map]; omega)]
    have : acc.map B ++ [B (cT bd)] = full.map B := by rw [he, List.map_append]; rfl
    rw [this, join_B full (by omega) hf, Option.bind_some]
  | succ n ih =>
    intro i acc hn hi he
    have hi' : i < xs.length := by omega
    have e2 : wrap64 ((i : Int) + 1) = ((i + 1 : Nat) : Int) := by rw [wrap_id _ (by omega) (by omega)]; omega
    have hr := rd_get xs i hi'
    have hz := hx _ (List.getElem_mem hi')
    rw [List.drop_eq_getElem_cons hi', List.map_cons] at he
    generalize xs[i] = y at hr hz he
    have hal : acc.length ≤ 100 := by rw [he, List.length_append] at hfl; omega
    have hk := ih (i + 1) (acc ++ [cT y]) (by omega) (by omega) (by rw [he]; simp)
    refine Ev.step (fun k => ?_) hk
    rw [X.impl_messageKind_pack.l0, if_pos (by omega), if_pos (by omega), if_pos (by omega), hr, istrT y hz, Option.bind_some, if_pos (by rw [List.length_map]; omega), e2, List.map_append]
    rfl
theorem kp_f (q : Rc) (h : Fits q) (ho : okR q) : Ev (fun k => X.kindPack.f k q.k q.a q.b q.fr q.xs q.bd q.i q.r q.vk q.vc q.vt q.tr q.du) (B (packL q)) := by
  have hlen := packL_len q ho
  unfold X.kindPack.f
  rcases ho with ho | ho | ho | ho
  · obtain ⟨hf, hl, hx, hb⟩ := okM_parts q ho
    obtain ⟨hk, ha, hb', _⟩ := ho
    refine Ev.congr (fun k => if_pos hk) ?_
    rw [packL_M q hk] at hlen ⊢
    unfold X.impl_messageKind_pack.f
    refine evSome (inumT q.a (by omega) (by omega)) (evSome (inumT q.b (by omega) (by omega)) (evSome (inumT (q.xs.length : Int) (by omega) (by omega)) (evSome (istrT q.fr h.fr) ?_)))
    rw [Int.toNat_natCast]
    have hj : Lib.join ([77] :: ([nT q.a.toNat, nT q.b.toNat, nT q.xs.length, cT q.fr] ++ (q.xs.map cT ++ [cT q.bd]))) [32] = 77 :: jt ([nT q.a.toNat, nT q.b.toNat, nT q.xs.length, cT q.fr] ++ (q.xs.map cT ++ [cT q.bd])) := jt_join _ _
    rw [← hj] at hlen ⊢
    exact mpack_l0 q.xs q.bd q.a q.b q.fr hl h.xs h.bd _ hlen (by simp; omega) q.xs.length 0 [[77], nT q.a.toNat, nT q.b.toNat, nT q.xs.length, cT q.fr] (by omega) (by omega) (by rw [List.drop_zero]; rfl)
  · obtain ⟨hk, _, hi, hr, hv, hc, ht, _⟩ := ho
    refine Ev.congr (fun k => (if_neg (by omega)).trans (if_pos hk)) ?_
    rw [packL_V q hk] at hlen ⊢
    unfold X.impl_verdictKind_pack.f
    refine evSome (inumT q.i (by omega) (by omega)) (evSome (inumT q.r (by omega) (by omega)) (evSome (inumT q.vk (by omega) (by omega)) (evSome (inumT q.vc (by omega) (by omega)) (evSome (istrT q.vt h.vt) ?_))))
    have hj : Lib.join ([86] :: [nT q.i.toNat, nT q.r.toNat, nT q.vk.toNat, nT q.vc.toNat, cT q.vt]) [32] = 86 :: jt [nT q.i.toNat, nT q.r.toNat, nT q.vk.toNat, nT q.vc.toNat, cT q.vt] := jt_join _ _
    rw [← hj] at hlen ⊢
    exact evSome (join_B [[86], nT q.i.toNat, nT q.r.toNat, nT q.vk.toNat, nT q.vc.toNat, cT q.vt] (by simp) hlen) (Ev.now _)
  · obtain ⟨hk, _, hi, _, _, ht, hd⟩ := ho
    refine Ev.congr (fun k => (if_neg (by omega)).trans ((if_neg (by omega)).trans (if_pos hk))) ?_
    rw [packL_T q hk] at hlen ⊢
    unfold X.impl_tryKind_pack.f
    refine evSome (inumT q.i (by omega) (by omega)) (evSome (inumT q.tr (by omega) (by omega)) (evSome (inumT q.du (by omega) (by omega)) ?_))
    have hj : Lib.join ([84] :: [nT q.i.toNat, nT q.tr.toNat, nT q.du.toNat]) [32] = 84 :: jt [nT q.i.toNat, nT q.tr.toNat, nT q.du.toNat] := jt_join _ _
    rw [← hj] at hlen ⊢
    exact evSome (join_B [[84], nT q.i.toNat, nT q.tr.toNat, nT q.du.toNat] (by simp) hlen) (Ev.now _)
  · obtain ⟨hk, _⟩ := ho
    have hM : ∀ (c : UInt8), Ev (fun k => X.impl_markKind_pack.f ⟨#[c]⟩ 0 q.k q.a q.b q.fr q.xs q.bd q.i q.r q.vk q.vc q.vt q.tr q.du) (B (c :: jt [nT q.i.toNat])) := fun c => by
      unfold X.impl_markKind_pack.f
      refine Ev.congr (f := fun _ => some (B (c :: jt [nT q.i.toNat]))) (fun k => ?_) (Ev.now _)
      have hz : (⟨#[c]⟩ : ByteArray) = B [c] := rfl
      have h7 := n6 q.i (by omega)
      rw [hz, sp_B, if_pos (by rw [B_size, List.length_singleton]; omega), inumT q.i (by omega) (by omega), Option.bind_some, B_append, if_pos (by rw [B_size, B_size]; simp only [List.length_append, List.length_singleton]; omega), B_append]
      simp [jt]
    have hM' : ∀ (c : UInt8) (m : Int), Ev (fun k => X.impl_markKind_pack.f ⟨#[c]⟩ m q.k q.a q.b q.fr q.xs q.bd q.i q.r q.vk q.vc q.vt q.tr q.du) (B (c :: jt [nT q.i.toNat])) := fun c m => hM c
    rcases hk with ⟨hk | hk, _⟩ | ⟨hk, _⟩
    · rw [packL_B q hk]
      exact Ev.congr (fun k => (if_neg (by omega)).trans ((if_neg (by omega)).trans ((if_neg (by omega)).trans (if_pos hk)))) (hM' 66 _)
    · rw [packL_D q hk]
      exact Ev.congr (fun k => (if_neg (by omega)).trans ((if_neg (by omega)).trans ((if_neg (by omega)).trans ((if_neg (by omega)).trans (if_pos hk))))) (hM' 68 _)
    · rw [packL_N q hk]
      exact Ev.congr (fun k => (if_neg (by omega)).trans ((if_neg (by omega)).trans ((if_neg (by omega)).trans ((if_neg (by omega)).trans ((if_neg (by omega)).trans (if_pos hk)))))) (hM' 78 _)
open Classical in
theorem packI_f (q : Rc) (h : Fits q) : Ev (fun k => X.impl_PackRecord.f k q.k q.a q.b q.fr q.xs q.bd q.i q.r q.vk q.vc q.vt q.tr q.du) (packV q) := by
  unfold X.impl_PackRecord.f
  refine Ev.bind (f := fun k b => if b = true then X.kindPack.f k q.k q.a q.b q.fr q.xs q.bd q.i q.r q.vk q.vc q.vt q.tr q.du else some (⟨#[]⟩ : ByteArray)) (okI_f q h) ?_
  by_cases ho : okR q
  · rw [packV_yes ho]
    exact Ev.congr (fun k => if_pos (decide_eq_true ho)) (kp_f q h ho)
  · rw [packV_no ho]
    exact Ev.congr (fun k => if_neg (by rw [decide_eq_false ho]; decide)) (Ev.now _)
end Go.Proofs.YtnlembpmcbnpnaaGreatDoor.Pure
