/- What impl's ParseReply answers, as one recursion over the text. Plain Lean. -/
import Derived.Test.YtnhhbdhkhdbanaaDoorQPRep
import Derived.Test.YtnhhbdhkhdbanaaDoorQGAtoi
import Derived.Test.YtnhhbdhkhdbanaaDoorQGAny
namespace Go.Proofs.YtnhhbdhkhdbanaaDoor.Pure
open Go Go.RowKit Go.Proofs.YtnhhbdhkhdbanaaDoorW.PrintWords
set_option linter.unusedVariables false
set_option linter.unusedSimpArgs false
theorem bt_ext (l : ByteArray) (n j : Nat) (hj : j < n) (hn : n ≤ l.size) : bt (l.extract 0 n) (j : Int) = bt l (j : Int) := by
  have hz : (l.extract 0 n).size = n := by rw [ByteArray.size_extract]; omega
  rw [bt_get _ j (by omega), bt_get _ j (by omega)]
  have h1 : (l.extract 0 n).data.toList[j]? = l.data.toList[j]? := by rw [data_extract, List.drop_zero, List.getElem?_take_of_lt hj]
  rw [List.getElem?_eq_getElem (by rw [data_length]; omega), List.getElem?_eq_getElem (by rw [data_length]; omega)] at h1
  rw [Option.some.inj h1]
theorem bt_list' (s : ByteArray) (j : Nat) (x : UInt8) (h : s.data.toList[j]? = some x) : bt s (j : Int) = (x.toNat : Int) := by
  have hj : j < s.data.toList.length := by
    rcases Nat.lt_or_ge j s.data.toList.length with h' | h'
    · exact h'
    · rw [List.getElem?_eq_none h'] at h; cases h
  rw [bt_get s j (by rw [← data_length]; exact hj)]
  rw [List.getElem?_eq_getElem hj] at h
  rw [Option.some.inj h]
def pmore (b : ByteArray) : Bool := decide (b.size < 512) && (decide (Lib.indexByte b.data.toList 10 < 0) && (decide (Lib.indexByte b.data.toList 13 < 0) || decide (Lib.indexByte b.data.toList 13 = (b.size : Int) - 1)))
theorem readLine_none (a0 a1 : ByteArray) (hs : a0.size < 4294967281) (h : Lib.indexB a0 crlf = -1) : Ev (fun k => X.impl_readLine.f k a0 a1) (⟨#[]⟩, ⟨#[]⟩, 0, if pmore a0 = true then 1 else 0) := by
  have hi : X.strings_Index.f a0 ⟨#[13, 10]⟩ = some (-1) := by unfold X.strings_Index.f; rw [if_pos hs]; exact congrArg some h
  have e13 : X.strings_IndexByte.f a0 13 = some (Lib.indexByte a0.data.toList 13) := rfl
  have e10 : X.strings_IndexByte.f a0 10 = some (Lib.indexByte a0.data.toList 10) := rfl
  have ew : wrap64 ((a0.size : Int) - 1) = (a0.size : Int) - 1 := wrap_id _ (by omega) (by omega)
  refine Ev.congr (f := fun _ => some (⟨#[]⟩, ⟨#[]⟩, 0, if pmore a0 = true then 1 else 0)) (fun k => ?_) (Ev.now _)
  unfold X.impl_readLine.f
  rw [hi, Option.bind_some, if_pos (by decide), e13, Option.bind_some, e10, ew]
  unfold pmore
  generalize Lib.indexByte a0.data.toList 13 = p13
  generalize Lib.indexByte a0.data.toList 10 = p10
  by_cases c1 : a0.size < 512
  · rw [if_pos (by omega), Option.bind_some, decide_eq_true c1]
    by_cases c2 : p10 < 0
    · rw [if_pos c2, decide_eq_true c2]
      by_cases c3 : p13 < 0
      · rw [if_pos c3, decide_eq_true c3]; rfl
      · rw [if_neg c3, decide_eq_false c3]
        by_cases c4 : p13 = (a0.size : Int) - 1
        · rw [if_pos c4, decide_eq_true c4]; rfl
        · rw [if_neg c4, decide_eq_false c4]; rfl
    · rw [if_neg c2, decide_eq_false c2]; rfl
  · rw [if_neg (by omega), decide_eq_false c1]; rfl
def badL : ByteArray × ByteArray × Int × Int := (⟨#[]⟩, ⟨#[]⟩, 0, 0)
def sameB (a1 l : ByteArray) : Bool := a1.toList.isEmpty || ((l.extract 0 3).toList == a1.toList)
def tailL (l : ByteArray) : Bool := decide (l.size = 3) || decide (bt l 3 = 32) || decide (bt l 3 = 45)
def pre (a1 l : ByteArray) : Bool := !(l.data.toList.contains 13) && (!(l.data.toList.contains 10) && (decide (l.size + 2 ≤ 512) && (decide (3 ≤ l.size) && ((dg l 0 && dg l 1 && dg l 2) && (decide (50 ≤ bt l 0) && (decide (bt l 0 ≤ 53) && sameB a1 l))))))
theorem good_pre (a1 l : ByteArray) : (goodL l && sameB a1 l) = (pre a1 l && tailL l) := by
  unfold goodL pre tailL
  cases l.data.toList.contains 13 <;> cases l.data.toList.contains 10 <;> cases decide (l.size + 2 ≤ 512) <;> cases decide (3 ≤ l.size) <;> cases dg l 0 <;> cases dg l 1 <;> cases dg l 2 <;> cases decide (50 ≤ bt l 0) <;> cases decide (bt l 0 ≤ 53) <;> cases sameB a1 l <;> simp
theorem read_j0_true (n : Int) (l : ByteArray) : Ev (fun k => X.impl_readLine.j0 k n l true) badL :=
  Ev.step (f := fun _ => some badL) (fun k => by rw [X.impl_readLine.j0, if_pos rfl]; rfl) (Ev.now _)
def okLine (n : Int) (l : ByteArray) : ByteArray × ByteArray × Int × Int := (l.extract 0 3, textL l, n + 2, if lastL l = true then 3 else 2)
theorem read_j0_false (n : Int) (h0 : 0 ≤ n) (h1 : n ≤ 4294967281) (l : ByteArray) (h3 : 3 ≤ l.size) : Ev (fun k => X.impl_readLine.j0 k n l false) (if tailL l = true then okLine n l else badL) := by
  have ew : wrap64 (n + 2) = n + 2 := wrap_id _ (by omega) (by omega)
  have h4 := bt_range l 3
  refine Ev.step (f := fun _ => some (if tailL l = true then okLine n l else badL)) (fun k => ?_) (Ev.now _)
  rw [X.impl_readLine.j0, if_neg (by decide), if_pos (by decide), if_pos (by omega), ew]
  unfold tailL okLine lastL textL badL
  by_cases c : l.size = 3
  · rw [if_pos (by omega), decide_eq_true c, if_pos c]; rfl
  · rw [if_neg (by omega), decide_eq_false c, if_neg c, if_pos (by omega), if_pos (by omega)]
    by_cases d : bt l 3 = 32
    · rw [if_pos d, decide_eq_true d]; rfl
    · rw [if_neg d, decide_eq_false d]
      by_cases e : bt l 3 = 45
      · rw [if_pos e, decide_eq_true e]; rfl
      · rw [if_neg e, decide_eq_false e]; rfl
theorem any_two (l : ByteArray) (hs : l.size < 4294967281) : X.strings_ContainsAny.f l ⟨#[13, 10]⟩ = some (l.data.toList.contains 13 || l.data.toList.contains 10) := by
  unfold X.strings_ContainsAny.f
  rw [if_pos ⟨hs, by decide, by decide, by decide⟩, containsAny_iff]
  congr 1
  show (l.data.toList.any fun b => ([13, 10] : List UInt8).contains b) = _
  generalize l.data.toList = ls
  induction ls with
  | nil => rfl
  | cons b ls ih =>
    rw [List.any_cons, ih]
    simp only [List.contains_cons, List.contains_nil, Bool.or_false]
    rw [show ((13 : UInt8) == b) = (b == 13) from BEq.comm, show ((10 : UInt8) == b) = (b == 10) from BEq.comm]
    cases (b == 13) <;> cases (b == 10) <;> simp
theorem digits_f (l : ByteArray) (h3 : 3 ≤ l.size) : X.impl_all_impl_isDigit.f (l.extract 0 3) = some (dg l 0 && dg l 1 && dg l 2) := by
  have hz : (l.extract 0 3).size = 3 := by rw [ByteArray.size_extract]; omega
  unfold X.impl_all_impl_isDigit.f
  rw [if_pos (by omega)]
  congr 1
  rw [Bool.eq_iff_iff, X.allB_iff, hz]
  have e : ∀ j : Nat, j < 3 → (X.isDigitB (bt (l.extract 0 3) j) = true ↔ dg l j = true) := by
    intro j hj
    rw [bt_ext l 3 j hj h3, dg_iff]
    unfold X.isDigitB
    simp
  constructor
  · intro h
    have h0 := (e 0 (by omega)).1 (h 0 (by omega))
    have h1 := (e 1 (by omega)).1 (h 1 (by omega))
    have h2 := (e 2 (by omega)).1 (h 2 (by omega))
    simp only [Bool.and_eq_true]
    exact ⟨⟨h0, h1⟩, h2⟩
  · intro h j hj
    simp only [Bool.and_eq_true] at h
    refine (e j hj).2 ?_
    obtain rfl | rfl | rfl : j = 0 ∨ j = 1 ∨ j = 2 := by omega
    · exact h.1.1
    · exact h.1.2
    · exact h.2
theorem readLine_some (a0 a1 : ByteArray) (hs : a0.size < 4294967281) (n : Nat) (h : Lib.indexB a0 crlf = n) (hn : n + 2 ≤ a0.size) :
    Ev (fun k => X.impl_readLine.f k a0 a1) (if (goodL (a0.extract 0 n) && sameB a1 (a0.extract 0 n)) = true then okLine n (a0.extract 0 n) else badL) := by
  have hi : X.strings_Index.f a0 ⟨#[13, 10]⟩ = some (n : Int) := by unfold X.strings_Index.f; rw [if_pos hs]; exact congrArg some h
  have hz : (a0.extract 0 n).size = n := by rw [ByteArray.size_extract]; omega
  have ew : wrap64 ((n : Int) + 2) = (n : Int) + 2 := wrap_id _ (by omega) (by omega)
  have F : ∀ k, X.impl_readLine.f k a0 a1 = X.impl_readLine.j0 k n (a0.extract 0 n) (!pre a1 (a0.extract 0 n)) := by
    intro k
    unfold X.impl_readLine.f
    rw [hi, Option.bind_some, if_neg (by omega), if_pos (by omega), if_pos (by omega), Int.toNat_natCast]
    generalize hl : a0.extract 0 n = l at hz ⊢
    rw [any_two l (by omega), Option.bind_some, ew]
    unfold pre
    cases l.data.toList.contains 13 with
    | true => rw [if_pos (Bool.true_or _)]; rfl
    | false =>
    cases l.data.toList.contains 10 with
    | true => rw [if_pos (Bool.or_true _)]; rfl
    | false =>
    rw [if_neg (by decide)]
    by_cases c1 : l.size + 2 ≤ 512
    · rw [if_neg (by omega), decide_eq_true c1]
      by_cases c2 : 3 ≤ l.size
      · rw [if_neg (by omega), if_pos (by decide), if_pos (by omega), decide_eq_true c2, digits_f l c2, Option.bind_some]
        cases (dg l 0 && dg l 1 && dg l 2) with
        | false => rw [if_neg (by decide)]; rfl
        | true =>
          rw [if_pos rfl, if_pos (by omega)]
          by_cases c3 : bt l 0 < 50
          · rw [if_pos c3, decide_eq_false (p := 50 ≤ bt l 0) (by omega)]; rfl
          · rw [if_neg c3, decide_eq_true (p := 50 ≤ bt l 0) (by omega)]
            by_cases c4 : bt l 0 > 53
            · rw [if_pos c4, decide_eq_false (p := bt l 0 ≤ 53) (by omega)]; rfl
            · rw [if_neg c4, decide_eq_true (p := bt l 0 ≤ 53) (by omega)]
              unfold sameB
              by_cases c5 : a1.toList = ([] : List UInt8)
              · rw [if_pos c5, c5]; rfl
              · rw [if_neg c5, show a1.toList.isEmpty = false by simpa using c5]
                simp only [Bool.not_false, Bool.true_and, Bool.false_or, bne]
      · rw [if_pos (by omega), decide_eq_false c2]; rfl
    · rw [if_pos (by omega), decide_eq_false c1]; rfl
  rw [good_pre]
  refine Ev.congr F ?_
  cases hp : pre a1 (a0.extract 0 n) with
  | false => exact read_j0_true _ _
  | true =>
    have h3 : 3 ≤ (a0.extract 0 n).size := by
      unfold pre at hp; simp only [Bool.and_eq_true, decide_eq_true_eq] at hp; exact hp.2.2.2.1
    simpa using read_j0_false n (by omega) (by omega) (a0.extract 0 n) h3
theorem atoi_f (l : ByteArray) (h3 : 3 ≤ l.size) (d0 : dg l 0 = true) (d1 : dg l 1 = true) (d2 : dg l 2 = true) : X.strconv_Atoi.f (l.extract 0 3) = some (dig3 l, none) := by
  have hz : (l.extract 0 3).size = 3 := by rw [ByteArray.size_extract]; omega
  have hl := data_length l
  obtain ⟨x0, x1, x2, r, e⟩ : ∃ x0 x1 x2 r, l.data.toList = x0 :: x1 :: x2 :: r := by
    match hh : l.data.toList with
    | [] => rw [hh] at hl; simp at hl; omega
    | [_] => rw [hh] at hl; simp at hl; omega
    | [_, _] => rw [hh] at hl; simp at hl; omega
    | a :: b :: c :: r => exact ⟨a, b, c, r, rfl⟩
  have b0 : bt l 0 = (x0.toNat : Int) := bt_list' l 0 x0 (by rw [e]; rfl)
  have b1 : bt l 1 = (x1.toNat : Int) := bt_list' l 1 x1 (by rw [e]; rfl)
  have b2 : bt l 2 = (x2.toNat : Int) := bt_list' l 2 x2 (by rw [e]; rfl)
  have g0 := (dg_iff _ _).1 d0
  have g1 := (dg_iff _ _).1 d1
  have g2 := (dg_iff _ _).1 d2
  unfold X.strconv_Atoi.f
  rw [if_pos (by omega), data_extract, e]
  have ea : Lib.atoi (((x0 :: x1 :: x2 :: r).take 3).drop 0) = some (dig3 l) := by
    have v : ∀ x : UInt8, 48 ≤ x.toNat → x.toNat ≤ 57 → Lib.digitVal x = some (x.toNat - 48) := fun x h1 h2 => by unfold Lib.digitVal; rw [if_pos ⟨h1, h2⟩]
    have n45 : (x0 == 45) = false := by rw [beq_eq_false_iff_ne]; rintro rfl; have : ((45 : UInt8).toNat) = 45 := rfl; omega
    have n43 : (x0 == 43) = false := by rw [beq_eq_false_iff_ne]; rintro rfl; have : ((43 : UInt8).toNat) = 43 := rfl; omega
    show Lib.atoi [x0, x1, x2] = _
    show (if (x0 == 45) = true then (Lib.decNat [x1, x2]).map (fun (m : Nat) => -(m : Int)) else if (x0 == 43) = true then (Lib.decNat [x1, x2]).map (fun (m : Nat) => (m : Int)) else (Lib.decNat [x0, x1, x2]).map fun (m : Nat) => (m : Int)) = _
    rw [n45, n43]
    simp only [Bool.false_eq_true, if_false]
    unfold Lib.decNat
    simp only [List.isEmpty_cons, Bool.false_eq_true, if_false, Lib.decFrom, v x0 (by omega) (by omega), v x1 (by omega) (by omega), v x2 (by omega) (by omega), Option.map_some]
    congr 1
    unfold dig3
    rw [b0, b1, b2]
    omega
  rw [ea]; rfl
abbrev RR := Int × List ByteArray × Int × Int
def badR' : RR := (0, [], 0, 3)
def moreR : RR := (0, [], 0, 1)
/-- The reply's lines from place u on, n of them at most. -/
def rep : Nat → ByteArray → Nat → ByteArray → List ByteArray → RR
  | 0, _, _, _, _ => badR'
  | n + 1, b, u, a1, acc =>
    if Lib.indexB (b.extract u b.size) crlf = -1 then (if pmore (b.extract u b.size) = true then moreR else badR')
    else
      if (goodL ((b.extract u b.size).extract 0 (Lib.indexB (b.extract u b.size) crlf).toNat) && sameB a1 ((b.extract u b.size).extract 0 (Lib.indexB (b.extract u b.size) crlf).toNat)) = true then
        if lastL ((b.extract u b.size).extract 0 (Lib.indexB (b.extract u b.size) crlf).toNat) = true then
          (dig3 ((b.extract u b.size).extract 0 (Lib.indexB (b.extract u b.size) crlf).toNat), acc ++ [textL ((b.extract u b.size).extract 0 (Lib.indexB (b.extract u b.size) crlf).toNat)], ((u + ((Lib.indexB (b.extract u b.size) crlf).toNat + 2) : Nat) : Int), 2)
        else rep n b (u + ((Lib.indexB (b.extract u b.size) crlf).toNat + 2)) (((b.extract u b.size).extract 0 (Lib.indexB (b.extract u b.size) crlf).toNat).extract 0 3) (acc ++ [textL ((b.extract u b.size).extract 0 (Lib.indexB (b.extract u b.size) crlf).toNat)])
      else badR'
theorem idx_room (s : ByteArray) (h : Lib.indexB s crlf ≠ -1) : ∃ n : Nat, Lib.indexB s crlf = n ∧ n + 2 ≤ s.size := by
  have hl := data_length s
  rcases Lib.index_spec s.data.toList crlf.data.toList with ⟨h1, _⟩ | ⟨i, h1, h2, h3, _⟩
  · exact absurd h1 h
  · refine ⟨i, h1, ?_⟩
    rcases Lib.occAt_room h3 with h4 | h4
    · have : crlf.data.toList.length = 2 := rfl
      omega
    · cases h4
theorem implRep (b : ByteArray) (hb : b.size < 4294967281) : ∀ (n : Nat) (u : Nat) (a1 : ByteArray) (acc : List ByteArray), 50 - acc.length = n → acc.length ≤ 50 → u ≤ b.size →
    Ev (fun k => X.impl_ParseReply.l0 k b (u : Int) a1 0 acc) (rep n b u a1 acc) := by
  intro n
  induction n with
  | zero =>
    intro u a1 acc hn ha hu
    exact Ev.step (f := fun _ => some badR') (fun k => by rw [X.impl_ParseReply.l0, if_pos (by omega)]; rfl) (Ev.now _)
  | succ n ih =>
    intro u a1 acc hn ha hu
    have hz : (b.extract u b.size).size = b.size - u := by rw [ByteArray.size_extract]; omega
    have S : ∀ R : ByteArray × ByteArray × Int × Int, ∀ Q : RR, Ev (fun k => X.impl_readLine.f k (b.extract u b.size) a1) R →
        Ev (fun k => if R.2.2.2 = 0 then some badR' else if R.2.2.2 = 1 then some moreR else if acc.length < 8796093022208 then (some (acc ++ [R.2.1])).bind fun y => if R.2.2.2 = 2 then X.impl_ParseReply.l0 k b (wrap64 ((u : Int) + R.2.2.1)) R.1 0 y else (X.strconv_Atoi.f R.1).bind fun t => some (t.1, y, wrap64 ((u : Int) + R.2.2.1), 2) else none) Q →
        Ev (fun k => X.impl_ParseReply.l0 k b (u : Int) a1 0 acc) Q := by
      intro R Q h1 h2
      refine Ev.step (f := fun k => (X.impl_readLine.f k (b.extract u b.size) a1).bind fun R => if R.2.2.2 = 0 then some badR' else if R.2.2.2 = 1 then some moreR else if acc.length < 8796093022208 then (some (acc ++ [R.2.1])).bind fun y => if R.2.2.2 = 2 then X.impl_ParseReply.l0 k b (wrap64 ((u : Int) + R.2.2.1)) R.1 0 y else (X.strconv_Atoi.f R.1).bind fun t => some (t.1, y, wrap64 ((u : Int) + R.2.2.1), 2) else none) (fun k => ?_) (Ev.bind h1 h2)
      rw [X.impl_ParseReply.l0, if_neg (by omega), if_pos (by omega), if_pos (by omega), Int.toNat_natCast]; rfl
    unfold rep
    by_cases hi : Lib.indexB (b.extract u b.size) crlf = -1
    · rw [if_pos hi]
      refine S _ _ (readLine_none _ _ (by omega) hi) ?_
      cases pmore (b.extract u b.size) with
      | true => exact Ev.congr (fun k => (if_neg (by decide)).trans (if_pos rfl)) (Ev.now _)
      | false => exact Ev.congr (fun k => if_pos rfl) (Ev.now _)
    · rw [if_neg hi]
      obtain ⟨m, hm, hr⟩ := idx_room _ hi
      rw [hm, Int.toNat_natCast]
      have hR := readLine_some (b.extract u b.size) a1 (by omega) m hm hr
      generalize hl : (b.extract u b.size).extract 0 m = l at hR ⊢
      cases hg : (goodL l && sameB a1 l) with
      | false =>
        rw [hg] at hR
        exact S _ _ hR (Ev.congr (fun k => if_pos rfl) (Ev.now _))
      | true =>
        rw [hg] at hR
        have ew : wrap64 ((u : Int) + ((m : Int) + 2)) = ((u + (m + 2) : Nat) : Int) := by rw [wrap_id _ (by omega) (by omega)]; omega
        have hgl : goodL l = true := by rw [Bool.and_eq_true] at hg; exact hg.1
        have hg2 := hgl
        unfold goodL at hg2
        simp only [Bool.and_eq_true, decide_eq_true_eq] at hg2
        obtain ⟨⟨⟨⟨_, h3⟩, ⟨⟨d0, d1⟩, d2⟩⟩, _⟩, _⟩ := hg2
        rw [if_pos rfl] at hR ⊢
        refine S _ _ hR ?_
        unfold okLine
        cases hla : lastL l with
        | true =>
          refine Ev.congr (f := fun _ => some (dig3 l, acc ++ [textL l], ((u + (m + 2) : Nat) : Int), 2)) (fun k => ?_) (Ev.now _)
          rw [if_neg (by simp), if_neg (by simp), if_pos (by omega), Option.bind_some, if_neg (by simp)]
          show (X.strconv_Atoi.f (l.extract 0 3)).bind _ = _
          rw [atoi_f l h3 d0 d1 d2, Option.bind_some, ew]
        | false =>
          refine Ev.congr (f := fun k => X.impl_ParseReply.l0 k b ((u + (m + 2) : Nat) : Int) (l.extract 0 3) 0 (acc ++ [textL l])) (fun k => ?_) ?_
          · rw [if_neg (by simp), if_neg (by simp), if_pos (by omega), Option.bind_some, if_pos (by simp), ew]
          · exact ih (u + (m + 2)) (l.extract 0 3) (acc ++ [textL l]) (by rw [List.length_append, List.length_singleton]; omega) (by rw [List.length_append, List.length_singleton]; omega) (by omega)
def repV (b : ByteArray) : RR := rep 50 b 0 ⟨#[]⟩ []
theorem implRep_f (b : ByteArray) (hb : b.size < 4294967281) : Ev (fun k => X.impl_ParseReply.f k b) (repV b) := Ev.congr (fun k => rfl) (implRep b hb 50 0 ⟨#[]⟩ [] rfl (by decide) (by omega))
end Go.Proofs.YtnhhbdhkhdbanaaDoor.Pure
