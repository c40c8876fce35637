/- spec.SizeLimit and impl.SizeLimit: what both answer. Plain Lean. -/
import Derived.Test.YtnhhbdhkhdbanaaDoorLX2
import Derived.Test.YtnhhbdhkhdbanaaDoorLX5
import Derived.Test.YtnhhbdhkhdbanaaDoorLX2
import Derived.Test.YtnhhbdhkhdbanaaDoorLGUpper
import Derived.Test.YtnhhbdhkhdbanaaDoorLGPInt
import Derived.Test.YtnhhbdhkhdbanaaDoorLGFold
import Derived.Test.YtnhhbdhkhdbanaaDoorLGAll
import Derived.Test.YtnhhbdhkhdbanaaDoorLPRd
namespace Go.Proofs.YtnhhbdhkhdbanaaDoor.Pure
open Go Go.RowKit Go.Proofs.YtnhhbdhkhdbanaaDoorW.PrintWords
set_option linter.unusedVariables false
set_option linter.unusedSimpArgs false
theorem bt_of (s : ByteArray) (j : Nat) (x : UInt8) (h : s.data.toList[j]? = some x) : bt s (j : Int) = (x.toNat : Int) := by
  have hj : j < s.size := by have := (List.getElem?_eq_some_iff.1 h).1; rw [← Lib.size_eq] at this; exact this
  have e : s.data.toList[j]? = some s[j] := Lib.data_getElem? s j hj
  unfold bt
  rw [dif_pos (by rw [Int.toNat_natCast]; exact hj)]
  rw [h] at e
  rw [Option.some.inj e]; rfl
/-- The digits' number, or none. -/
def numO : List UInt8 → Nat → Option Nat
  | [], a => some a
  | b :: r, a => if 48 ≤ b.toNat ∧ b.toNat ≤ 57 then numO r (a * 10 + (b.toNat - 48)) else none
theorem numO_all : ∀ (l : List UInt8) (a : Nat), (l.all fun c => X.isDigitB (c.toNat : Int)) = (numO l a).isSome
  | [], _ => rfl
  | b :: r, a => by
    rw [List.all_cons, numO]
    by_cases h : 48 ≤ b.toNat ∧ b.toNat ≤ 57
    · rw [if_pos h, numO_all r, show X.isDigitB (b.toNat : Int) = true from decide_eq_true (by omega), Bool.true_and]
    · rw [if_neg h, show X.isDigitB (b.toNat : Int) = false from decide_eq_false (by omega), Bool.false_and]; rfl
theorem numO_lt : ∀ (l : List UInt8) (a v : Nat), numO l a = some v → v < (a + 1) * 10 ^ l.length
  | [], a, v, h => by obtain rfl := Option.some.inj h; simp
  | b :: r, a, v, h => by
    rw [numO] at h
    split at h
    · have := numO_lt r _ v h
      rw [List.length_cons, Nat.pow_succ]
      have h2 : a * 10 + (b.toNat - 48) + 1 ≤ (a + 1) * 10 := by omega
      calc v < (a * 10 + (b.toNat - 48) + 1) * 10 ^ r.length := this
        _ ≤ (a + 1) * 10 * 10 ^ r.length := Nat.mul_le_mul_right _ h2
        _ = (a + 1) * (10 ^ r.length * 10) := by rw [Nat.mul_assoc, Nat.mul_comm 10]
    · cases h
theorem parseM (M : Nat) (hM : 10000000000 ≤ M) : ∀ (l : List UInt8) (a v : Nat), numO l a = some v → (a + 1) * 10 ^ l.length ≤ 10000000000 → Lib.parseUintM M a l = .ok v
  | [], a, v, h, _ => by obtain rfl := Option.some.inj h; rfl
  | b :: r, a, v, h, hb => by
    have hv := numO_lt _ _ _ h
    rw [numO] at h
    split at h
    · rename_i hd
      rw [List.length_cons, Nat.pow_succ] at hb
      have hp : 0 < 10 ^ r.length := Nat.pow_pos (by decide)
      have ha : (a + 1) * 10 ≤ 10000000000 := by
        calc (a + 1) * 10 ≤ (a + 1) * 10 * 10 ^ r.length := Nat.le_mul_of_pos_right _ hp
          _ = (a + 1) * (10 ^ r.length * 10) := by rw [Nat.mul_assoc, Nat.mul_comm 10]
          _ ≤ _ := hb
      unfold Lib.parseUintM
      rw [if_pos hd, if_neg (by omega), if_neg (by omega)]
      refine parseM M hM r _ v h ?_
      have h2 : a * 10 + (b.toNat - 48) + 1 ≤ (a + 1) * 10 := by omega
      calc (a * 10 + (b.toNat - 48) + 1) * 10 ^ r.length ≤ (a + 1) * 10 * 10 ^ r.length := Nat.mul_le_mul_right _ h2
        _ = (a + 1) * (10 ^ r.length * 10) := by rw [Nat.mul_assoc, Nat.mul_comm 10]
        _ ≤ _ := hb
    · cases h
theorem parseB (l : List UInt8) (v : Nat) (h : numO l 0 = some v) (h1 : 1 ≤ l.length) (h10 : l.length ≤ 10) : Lib.parseIntB 64 l = .ok (v : Int) := by
  have hp : 10 ^ l.length ≤ 10 ^ 10 := Nat.pow_le_pow_right (by decide) h10
  have hv := numO_lt l 0 v h
  have hp10 : (10 : Nat) ^ 10 = 10000000000 := by decide
  have hM := parseM (2 ^ 64 - 1) (by decide) l 0 v h (by omega)
  cases l with
  | nil => exact absurd h1 (by decide)
  | cons b r =>
    rw [numO] at h
    split at h
    · rename_i hd
      unfold Lib.parseIntB
      simp only
      rw [if_neg (by omega : ¬ (b.toNat = 43 ∨ b.toNat = 45))]
      unfold Lib.parseUintB
      rw [if_neg (by simp), hM]
      simp only
      rw [if_neg (by omega), if_neg (by omega), if_neg (by omega)]
    · cases h
/-- The power of ten, by its steps. -/
def tenP : Nat → Nat
  | 0 => 1
  | n + 1 => tenP n * 10
theorem tenP_le (i : Nat) (h : i ≤ 9) : tenP i ≤ 1000000000 :=
  (show ∀ j : Fin 10, tenP j.val ≤ 1000000000 by decide) ⟨i, Nat.lt_succ_of_le h⟩
theorem tenP_more (a d i : Nat) (ha : a < tenP i) (hd : d ≤ 9) : a * 10 + d < tenP (i + 1) := by
  show a * 10 + d < tenP i * 10
  omega
theorem number_l0 (s : ByteArray) (h10 : s.size ≤ 10) : ∀ (n i a : Nat), s.size - i = n → i ≤ s.size → a < tenP i →
    Ev (fun k => X.spec_l2number.l0 k s (a : Int) (i : Int)) (match numO (s.data.toList.drop i) a with | some v => ((v : Int), true) | none => (0, false)) := by
  intro n
  induction n with
  | zero =>
    intro i a hn hi ha
    rw [List.drop_of_length_le (by rw [← Lib.size_eq]; omega)]
    refine Ev.step (f := fun _ => some ((a : Int), true)) (fun k => ?_) (Ev.now _)
    rw [X.spec_l2number.l0, if_neg (by omega)]
  | succ n ih =>
    intro i a hn hi ha
    have hi' : i < s.size := by omega
    have hl : i < s.data.toList.length := by rw [← Lib.size_eq]; exact hi'
    have hb := bt_of s i s.data.toList[i] (List.getElem?_eq_getElem hl)
    rw [List.drop_eq_getElem_cons hl, numO]
    generalize s.data.toList[i] = x at hb
    have h9 : a < 1000000000 := Nat.lt_of_lt_of_le ha (tenP_le i (by omega))
    have hA : (0 : Int) ≤ (i : Int) ∧ (i : Int) < (s.size : Int) := by omega
    by_cases c : 48 ≤ x.toNat ∧ x.toNat ≤ 57
    · rw [if_pos c]
      have q1 : (i : Int) < (s.size : Int) := hA.2
      have q2 : (0 : Int) ≤ (i : Int) := hA.1
      have q3 : ¬ ((x.toNat : Int) < 48) := by clear ih ha; omega
      have q4 : ¬ ((x.toNat : Int) > 57) := by clear ih ha; omega
      have hI := ih (i + 1) (a * 10 + (x.toNat - 48)) (by omega) (by omega) (tenP_more a (x.toNat - 48) i ha (by omega))
      clear ih ha
      have ew1 : wrap64 ((a : Int) * 10) = (a : Int) * 10 := wrap_id _ (by omega) (by omega)
      have e3 : ((x.toNat : Int) - 48) % 256 = ((x.toNat - 48 : Nat) : Int) := by omega
      have ew2 : wrap64 ((a : Int) * 10 + ((x.toNat - 48 : Nat) : Int)) = ((a * 10 + (x.toNat - 48) : Nat) : Int) := by
        rw [wrap_id _ (by omega) (by omega)]; omega
      have ew3 : wrap64 ((i : Int) + 1) = ((i + 1 : Nat) : Int) := by rw [wrap_id _ (by omega) (by omega)]; omega
      refine Ev.step (f := fun k => X.spec_l2number.l0 k s ((a * 10 + (x.toNat - 48) : Nat) : Int) ((i + 1 : Nat) : Int)) (fun k => ?_) hI
      rw [X.spec_l2number.l0, if_pos q1, if_pos q2, hb, if_neg q3, if_neg q4, ew1, e3, ew2, ew3]
    · rw [if_neg c]
      refine Ev.step (f := fun _ => some (0, false)) (fun k => ?_) (Ev.now _)
      rw [X.spec_l2number.l0, if_pos (by omega), if_pos (by omega), hb]
      by_cases d : (x.toNat : Int) < 48
      · rw [if_pos d]
      · rw [if_neg d, if_pos (by omega)]
def numV (s : ByteArray) : Int × Bool := if 1 ≤ s.size ∧ s.size ≤ 10 then (match numO s.data.toList 0 with | some v => ((v : Int), true) | none => (0, false)) else (0, false)
theorem number_f (s : ByteArray) : Ev (fun k => X.spec_l2number.f k s 10) (numV s) := by
  have JT : Ev (fun k => X.spec_l2number.j0 k s true) (0, false) := Ev.step (f := fun _ => some (0, false)) (fun k => by rw [X.spec_l2number.j0, if_pos rfl]) (Ev.now _)
  unfold numV X.spec_l2number.f
  by_cases h1 : (s.size : Int) < 1
  · rw [if_neg (by omega)]
    exact Ev.congr (fun k => if_pos h1) JT
  · by_cases h2 : (s.size : Int) > 10
    · rw [if_neg (by omega)]
      exact Ev.congr (fun k => by rw [if_neg h1, decide_eq_true h2]) JT
    · rw [if_pos (by omega)]
      refine Ev.congr (f := fun k => X.spec_l2number.j0 k s false) (fun k => by rw [if_neg h1, decide_eq_false h2]) (Ev.step (fun k => ?_) (number_l0 s (by omega) s.size 0 0 (by omega) (by omega) (Nat.one_pos)))
      rw [X.spec_l2number.j0, if_neg (by decide)]; rfl
theorem all_u8 (p : UInt8 → Prop) (h : ∀ n : Fin 256, p (UInt8.ofNat n.val)) (x : UInt8) : p x := by
  have := h ⟨x.toNat, x.toNat_lt⟩
  rwa [UInt8.ofNat_toNat] at this
theorem up83 : ∀ x : UInt8, Lib.foldEq x 83 = (X.upC x == 83) := all_u8 _ (by decide +kernel)
theorem up73 : ∀ x : UInt8, Lib.foldEq x 73 = (X.upC x == 73) := all_u8 _ (by decide +kernel)
theorem up90 : ∀ x : UInt8, Lib.foldEq x 90 = (X.upC x == 90) := all_u8 _ (by decide +kernel)
theorem up69 : ∀ x : UInt8, Lib.foldEq x 69 = (X.upC x == 69) := all_u8 _ (by decide +kernel)
theorem up32 : ∀ x : UInt8, decide ((x.toNat : Int) = 32) = (X.upC x == 32) := all_u8 _ (by decide +kernel)
def upB (l : ByteArray) : Bool := (l.data.toList.take 5).map X.upC == [83, 73, 90, 69, 32]
theorem ext_take (l : ByteArray) (n : Nat) : (l.extract 0 n).data.toList = l.data.toList.take n := by
  rw [ByteArray.data_extract, Array.toList_extract, List.extract_eq_take_drop, List.drop_zero, Nat.sub_zero]
theorem upper_f (l : ByteArray) : (X.spec_l2upper.f (l.extract 0 5)).map (fun t => t.toList != ([83, 73, 90, 69, 32] : List UInt8)) = some (!upB l) := by
  unfold X.spec_l2upper.f upB
  rw [if_pos (by rw [ByteArray.size_extract]; omega), Option.map_some, Lib.toList_data, ext_take]
  rfl
theorem fold_f (l : ByteArray) (h : 5 ≤ l.size) : ∃ r, X.strings_EqualFold.f (l.extract 0 4) ⟨#[83, 73, 90, 69]⟩ = some r ∧ (r && decide (bt l 4 = 32)) = upB l := by
  unfold X.strings_EqualFold.f
  rw [if_pos ⟨by rw [ByteArray.size_extract]; omega, rfl⟩, ext_take]
  refine ⟨_, rfl, ?_⟩
  have hl : 5 ≤ l.data.toList.length := by rw [← Lib.size_eq]; exact h
  have hb := fun x => bt_of l 4 x
  unfold upB
  generalize l.data.toList = d at hl hb
  match d, hl, hb with
  | a :: b :: c :: e :: f :: r, _, hb =>
    rw [show bt l 4 = (f.toNat : Int) from hb f rfl, up32]
    show ((Lib.foldEq a 83 && (Lib.foldEq b 73 && (Lib.foldEq c 90 && (Lib.foldEq e 69 && true)))) && (X.upC f == 32)) = (X.upC a == 83 && (X.upC b == 73 && (X.upC c == 90 && (X.upC e == 69 && (X.upC f == 32 && true)))))
    rw [up83, up73, up90, up69]
    simp only [Bool.and_true, Bool.and_assoc]
/-- What a line tells. -/
def lineN (l : ByteArray) : Option Int := if 6 ≤ l.size ∧ l.size ≤ 15 ∧ upB l = true then (numO (l.data.toList.drop 5) 0).map (fun v => (v : Int)) else none
def sizeL : List ByteArray → Int × Bool
  | [] => (0, false)
  | l :: r => match lineN l with | some v => (v, true) | none => sizeL r
theorem numV_line (l : ByteArray) (h : 5 ≤ l.size) (hu : upB l = true) : numV (l.extract 5 l.size) = match lineN l with | some v => (v, true) | none => (0, false) := by
  unfold numV lineN
  rw [X.extract_drop l 5 l.size (Nat.le_refl _), ByteArray.size_extract, Nat.min_self]
  by_cases c : 6 ≤ l.size ∧ l.size ≤ 15
  · rw [if_pos (by omega), if_pos ⟨c.1, c.2, hu⟩]
    cases numO (l.data.toList.drop 5) 0 <;> rfl
  · rw [if_neg (by omega), if_neg (fun h => c ⟨h.1, h.2.1⟩)]
theorem spec_l0 (xs : List ByteArray) (hl : xs.length ≤ 1048576) : ∀ (n i : Nat), xs.length - i = n → i ≤ xs.length → 1 ≤ i →
    Ev (fun k => X.spec_SizeLimit.l0 k xs (xs.length : Int) (i : Int)) (sizeL (xs.drop i)) := by
  intro n
  induction n with
  | zero =>
    intro i hn hi h1
    rw [List.drop_of_length_le (by omega)]
    refine Ev.step (f := fun _ => some (0, false)) (fun k => ?_) (Ev.now _)
    rw [X.spec_SizeLimit.l0, if_neg (by omega)]
  | succ n ih =>
    intro i hn hi h1
    have hi' : i < xs.length := by omega
    have e2 : wrap64 ((i : Int) + 1) = ((i + 1 : Nat) : Int) := by rw [wrap_id _ (by omega) (by omega)]; omega
    have hr := rd_get xs i hi'
    have hk := ih (i + 1) (by omega) (by omega) (by omega)
    rw [List.drop_eq_getElem_cons hi']
    generalize xs[i] = l at hr
    have JT : Ev (fun k => X.spec_SizeLimit.j1 k l xs (xs.length : Int) (i : Int) true) (sizeL (xs.drop (i + 1))) := Ev.step (fun k => by rw [X.spec_SizeLimit.j1, if_pos rfl, e2]) hk
    by_cases c5 : l.size < 5
    · have hL : sizeL (l :: xs.drop (i + 1)) = sizeL (xs.drop (i + 1)) := by rw [sizeL, show lineN l = none from if_neg (by omega)]
      rw [hL]
      refine Ev.step (fun k => ?_) JT
      rw [X.spec_SizeLimit.l0, if_pos (by omega), if_pos (by omega), if_pos (by omega), if_neg (by omega), hr, if_pos (by omega)]
    · have hu := upper_f l
      have hstep : ∀ k, X.spec_SizeLimit.l0 (k + 1) xs (xs.length : Int) (i : Int) = X.spec_SizeLimit.j1 k l xs (xs.length : Int) (i : Int) (!upB l) := by
        intro k
        rw [X.spec_SizeLimit.l0, if_pos (by omega), if_pos (by omega), if_pos (by omega), if_neg (by omega), hr, if_neg (by omega), if_pos (by decide), if_pos (by omega)]
        cases hq : X.spec_l2upper.f (l.extract 0 5) with
        | none => rw [hq] at hu; cases hu
        | some t =>
          rw [hq, Option.map_some] at hu
          rw [Option.bind_some, Option.some.inj hu]
      refine Ev.step (f := fun k => X.spec_SizeLimit.j1 k l xs (xs.length : Int) (i : Int) (!upB l)) hstep ?_
      cases hU : upB l with
      | false =>
        have hL : sizeL (l :: xs.drop (i + 1)) = sizeL (xs.drop (i + 1)) := by rw [sizeL, show lineN l = none from if_neg (fun h => by rw [hU] at h; cases h.2.2)]
        rw [hL]; exact JT
      | true =>
        have hn := number_f (l.extract 5 l.size)
        rw [numV_line l (by omega) hU] at hn
        refine Ev.step (f := fun k => (X.spec_l2number.f k (l.extract 5 l.size) 10).bind fun bt104 => (if bt104.2 = true then (some (bt104.1, true)) else (X.spec_SizeLimit.l0 k xs (xs.length : Int) (wrap64 ((i : Int) + 1))))) (fun k => by rw [X.spec_SizeLimit.j1, if_neg (by decide), if_pos (by omega)]) ?_
        refine Ev.bind (f := fun k bt104 => (if bt104.2 = true then (some (bt104.1, true)) else (X.spec_SizeLimit.l0 k xs (xs.length : Int) (wrap64 ((i : Int) + 1))))) hn ?_
        rw [sizeL]
        cases lineN l with
        | none => exact Ev.congr (fun k => by rw [if_neg (by decide), e2]) hk
        | some v => exact Ev.congr (fun k => if_pos rfl) (Ev.now _)
theorem impl_l0 (xs : List ByteArray) (hl : xs.length ≤ 1048576) : ∀ (n i : Nat), xs.length - i = n → i ≤ xs.length → 1 ≤ i →
    Ev (fun k => X.impl_SizeLimit.l0 k xs (xs.length : Int) (i : Int)) (sizeL (xs.drop i)) := by
  intro n
  induction n with
  | zero =>
    intro i hn hi h1
    rw [List.drop_of_length_le (by omega)]
    refine Ev.step (f := fun _ => some (0, false)) (fun k => ?_) (Ev.now _)
    rw [X.impl_SizeLimit.l0, if_neg (by omega)]
  | succ n ih =>
    intro i hn hi h1
    have hi' : i < xs.length := by omega
    have e2 : wrap64 ((i : Int) + 1) = ((i + 1 : Nat) : Int) := by rw [wrap_id _ (by omega) (by omega)]; omega
    have hr := rd_get xs i hi'
    have hk := ih (i + 1) (by omega) (by omega) (by omega)
    rw [List.drop_eq_getElem_cons hi']
    generalize xs[i] = l at hr
    by_cases c6 : l.size < 6
    · rw [sizeL, show lineN l = none from if_neg (by omega)]
      refine Ev.step (fun k => ?_) hk
      rw [X.impl_SizeLimit.l0, if_pos (by omega), if_pos (by omega), if_pos (by omega), if_neg (by omega), hr, if_pos (by omega), e2]
    by_cases c15 : 15 < l.size
    · rw [sizeL, show lineN l = none from if_neg (by omega)]
      refine Ev.step (fun k => ?_) hk
      rw [X.impl_SizeLimit.l0, if_pos (by omega), if_pos (by omega), if_pos (by omega), if_neg (by omega), hr, if_neg (by omega), if_pos (by omega), e2]
    obtain ⟨r, hf, hru⟩ := fold_f l (by omega)
    have hd5 := X.extract_drop l 5 l.size (Nat.le_refl _)
    have hz5 : (l.extract 5 l.size).size = l.size - 5 := by rw [ByteArray.size_extract, Nat.min_self]
    have hall : X.impl_all_impl_isDigit.f (l.extract 5 l.size) = some (numO (l.data.toList.drop 5) 0).isSome := by
      unfold X.impl_all_impl_isDigit.f
      rw [if_pos (by omega), ← numO_all, ← hd5]; rfl
    have hpi : ∀ v, numO (l.data.toList.drop 5) 0 = some v → X.strconv_ParseInt.f (l.extract 5 l.size) 10 64 = some ((v : Int), none) := by
      intro v hv
      unfold X.strconv_ParseInt.f
      rw [if_pos ⟨by omega, rfl, rfl⟩, hd5, parseB _ v hv (by rw [List.length_drop, ← Lib.size_eq]; omega) (by rw [List.length_drop, ← Lib.size_eq]; omega)]
    rw [sizeL]
    unfold lineN
    rw [← hru]
    cases r with
    | false =>
      rw [if_neg (fun h => by cases h.2.2)]
      refine Ev.step (fun k => ?_) hk
      rw [X.impl_SizeLimit.l0, if_pos (by omega), if_pos (by omega), if_pos (by omega), if_neg (by omega), hr, if_neg (by omega), if_neg (by omega), if_pos (by decide), if_pos (by omega), hf, Option.bind_some, if_neg (by decide), e2]
    | true =>
      by_cases c4 : bt l 4 = 32
      · rw [if_pos ⟨by omega, by omega, by rw [decide_eq_true c4]; rfl⟩]
        cases hn : numO (l.data.toList.drop 5) 0 with
        | none =>
          rw [hn] at hall
          refine Ev.step (fun k => ?_) hk
          rw [X.impl_SizeLimit.l0, if_pos (by omega), if_pos (by omega), if_pos (by omega), if_neg (by omega), hr, if_neg (by omega), if_neg (by omega), if_pos (by decide), if_pos (by omega), hf, Option.bind_some, if_pos rfl, if_pos (by omega), if_pos c4, if_pos (by omega), hall, Option.bind_some, if_neg (by decide), e2]
        | some v =>
          rw [hn] at hall
          refine Ev.step (f := fun _ => some ((v : Int), true)) (fun k => ?_) (Ev.now _)
          rw [X.impl_SizeLimit.l0, if_pos (by omega), if_pos (by omega), if_pos (by omega), if_neg (by omega), hr, if_neg (by omega), if_neg (by omega), if_pos (by decide), if_pos (by omega), hf, Option.bind_some, if_pos rfl, if_pos (by omega), if_pos c4, if_pos (by omega), hall, Option.bind_some, if_pos (show (some v).isSome = true from rfl), hpi v hn, Option.bind_some]
      · rw [if_neg (fun h => by rw [decide_eq_false c4] at h; cases h.2.2)]
        refine Ev.step (fun k => ?_) hk
        rw [X.impl_SizeLimit.l0, if_pos (by omega), if_pos (by omega), if_pos (by omega), if_neg (by omega), hr, if_neg (by omega), if_neg (by omega), if_pos (by decide), if_pos (by omega), hf, Option.bind_some, if_pos rfl, if_pos (by omega), if_neg c4, e2]
theorem spec_f (xs : List ByteArray) (hl : xs.length ≤ 1048576) : Ev (fun k => X.spec_SizeLimit.f k xs) (sizeL (xs.drop 1)) := by
  unfold X.spec_SizeLimit.f
  rcases Nat.eq_zero_or_pos xs.length with h | h
  · rw [List.drop_of_length_le (by omega)]
    refine Ev.step (f := fun _ => some (0, false)) (fun k => ?_) (Ev.now _)
    rw [X.spec_SizeLimit.l0, if_neg (by omega)]
  · refine Ev.step (fun k => ?_) (Ev.step (f := fun k => X.spec_SizeLimit.l0 k xs (xs.length : Int) ((1 : Nat) : Int)) (g := fun k => X.spec_SizeLimit.j1 k (rdOf ByteArray.empty xs 0) xs (xs.length : Int) 0 true) (fun k => ?_) (spec_l0 xs hl (xs.length - 1) 1 rfl h (Nat.le_refl _)))
    · rw [X.spec_SizeLimit.l0, if_pos (by omega), if_pos (by omega), if_pos (by omega), if_pos rfl]
    · rw [X.spec_SizeLimit.j1, if_pos rfl, show wrap64 (0 + 1) = ((1 : Nat) : Int) by rw [wrap_id _ (by omega) (by omega)]; rfl]
theorem impl_f (xs : List ByteArray) (hl : xs.length ≤ 1048576) : Ev (fun k => X.impl_SizeLimit.f k xs) (sizeL (xs.drop 1)) := by
  unfold X.impl_SizeLimit.f
  rcases Nat.eq_zero_or_pos xs.length with h | h
  · rw [List.drop_of_length_le (by omega)]
    refine Ev.step (f := fun _ => some (0, false)) (fun k => ?_) (Ev.now _)
    rw [X.impl_SizeLimit.l0, if_neg (by omega)]
  · refine Ev.step (f := fun k => X.impl_SizeLimit.l0 k xs (xs.length : Int) ((1 : Nat) : Int)) (fun k => ?_) (impl_l0 xs hl (xs.length - 1) 1 rfl h (Nat.le_refl _))
    rw [X.impl_SizeLimit.l0, if_pos (by omega), if_pos (by omega), if_pos (by omega), if_pos rfl, show wrap64 (0 + 1) = ((1 : Nat) : Int) by rw [wrap_id _ (by omega) (by omega)]; rfl]
end Go.Proofs.YtnhhbdhkhdbanaaDoor.Pure
