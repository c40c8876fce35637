/- A queue's copy and comparison, and marks in a row of numbers. Plain Lean. -/
import Derived.Test.YtnhhbdhkhdbanaaUPDue
import Derived.Test.YtnhhbdhkhdbanaaUPLaw
import Derived.Test.YtnhhbdhkhdbanaaUPEqS
namespace Go.Proofs.Ytnhhbdhkhdbanaa.Pure
open Go Go.RowKit Go.Proofs.YtnhhbdhkhdbanaaW.PrintWords
set_option linter.unusedVariables false
set_option linter.unusedSimpArgs false
theorem set_take {α β : Type} (f : α → β) (xs : List α) (ys : List β) (i : Nat) (hi : i < xs.length) (hl : ys.length = xs.length) (ht : ys.take i = (xs.map f).take i) : (ys.set i (f xs[i])).take (i + 1) = (xs.map f).take (i + 1) := by
  apply List.ext_getElem?
  intro j
  have hj := congrArg (·[j]?) ht
  simp only [List.getElem?_take, List.getElem?_set] at hj ⊢
  by_cases h1 : j < i + 1
  · rw [if_pos h1, if_pos h1]
    by_cases h2 : i = j
    · subst h2
      rw [if_pos rfl, if_pos (by omega), List.getElem?_map, List.getElem?_eq_getElem hi]; rfl
    · rw [if_neg h2]
      rwa [if_pos (by omega), if_pos (by omega)] at hj
  · rw [if_neg h1, if_neg h1]
theorem take_all {α : Type} {xs ys : List α} (hl : ys.length = xs.length) (ht : ys.take xs.length = xs.take xs.length) : ys = xs := by
  rwa [← hl, List.take_length, hl, List.take_length] at ht
theorem toV_l0 (xs : List X.S87) (hl : xs.length ≤ 1048576) : ∀ (n i : Nat) (ys : List X.S85), xs.length - i = n → i ≤ xs.length → ys.length = xs.length → ys.take i = (xs.map toV).take i →
    Ev (fun k => X.laws_toVerdictS.l0 k xs ys (i : Int)) (xs.map toV) := by
  intro n
  induction n with
  | zero =>
    intro i ys hn hi hy ht
    obtain rfl : i = xs.length := by omega
    have e : ys = xs.map toV := take_all (by rw [List.length_map]; exact hy) (by rw [List.length_map]; exact ht)
    rw [← e]
    exact Ev.step (f := fun _ => some ys) (fun k => by rw [X.laws_toVerdictS.l0, if_neg (by omega)]) (Ev.now _)
  | succ n ih =>
    intro i ys hn hi hy ht
    have hi' : i < xs.length := by omega
    have hr := rdV xs i hi'
    have hs := set_take toV xs ys i hi' hy ht
    have hk := ih (i + 1) (ys.set i (toV xs[i])) (by omega) (by omega) (by rw [List.length_set]; exact hy) hs
    refine Ev.step (fun k => ?_) hk
    rw [X.laws_toVerdictS.l0, if_pos (by omega), if_pos (by omega), hr]
    unfold X.laws_toVerdict.f
    rw [Option.bind_some, if_pos (by omega), inc i (by omega), Int.toNat_natCast]
    rfl
theorem toV_f (xs : List X.S87) (hl : xs.length ≤ 1048576) : Ev (fun k => X.laws_toVerdictS.f k xs) (xs.map toV) := by
  refine Ev.congr (f := fun k => X.laws_toVerdictS.l0 k xs (List.replicate xs.length X.z85) 0) (fun k => ?_) (toV_l0 xs hl xs.length 0 _ rfl (Nat.zero_le _) (List.length_replicate ..) rfl)
  unfold X.laws_toVerdictS.f
  rw [if_pos (by omega), if_pos (by omega), Int.toNat_natCast]
theorem toItem_f (x : LI) (h3 : x.f0.f3.length ≤ 1048576) (h1 : x.f1.length ≤ 1048576) : Ev (fun k => X.laws_toItem.f k x.f0.f0 x.f0.f1 x.f0.f2 x.f0.f3 x.f0.f4 x.f1 x.f2 x.f3 x.f4) (x.f0.f0, x.f0.f1, x.f0.f2, x.f0.f3, x.f0.f4, x.f1.map toV, x.f2, x.f3, x.f4) := by
  unfold X.laws_toItem.f
  refine Ev.bind (f := fun k bt139 => (X.laws_toVerdictS.f k x.f1).bind fun t146 => some (bt139.1, bt139.2.1, bt139.2.2.1, bt139.2.2.2.1, bt139.2.2.2.2, t146, x.f2, x.f3, x.f4)) (a := (x.f0.f0, x.f0.f1, x.f0.f2, x.f0.f3, x.f0.f4)) ?_ (Ev.bind (toV_f x.f1 h1) (Ev.now _))
  unfold X.laws_toMessage.f
  exact Ev.bind (toString_f x.f0.f3 h3) (Ev.now _)
theorem wt_mem : ∀ (xs : List LI) (x : LI), x ∈ xs → x.f0.f3.length + x.f1.length ≤ wt xs
  | y :: r, x, h => by
    rw [wt]
    rcases List.mem_cons.1 h with rfl | h
    · omega
    · have := wt_mem r x h; omega
theorem toIS_l0 (xs : List LI) (hl : xs.length ≤ 1048576) (hw : wt xs ≤ 1048576) : ∀ (n i : Nat) (ys : List II), xs.length - i = n → i ≤ xs.length → ys.length = xs.length → ys.take i = (xs.map toI).take i →
    Ev (fun k => X.laws_toItemS.l0 k xs ys (i : Int)) (xs.map toI) := by
  intro n
  induction n with
  | zero =>
    intro i ys hn hi hy ht
    obtain rfl : i = xs.length := by omega
    have e : ys = xs.map toI := take_all (by rw [List.length_map]; exact hy) (by rw [List.length_map]; exact ht)
    rw [← e]
    exact Ev.step (f := fun _ => some ys) (fun k => by rw [X.laws_toItemS.l0, if_neg (by omega)]) (Ev.now _)
  | succ n ih =>
    intro i ys hn hi hy ht
    have hi' : i < xs.length := by omega
    have hr := rdLI xs i hi'
    have hs := set_take toI xs ys i hi' hy ht
    have hk := ih (i + 1) (ys.set i (toI xs[i])) (by omega) (by omega) (by rw [List.length_set]; exact hy) hs
    have hm := wt_mem xs _ (List.getElem_mem hi')
    generalize xs[i] = q at hr hk hm
    have hf := toItem_f q (by omega) (by omega)
    refine Ev.step (f := fun k => (X.laws_toItem.f k q.f0.f0 q.f0.f1 q.f0.f2 q.f0.f3 q.f0.f4 q.f1 q.f2 q.f3 q.f4).bind fun bt153 => (if (i : Int) < (ys.length : Int) then (X.laws_toItemS.l0 k xs (ys.set (i : Int).toNat (⟨(⟨bt153.1, bt153.2.1, bt153.2.2.1, bt153.2.2.2.1, bt153.2.2.2.2.1⟩ : X.S45), bt153.2.2.2.2.2.1, bt153.2.2.2.2.2.2.1, bt153.2.2.2.2.2.2.2.1, bt153.2.2.2.2.2.2.2.2⟩ : X.S48)) (wrap64 ((i : Int) + 1))) else none)) (fun k => ?_) (Ev.bind (f := fun k bt153 => (if (i : Int) < (ys.length : Int) then (X.laws_toItemS.l0 k xs (ys.set (i : Int).toNat (⟨(⟨bt153.1, bt153.2.1, bt153.2.2.1, bt153.2.2.2.1, bt153.2.2.2.2.1⟩ : X.S45), bt153.2.2.2.2.2.1, bt153.2.2.2.2.2.2.1, bt153.2.2.2.2.2.2.2.1, bt153.2.2.2.2.2.2.2.2⟩ : X.S48)) (wrap64 ((i : Int) + 1))) else none)) hf (Ev.congr (f := fun k => X.laws_toItemS.l0 k xs (ys.set i (toI q)) ((i + 1 : Nat) : Int)) (fun k => ?_) hk))
    · rw [X.laws_toItemS.l0, if_pos (by omega), if_pos (by omega), hr]
    · rw [if_pos (by omega), inc i (by omega), Int.toNat_natCast]; rfl
theorem toQ_f (xs : List LI) (next : Int) (hl : xs.length ≤ 1048576) (hw : wt xs ≤ 1048576) : Ev (fun k => X.laws_toQueue.f k xs next) (xs.map toI, next) := by
  unfold X.laws_toQueue.f
  refine Ev.bind (Ev.congr (f := fun k => X.laws_toItemS.l0 k xs (List.replicate xs.length X.z48) 0) (fun k => ?_) (toIS_l0 xs hl hw xs.length 0 _ rfl (Nat.zero_le _) (List.length_replicate ..) rfl)) (Ev.now _)
  unfold X.laws_toItemS.f
  rw [if_pos (by omega), if_pos (by omega), Int.toNat_natCast]
theorem eqV_l0 (xs : List X.S85) (hl : xs.length ≤ 1048576) : ∀ (n i : Nat), xs.length - i = n → i ≤ xs.length → Ev (fun k => X.laws_eqVerdictS.l0 k xs xs (i : Int)) true := by
  intro n
  induction n with
  | zero =>
    intro i hn hi
    exact Ev.step (f := fun _ => some true) (fun k => by rw [X.laws_eqVerdictS.l0, if_neg (by omega)]) (Ev.now _)
  | succ n ih =>
    intro i hn hi
    refine Ev.step (fun k => ?_) (ih (i + 1) (by omega) (by omega))
    rw [X.laws_eqVerdictS.l0, if_pos (by omega), if_pos (by omega), if_pos (by omega)]
    unfold X.laws_eqVerdict.f
    rw [if_pos rfl, if_pos rfl, if_pos rfl, Option.bind_some, if_pos rfl, inc i (by omega)]
theorem eqV_f (xs : List X.S85) (hl : xs.length ≤ 1048576) : Ev (fun k => X.laws_eqVerdictS.f k xs xs) true :=
  Ev.congr (fun k => by unfold X.laws_eqVerdictS.f; rw [if_pos rfl]; rfl) (eqV_l0 xs hl xs.length 0 rfl (Nat.zero_le _))
theorem eqItem_f (x : II) (h3 : x.f0.f3.length ≤ 1048576) (h1 : x.f1.length ≤ 1048576) : Ev (fun k => X.laws_eqItem.f k x.f0.f0 x.f0.f1 x.f0.f2 x.f0.f3 x.f0.f4 x.f1 x.f2 x.f3 x.f4 x.f0.f0 x.f0.f1 x.f0.f2 x.f0.f3 x.f0.f4 x.f1 x.f2 x.f3 x.f4) true := by
  unfold X.laws_eqItem.f
  have hm : Ev (fun k => X.laws_eqMessage.f k x.f0.f0 x.f0.f1 x.f0.f2 x.f0.f3 x.f0.f4 x.f0.f0 x.f0.f1 x.f0.f2 x.f0.f3 x.f0.f4) true := by
    unfold X.laws_eqMessage.f
    simp only [if_true]
    exact Ev.bind (eqString_f x.f0.f3 h3) (Ev.congr (f := fun _ => some true) (fun k => by rw [if_pos rfl]) (Ev.now _))
  refine Ev.bind hm ?_
  simp only [if_true]
  exact Ev.bind (eqV_f x.f1 h1) (Ev.congr (f := fun _ => some true) (fun k => by simp) (Ev.now _))
theorem eqIS_l0 (xs : List II) (hl : xs.length ≤ 1048576) (hx : ∀ x ∈ xs, x.f0.f3.length ≤ 1048576 ∧ x.f1.length ≤ 1048576) : ∀ (n i : Nat), xs.length - i = n → i ≤ xs.length → Ev (fun k => X.laws_eqItemS.l0 k xs xs (i : Int)) true := by
  intro n
  induction n with
  | zero =>
    intro i hn hi
    exact Ev.step (f := fun _ => some true) (fun k => by rw [X.laws_eqItemS.l0, if_neg (by omega)]) (Ev.now _)
  | succ n ih =>
    intro i hn hi
    have hi' : i < xs.length := by omega
    have hr := rdII xs i hi'
    have hz := hx _ (List.getElem_mem hi')
    generalize xs[i] = q at hr hz
    refine Ev.step (f := fun k => (X.laws_eqItem.f k q.f0.f0 q.f0.f1 q.f0.f2 q.f0.f3 q.f0.f4 q.f1 q.f2 q.f3 q.f4 q.f0.f0 q.f0.f1 q.f0.f2 q.f0.f3 q.f0.f4 q.f1 q.f2 q.f3 q.f4).bind fun t191 => (if t191 = true then (X.laws_eqItemS.l0 k xs xs (wrap64 ((i : Int) + 1))) else (some false))) (fun k => ?_) (Ev.bind (f := fun k t191 => (if t191 = true then (X.laws_eqItemS.l0 k xs xs (wrap64 ((i : Int) + 1))) else (some false))) (eqItem_f q hz.1 hz.2) (Ev.congr (fun k => by rw [if_pos rfl, inc i (by omega)]) (ih (i + 1) (by omega) (by omega))))
    rw [X.laws_eqItemS.l0, if_pos (by omega), if_pos (by omega), if_pos (by omega), hr]
theorem eqQ_f (xs : List II) (next : Int) (hl : xs.length ≤ 1048576) (hx : ∀ x ∈ xs, x.f0.f3.length ≤ 1048576 ∧ x.f1.length ≤ 1048576) : Ev (fun k => X.laws_eqQueue.f k xs next xs next) true := by
  unfold X.laws_eqQueue.f
  refine Ev.bind (Ev.congr (fun k => by unfold X.laws_eqItemS.f; rw [if_pos rfl]; rfl) (eqIS_l0 xs hl hx xs.length 0 rfl (Nat.zero_le _))) (Ev.congr (f := fun _ => some true) (fun k => by rw [if_pos rfl, if_pos rfl]) (Ev.now _))
theorem eqN_l0 (xs : List Int) (hl : xs.length ≤ 1048576) : ∀ (n i : Nat), xs.length - i = n → i ≤ xs.length → Ev (fun k => X.laws_eqIntS.l0 k xs xs (i : Int)) true := by
  intro n
  induction n with
  | zero =>
    intro i hn hi
    exact Ev.step (f := fun _ => some true) (fun k => by rw [X.laws_eqIntS.l0, if_neg (by omega)]) (Ev.now _)
  | succ n ih =>
    intro i hn hi
    refine Ev.step (fun k => ?_) (ih (i + 1) (by omega) (by omega))
    rw [X.laws_eqIntS.l0, if_pos (by omega), if_pos (by omega), if_pos (by omega), if_pos rfl, inc i (by omega)]
theorem eqN_f (xs : List Int) (hl : xs.length ≤ 1048576) : Ev (fun k => X.laws_eqIntS.f k xs xs) true :=
  Ev.congr (fun k => by unfold X.laws_eqIntS.f; rw [if_pos rfl]; rfl) (eqN_l0 xs hl xs.length 0 rfl (Nat.zero_le _))
def mkN (a : Int) : Nat → List Int
  | 0 => []
  | n + 1 => a :: mkN (a + 1) n
theorem mkN_len (n : Nat) : ∀ a, (mkN a n).length = n := by
  induction n with
  | zero => intro a; rfl
  | succ n ih => intro a; rw [mkN, List.length_cons, ih]
theorem mkN_get (n : Nat) : ∀ (a : Int) (i : Nat), (mkN a n)[i]? = if i < n then some (a + i) else none := by
  induction n with
  | zero => intro a i; rfl
  | succ n ih =>
    intro a i
    cases i with
    | zero => simp [mkN]
    | succ i =>
      rw [mkN, List.getElem?_cons_succ, ih]
      by_cases h : i < n
      · rw [if_pos h, if_pos (by omega)]; congr 1; omega
      · rw [if_neg h, if_neg (by omega)]
theorem markN_l0 (a : Int) (h0 : 0 ≤ a) (h1 : a ≤ 10) : ∀ (n i : Nat) (xs : List Int), xs.length - i = n → i ≤ xs.length → xs.length ≤ 1048576 → xs.take i = (mkN a xs.length).take i →
    Ev (fun k => X.laws_markIntS.l0 k xs (a + i) (i : Int)) (a + xs.length, mkN a xs.length) := by
  intro n
  induction n with
  | zero =>
    intro i xs hn hi hl ht
    obtain rfl : i = xs.length := by omega
    have e : mkN a xs.length = xs := take_all (mkN_len _ _) ht.symm
    rw [e]
    exact Ev.step (f := fun _ => some (a + xs.length, xs)) (fun k => by rw [X.laws_markIntS.l0, if_neg (by omega)]) (Ev.now _)
  | succ n ih =>
    intro i xs hn hi hl ht
    have hi' : i < xs.length := by omega
    have e1 : wrap64 (a + (i : Int) + 1) = a + ((i + 1 : Nat) : Int) := (wrap_id _ (by omega) (by omega)).trans (by omega)
    have hs : (xs.set i (a + i)).take (i + 1) = (mkN a xs.length).take (i + 1) := by
      apply List.ext_getElem?
      intro j
      have hj := congrArg (·[j]?) ht
      simp only [List.getElem?_take, List.getElem?_set, mkN_get] at hj ⊢
      by_cases h1 : j < i + 1
      · rw [if_pos h1, if_pos h1]
        by_cases h2 : i = j
        · subst h2; simp [hi']
        · rw [if_neg h2]; rwa [if_pos (by omega), if_pos (by omega)] at hj
      · rw [if_neg h1, if_neg h1]
    have hk := ih (i + 1) (xs.set i (a + i)) (by rw [List.length_set]; omega) (by rw [List.length_set]; omega) (by rw [List.length_set]; exact hl) (by rw [List.length_set]; exact hs)
    rw [List.length_set] at hk
    refine Ev.step (fun k => ?_) hk
    rw [X.laws_markIntS.l0, if_pos (by omega), if_pos (by omega), e1, inc i (by omega), Int.toNat_natCast]
theorem markN_f (xs : List Int) (hl : xs.length ≤ 1048576) : Ev (fun k => X.laws_markIntS.f k xs 1) (1 + xs.length, mkN 1 xs.length) := by
  have := markN_l0 1 (by decide) (by decide) xs.length 0 xs rfl (Nat.zero_le _) hl rfl
  exact this
theorem heldN_l0 (m : Nat) (hl : m ≤ 1048576) : ∀ (n i : Nat), m - i = n → i ≤ m → Ev (fun k => X.laws_heldIntS.l0 k (mkN 1 m) (1 + i) (i : Int)) (1 + m) := by
  intro n
  induction n with
  | zero =>
    intro i hn hi
    obtain rfl : i = m := by omega
    exact Ev.step (f := fun _ => some (1 + (i : Int))) (fun k => by rw [X.laws_heldIntS.l0, mkN_len, if_neg (by omega)]) (Ev.now _)
  | succ n ih =>
    intro i hn hi
    have hi' : i < m := by omega
    have e1 : wrap64 (1 + (i : Int) + 1) = 1 + ((i + 1 : Nat) : Int) := (wrap_id _ (by omega) (by omega)).trans (by omega)
    have hr : rd (mkN 1 m) (i : Int) = 1 + i := by
      rw [rdN _ _ (by rw [mkN_len]; exact hi')]
      have := mkN_get m 1 i
      rw [if_pos hi', List.getElem?_eq_getElem (by rw [mkN_len]; exact hi')] at this
      exact Option.some.inj this
    refine Ev.step (fun k => ?_) (ih (i + 1) (by omega) (by omega))
    rw [X.laws_heldIntS.l0, mkN_len, if_pos (by omega), if_pos (by omega), hr, if_pos rfl, e1, inc i (by omega)]
theorem heldN_f (m : Nat) (hl : m ≤ 1048576) : Ev (fun k => X.laws_heldIntS.f k (mkN 1 m) 1) (1 + m) := by
  have := heldN_l0 m hl m 0 rfl (Nat.zero_le _)
  exact this
theorem mkTot_le : ∀ xs : List LI, X.mkTot (xs.map toI) ≤ 7 * xs.length + 3 * wt xs
  | [] => Nat.le_refl _
  | x :: r => by
    have := mkTot_le r
    rw [List.map_cons, X.mkTot, wt, List.length_cons]
    simp only [toI, List.length_map]
    omega
end Go.Proofs.Ytnhhbdhkhdbanaa.Pure
