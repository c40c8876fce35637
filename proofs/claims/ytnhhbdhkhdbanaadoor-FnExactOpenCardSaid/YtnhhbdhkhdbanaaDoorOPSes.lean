/- Sessions: marks, and what marked rows hold; bools and verdicts. Plain Lean. -/
import Derived.Test.YtnhhbdhkhdbanaaDoorOX12
import Derived.Test.YtnhhbdhkhdbanaaDoorOX13
import Derived.Test.YtnhhbdhkhdbanaaDoorOX11
import Derived.Test.YtnhhbdhkhdbanaaDoorOX12
import Derived.Test.YtnhhbdhkhdbanaaDoorOX12
import Derived.Test.YtnhhbdhkhdbanaaDoorOX12
import Derived.Test.YtnhhbdhkhdbanaaDoorOX12
import Derived.Test.YtnhhbdhkhdbanaaDoorOX10
import Derived.Test.YtnhhbdhkhdbanaaDoorOX10
import Derived.Test.YtnhhbdhkhdbanaaDoorOPMark
import Derived.Test.YtnhhbdhkhdbanaaDoorOPEqS
namespace Go.Proofs.YtnhhbdhkhdbanaaDoor.Pure
open Go Go.RowKit Go.Proofs.YtnhhbdhkhdbanaaDoorW.PrintWords
set_option linter.unusedVariables false
set_option linter.unusedSimpArgs false
abbrev VI := X.S90
theorem rdI (xs : List VI) (i : Nat) (h : i < xs.length) : X.rd_T90 xs (i : Int) = xs[i] := by
  unfold X.rd_T90; rw [Int.toNat_natCast, List.getD_eq_getElem?_getD, List.getElem?_eq_getElem h]; rfl
theorem rd_b (xs : List Bool) (i : Nat) (h : i < xs.length) : rdOf false xs (i : Int) = xs[i] := by
  unfold rdOf; rw [Int.toNat_natCast, List.getD_eq_getElem?_getD, List.getElem?_eq_getElem h]; rfl
theorem eqBool_l0 (xs : List Bool) (hl : xs.length ≤ 1048576) : ∀ (n i : Nat), xs.length - i = n → i ≤ xs.length → Ev (fun k => X.laws_eqBoolS.l0 k xs xs (i : Int)) true := by
  intro n
  induction n with
  | zero => intro i hn hi; exact Ev.step (f := fun _ => some true) (fun k => by rw [X.laws_eqBoolS.l0, if_neg (by omega)]) (Ev.now _)
  | succ n ih =>
    intro i hn hi
    have e2 : wrap64 ((i : Int) + 1) = ((i + 1 : Nat) : Int) := by rw [wrap_id _ (by omega) (by omega)]; omega
    refine Ev.step (fun k => ?_) (ih (i + 1) (by omega) (by omega))
    rw [X.laws_eqBoolS.l0, if_pos (by omega), if_pos (by omega), if_pos (by omega), if_neg (by simp), e2]
theorem eqBool_f (xs : List Bool) (hl : xs.length ≤ 1048576) : Ev (fun k => X.laws_eqBoolS.f k xs xs) true :=
  Ev.congr (fun k => by unfold X.laws_eqBoolS.f; rw [if_pos rfl]; rfl) (eqBool_l0 xs hl xs.length 0 (by omega) (by omega))
theorem eqVerdict_l0 (xs : List VI) (hl : xs.length ≤ 1048576) : ∀ (n i : Nat), xs.length - i = n → i ≤ xs.length → Ev (fun k => X.laws_eqVerdictS.l0 k xs xs (i : Int)) true := by
  intro n
  induction n with
  | zero => intro i hn hi; exact Ev.step (f := fun _ => some true) (fun k => by rw [X.laws_eqVerdictS.l0, if_neg (by omega)]) (Ev.now _)
  | succ n ih =>
    intro i hn hi
    have e2 : wrap64 ((i : Int) + 1) = ((i + 1 : Nat) : Int) := by rw [wrap_id _ (by omega) (by omega)]; omega
    refine Ev.step (fun k => ?_) (ih (i + 1) (by omega) (by omega))
    rw [X.laws_eqVerdictS.l0, if_pos (by omega), if_pos (by omega), if_pos (by omega)]
    unfold X.laws_eqVerdict.f
    rw [if_pos rfl, if_pos rfl, if_pos rfl, Option.bind_some, if_pos rfl, e2]
theorem eqVerdict_f (xs : List VI) (hl : xs.length ≤ 1048576) : Ev (fun k => X.laws_eqVerdictS.f k xs xs) true :=
  Ev.congr (fun k => by unfold X.laws_eqVerdictS.f; rw [if_pos rfl]; rfl) (eqVerdict_l0 xs hl xs.length 0 (by omega) (by omega))
/-- n marks from a on: bools. -/
def mkB (a : Int) : Nat → List Bool
  | 0 => []
  | n + 1 => (Int.tmod a 3 == 0) :: mkB (a + 1) n
theorem mkB_len (n : Nat) : ∀ a, (mkB a n).length = n := by
  induction n with
  | zero => intro a; rfl
  | succ n ih => intro a; unfold mkB; rw [List.length_cons, ih]
theorem mkB_get (n : Nat) : ∀ (a : Int) (i : Nat) (h : i < (mkB a n).length), (mkB a n)[i] = (Int.tmod (a + i) 3 == 0) := by
  induction n with
  | zero => intro a i h; simp [mkB] at h
  | succ n ih =>
    intro a i h
    cases i with
    | zero => simp [mkB]
    | succ i =>
      simp only [mkB, List.getElem_cons_succ]
      rw [ih]; congr 2; omega
theorem markB_l0 (a : Int) (h0 : 0 ≤ a) (h1 : a ≤ 10000000) : ∀ (n i : Nat) (xs : List Bool), xs.length - i = n → i ≤ xs.length → xs.length ≤ 2000000 → xs.take i = (mkB a xs.length).take i →
    Ev (fun k => X.laws_markBoolS.l0 k xs (a + i) (i : Int)) (a + xs.length, mkB a xs.length) := by
  intro n
  induction n with
  | zero =>
    intro i xs hn hi hl ht
    obtain rfl : i = xs.length := by omega
    have : xs = mkB a xs.length := by
      rw [List.take_of_length_le (Nat.le_refl _), List.take_of_length_le (by rw [mkB_len]; exact Nat.le_refl _)] at ht; exact ht
    refine Ev.step (f := fun _ => some (a + xs.length, xs)) (fun k => ?_) (by rw [← this]; exact Ev.now _)
    rw [X.laws_markBoolS.l0, if_neg (by omega)]
  | succ n ih =>
    intro i xs hn hi hl ht
    have hi' : i < xs.length := by omega
    have e1 : wrap64 (a + (i : Int) + 1) = a + ((i + 1 : Nat) : Int) := by rw [wrap_id _ (by omega) (by omega)]; omega
    have e2 : wrap64 ((i : Int) + 1) = ((i + 1 : Nat) : Int) := by rw [wrap_id _ (by omega) (by omega)]; omega
    have hk := ih (i + 1) (xs.set i (Int.tmod (a + i) 3 == 0)) (by rw [List.length_set]; omega) (by rw [List.length_set]; omega) (by rw [List.length_set]; exact hl) (by
      rw [List.length_set, List.take_succ_eq_append_getElem (by rw [List.length_set]; omega), List.take_succ_eq_append_getElem (by rw [mkB_len]; exact hi'), List.getElem_set_self, List.take_set, List.set_eq_of_length_le (by rw [List.length_take]; omega), ht, mkB_get])
    rw [List.length_set] at hk
    refine Ev.step (fun k => ?_) hk
    rw [X.laws_markBoolS.l0, if_pos (by omega), if_pos (by omega), Int.toNat_natCast, e1, e2]
theorem markB_f (xs : List Bool) (hl : xs.length ≤ 2000000) (a : Int) (h0 : 0 ≤ a) (h1 : a ≤ 10000000) : Ev (fun k => X.laws_markBoolS.f k xs a) (a + xs.length, mkB a xs.length) := by
  have := markB_l0 a h0 h1 xs.length 0 xs (by omega) (by omega) hl (by simp)
  rw [show a + ((0 : Nat) : Int) = a by omega] at this
  exact Ev.congr (fun k => rfl) this
theorem heldB_l0 (a : Int) (h0 : 0 ≤ a) (h1 : a ≤ 10000000) (m : Nat) (hl : m ≤ 2000000) : ∀ (n i : Nat), m - i = n → i ≤ m → Ev (fun k => X.laws_heldBoolS.l0 k (mkB a m) (a + i) (i : Int)) (a + m) := by
  intro n
  have hml := mkB_len m a
  induction n with
  | zero =>
    intro i hn hi
    obtain rfl : i = m := by omega
    exact Ev.step (f := fun _ => some (a + i)) (fun k => by rw [X.laws_heldBoolS.l0, if_neg (by omega)]) (Ev.now _)
  | succ n ih =>
    intro i hn hi
    have e1 : wrap64 (a + (i : Int) + 1) = a + ((i + 1 : Nat) : Int) := by rw [wrap_id _ (by omega) (by omega)]; omega
    have e2 : wrap64 ((i : Int) + 1) = ((i + 1 : Nat) : Int) := by rw [wrap_id _ (by omega) (by omega)]; omega
    have hr : rdOf false (mkB a m) (i : Int) = (Int.tmod (a + i) 3 == 0) := by rw [rd_b _ _ (by omega), mkB_get]
    refine Ev.step (fun k => ?_) (ih (i + 1) (by omega) (by omega))
    rw [X.laws_heldBoolS.l0, if_pos (by omega), if_pos (by omega), hr, if_neg (by simp), e1, e2]
theorem heldB_f (m : Nat) (hl : m ≤ 2000000) (a : Int) (h0 : 0 ≤ a) (h1 : a ≤ 10000000) : Ev (fun k => X.laws_heldBoolS.f k (mkB a m) a) (a + m) := by
  have := heldB_l0 a h0 h1 m hl m 0 (by omega) (by omega)
  rw [show a + ((0 : Nat) : Int) = a by omega] at this
  exact Ev.congr (fun k => rfl) this
/-- n marks from a on: verdicts, three marks each. -/
noncomputable def mkV (a : Int) : Nat → List VI
  | 0 => []
  | n + 1 => ⟨a, a + 1, mtx (a + 2)⟩ :: mkV (a + 3) n
theorem mkV_len (n : Nat) : ∀ a, (mkV a n).length = n := by
  induction n with
  | zero => intro a; rfl
  | succ n ih => intro a; unfold mkV; rw [List.length_cons, ih]
theorem mkV_get (n : Nat) : ∀ (a : Int) (i : Nat) (h : i < (mkV a n).length), (mkV a n)[i] = ⟨a + 3 * i, a + 3 * i + 1, mtx (a + 3 * i + 2)⟩ := by
  induction n with
  | zero => intro a i h; simp [mkV] at h
  | succ n ih =>
    intro a i h
    cases i with
    | zero => simp [mkV]
    | succ i =>
      simp only [mkV, List.getElem_cons_succ]
      rw [ih, show a + 3 + 3 * (i : Int) = a + 3 * ((i + 1 : Nat) : Int) by omega]
theorem markV_l0 (a : Int) (h0 : 0 ≤ a) (h1 : a ≤ 10000000) : ∀ (n i : Nat) (xs : List VI), xs.length - i = n → i ≤ xs.length → xs.length ≤ 2000000 → xs.take i = (mkV a xs.length).take i →
    Ev (fun k => X.laws_markVerdictS.l0 k xs (a + 3 * i) (i : Int)) (a + 3 * xs.length, mkV a xs.length) := by
  intro n
  induction n with
  | zero =>
    intro i xs hn hi hl ht
    obtain rfl : i = xs.length := by omega
    have : xs = mkV a xs.length := by
      rw [List.take_of_length_le (Nat.le_refl _), List.take_of_length_le (by rw [mkV_len]; exact Nat.le_refl _)] at ht; exact ht
    refine Ev.step (f := fun _ => some (a + 3 * xs.length, xs)) (fun k => ?_) (by rw [← this]; exact Ev.now _)
    rw [X.laws_markVerdictS.l0, if_neg (by omega)]
  | succ n ih =>
    intro i xs hn hi hl ht
    have hi' : i < xs.length := by omega
    have w1 : wrap64 (a + 3 * (i : Int) + 1) = a + 3 * (i : Int) + 1 := wrap_id _ (by omega) (by omega)
    have w2 : wrap64 (a + 3 * (i : Int) + 1 + 1) = a + 3 * (i : Int) + 2 := by rw [wrap_id _ (by omega) (by omega)]; omega
    have w3 : wrap64 (a + 3 * (i : Int) + 2 + 1) = a + 3 * ((i + 1 : Nat) : Int) := by rw [wrap_id _ (by omega) (by omega)]; omega
    have e2 : wrap64 ((i : Int) + 1) = ((i + 1 : Nat) : Int) := by rw [wrap_id _ (by omega) (by omega)]; omega
    have hm := mtx_f (a + 3 * i + 2) (by omega)
    have hk := ih (i + 1) (xs.set i ⟨a + 3 * i, a + 3 * i + 1, mtx (a + 3 * i + 2)⟩) (by rw [List.length_set]; omega) (by rw [List.length_set]; omega) (by rw [List.length_set]; exact hl) (by
      rw [List.length_set, List.take_succ_eq_append_getElem (by rw [List.length_set]; omega), List.take_succ_eq_append_getElem (by rw [mkV_len]; exact hi'), List.getElem_set_self, List.take_set, List.set_eq_of_length_le (by rw [List.length_take]; omega), ht, mkV_get])
    rw [List.length_set] at hk
    refine Ev.step (f := fun k => (X.laws_markText.f k (a + 3 * i + 2)).bind fun t => X.laws_markVerdictS.l0 k (xs.set i ⟨a + 3 * i, a + 3 * i + 1, t⟩) (a + 3 * ((i + 1 : Nat) : Int)) ((i + 1 : Nat) : Int)) (fun k => ?_) (Ev.bind hm hk)
    rw [X.laws_markVerdictS.l0, if_pos (by omega), if_pos (by omega), Int.toNat_natCast, w1, w2, w3, e2]
    have r1 : ∀ v : VI, X.rd_T90 (xs.set i v) (i : Int) = v := fun v => by rw [rdI _ i (by rw [List.length_set]; exact hi'), List.getElem_set_self]
    simp only [Option.bind_some, List.set_set, r1]
theorem markV_f (xs : List VI) (hl : xs.length ≤ 2000000) (a : Int) (h0 : 0 ≤ a) (h1 : a ≤ 10000000) : Ev (fun k => X.laws_markVerdictS.f k xs a) (a + 3 * xs.length, mkV a xs.length) := by
  have := markV_l0 a h0 h1 xs.length 0 xs (by omega) (by omega) hl (by simp)
  rw [show a + 3 * ((0 : Nat) : Int) = a by omega] at this
  exact Ev.congr (fun k => rfl) this
theorem heldV_l0 (a : Int) (h0 : 0 ≤ a) (h1 : a ≤ 10000000) (m : Nat) (hl : m ≤ 2000000) : ∀ (n i : Nat), m - i = n → i ≤ m → Ev (fun k => X.laws_heldVerdictS.l0 k (mkV a m) (a + 3 * i) (i : Int)) (a + 3 * m) := by
  intro n
  have hml := mkV_len m a
  induction n with
  | zero =>
    intro i hn hi
    obtain rfl : i = m := by omega
    exact Ev.step (f := fun _ => some (a + 3 * i)) (fun k => by rw [X.laws_heldVerdictS.l0, if_neg (by omega)]) (Ev.now _)
  | succ n ih =>
    intro i hn hi
    have w1 : wrap64 (a + 3 * (i : Int) + 1) = a + 3 * (i : Int) + 1 := wrap_id _ (by omega) (by omega)
    have w2 : wrap64 (a + 3 * (i : Int) + 1 + 1) = a + 3 * (i : Int) + 2 := by rw [wrap_id _ (by omega) (by omega)]; omega
    have w3 : wrap64 (a + 3 * (i : Int) + 2 + 1) = a + 3 * ((i + 1 : Nat) : Int) := by rw [wrap_id _ (by omega) (by omega)]; omega
    have e2 : wrap64 ((i : Int) + 1) = ((i + 1 : Nat) : Int) := by rw [wrap_id _ (by omega) (by omega)]; omega
    have hr : X.rd_T90 (mkV a m) (i : Int) = ⟨a + 3 * i, a + 3 * i + 1, mtx (a + 3 * i + 2)⟩ := by rw [rdI _ _ (by omega), mkV_get]
    refine Ev.step (f := fun k => (X.laws_markText.f k (a + 3 * i + 2)).bind fun t => if (mtx (a + 3 * i + 2)).toList = t.toList then X.laws_heldVerdictS.l0 k (mkV a m) (a + 3 * ((i + 1 : Nat) : Int)) ((i + 1 : Nat) : Int) else some (-1)) (fun k => ?_) (Ev.bind (mtx_f (a + 3 * i + 2) (by omega)) (Ev.congr (fun k => if_pos rfl) (ih (i + 1) (by omega) (by omega))))
    rw [X.laws_heldVerdictS.l0, if_pos (by omega), if_pos (by omega), hr, w1, w2, w3, e2, if_pos rfl, if_pos rfl]
theorem heldV_f (m : Nat) (hl : m ≤ 2000000) (a : Int) (h0 : 0 ≤ a) (h1 : a ≤ 10000000) : Ev (fun k => X.laws_heldVerdictS.f k (mkV a m) a) (a + 3 * m) := by
  have := heldV_l0 a h0 h1 m hl m 0 (by omega) (by omega)
  rw [show a + 3 * ((0 : Nat) : Int) = a by omega] at this
  exact Ev.congr (fun k => rfl) this
end Go.Proofs.YtnhhbdhkhdbanaaDoor.Pure
