/- What markText, markStringS, heldStringS answer: a row that was marked holds its marks. Plain Lean. -/
import Derived.Test.YtnhhbdhkhdbanaaDoorOX11
import Derived.Test.YtnhhbdhkhdbanaaDoorOX12
import Derived.Test.YtnhhbdhkhdbanaaDoorOX11
import Derived.Test.YtnhhbdhkhdbanaaDoorOPBas
namespace Go.Proofs.YtnhhbdhkhdbanaaDoor.Pure
open Go Go.RowKit Go.Proofs.YtnhhbdhkhdbanaaDoorW.PrintWords
set_option linter.unusedVariables false
set_option linter.unusedSimpArgs false
theorem one_num (x : Int) : (strOfNums [x]).size = 1 := rfl
theorem markText_l0 : ∀ (n : Nat) (x : Int) (t : ByteArray), x.toNat ≤ n → t.size + x.toNat ≤ 4000000000 → ∃ r, Ev (fun k => X.laws_markText.l0 k x t) r := by
  intro n
  induction n with
  | zero =>
    intro x t hx ht
    exact ⟨_, Ev.step (f := fun _ => some ((⟨#[109]⟩ : ByteArray) ++ t)) (fun k => by rw [X.laws_markText.l0, if_neg (by omega), if_pos (by omega)]) (Ev.now _)⟩
  | succ n ih =>
    intro x t hx ht
    by_cases h0 : x > 0
    · have hq : Int.tdiv x 10 = x / 10 := Int.tdiv_eq_ediv_of_nonneg (by omega)
      have ew : wrap64 (Int.tdiv x 10) = x / 10 := by rw [hq]; exact wrap_id _ (by omega) (by omega)
      have hs : (strOfNums [(wrap64 (48 + (Int.tmod x 10))) % 256] ++ t).size = t.size + 1 := by rw [ByteArray.size_append, one_num]; omega
      obtain ⟨r, hr⟩ := ih (x / 10) (strOfNums [(wrap64 (48 + (Int.tmod x 10))) % 256] ++ t) (by omega) (by rw [hs]; omega)
      refine ⟨r, Ev.step (fun k => ?_) hr⟩
      rw [X.laws_markText.l0, if_pos h0, Option.bind_some, if_pos (by rw [one_num]; omega), ew]
    · exact ⟨_, Ev.step (f := fun _ => some ((⟨#[109]⟩ : ByteArray) ++ t)) (fun k => by rw [X.laws_markText.l0, if_neg h0, if_pos (by omega)]) (Ev.now _)⟩
theorem markText_ex (x : Int) (hx : x ≤ 1000000000) : ∃ r, Ev (fun k => X.laws_markText.f k x) r := by
  by_cases h : x ≤ 0
  · exact ⟨_, Ev.congr (f := fun _ => some (⟨#[109, 48]⟩ : ByteArray)) (fun k => by unfold X.laws_markText.f; rw [if_pos h]) (Ev.now _)⟩
  · obtain ⟨r, hr⟩ := markText_l0 x.toNat x ⟨#[]⟩ (Nat.le_refl _) (by show 0 + x.toNat ≤ _; omega)
    exact ⟨r, Ev.congr (fun k => by unfold X.laws_markText.f; rw [if_neg h]) hr⟩
open Classical in
/-- The text of a mark. -/
noncomputable def mtx (x : Int) : ByteArray := if h : ∃ r, Ev (fun k => X.laws_markText.f k x) r then Classical.choose h else ⟨#[]⟩
theorem mtx_f (x : Int) (hx : x ≤ 1000000000) : Ev (fun k => X.laws_markText.f k x) (mtx x) := by
  have h := markText_ex x hx
  unfold mtx; rw [dif_pos h]; exact Classical.choose_spec h
/-- n marks from a on. -/
noncomputable def mks (a : Int) : Nat → List ByteArray
  | 0 => []
  | n + 1 => mtx a :: mks (a + 1) n
theorem mks_len (n : Nat) : ∀ a, (mks a n).length = n := by
  induction n with
  | zero => intro a; rfl
  | succ n ih => intro a; unfold mks; rw [List.length_cons, ih]
theorem mks_get (n : Nat) : ∀ (a : Int) (i : Nat) (h : i < (mks a n).length), (mks a n)[i] = mtx (a + i) := by
  induction n with
  | zero => intro a i h; simp [mks] at h
  | succ n ih =>
    intro a i h
    cases i with
    | zero => simp [mks]
    | succ i =>
      simp only [mks, List.getElem_cons_succ]
      rw [ih]; congr 1; omega
theorem markS_l0 (a : Int) (h0 : 0 ≤ a) (h1 : a ≤ 10000000) : ∀ (n i : Nat) (xs : List ByteArray), xs.length - i = n → i ≤ xs.length → xs.length ≤ 2000000 → xs.take i = (mks a xs.length).take i →
    Ev (fun k => X.laws_markStringS.l0 k xs (a + i) (i : Int)) (a + xs.length, mks a xs.length) := by
  intro n
  induction n with
  | zero =>
    intro i xs hn hi hl ht
    obtain rfl : i = xs.length := by omega
    have : xs = mks a xs.length := by
      rw [List.take_of_length_le (Nat.le_refl _), List.take_of_length_le (by rw [mks_len]; exact Nat.le_refl _)] at ht; exact ht
    refine Ev.step (f := fun _ => some (a + xs.length, xs)) (fun k => ?_) (by rw [← this]; exact Ev.now _)
    rw [X.laws_markStringS.l0, if_neg (by omega)]
  | succ n ih =>
    intro i xs hn hi hl ht
    have hi' : i < xs.length := by omega
    have e1 : wrap64 (a + (i : Int) + 1) = a + ((i + 1 : Nat) : Int) := by rw [wrap_id _ (by omega) (by omega)]; omega
    have e2 : wrap64 ((i : Int) + 1) = ((i + 1 : Nat) : Int) := by rw [wrap_id _ (by omega) (by omega)]; omega
    have hm := mtx_f (a + i) (by omega)
    have hk := ih (i + 1) (xs.set i (mtx (a + i))) (by rw [List.length_set]; omega) (by rw [List.length_set]; omega) (by rw [List.length_set]; exact hl) (by
      rw [List.length_set, List.take_succ_eq_append_getElem (by rw [List.length_set]; omega), List.take_succ_eq_append_getElem (by rw [mks_len]; exact hi'), List.getElem_set_self, List.take_set, List.set_eq_of_length_le (by rw [List.length_take]; omega), ht, mks_get])
    rw [List.length_set] at hk
    refine Ev.step (f := fun k => (X.laws_markText.f k (a + i)).bind fun t => X.laws_markStringS.l0 k (xs.set i t) (a + ((i + 1 : Nat) : Int)) ((i + 1 : Nat) : Int)) (fun k => ?_) (Ev.bind hm hk)
    rw [X.laws_markStringS.l0, if_pos (by omega)]
    simp only [if_pos (show (0 : Int) ≤ (i : Int) by omega), Int.toNat_natCast, e1, e2]
theorem markS_f (xs : List ByteArray) (hl : xs.length ≤ 2000000) (a : Int) (h0 : 0 ≤ a) (h1 : a ≤ 10000000) : Ev (fun k => X.laws_markStringS.f k xs a) (a + xs.length, mks a xs.length) := by
  have := markS_l0 a h0 h1 xs.length 0 xs (by omega) (by omega) hl (by simp)
  rw [show a + ((0 : Nat) : Int) = a by omega] at this
  exact Ev.congr (fun k => rfl) this
theorem heldS_l0 (a : Int) (h0 : 0 ≤ a) (h1 : a ≤ 10000000) (m : Nat) (hl : m ≤ 2000000) : ∀ (n i : Nat), m - i = n → i ≤ m → Ev (fun k => X.laws_heldStringS.l0 k (mks a m) (a + i) (i : Int)) (a + m) := by
  intro n
  have hml := mks_len m a
  induction n with
  | zero =>
    intro i hn hi
    obtain rfl : i = m := by omega
    exact Ev.step (f := fun _ => some (a + i)) (fun k => by rw [X.laws_heldStringS.l0, if_neg (by omega)]) (Ev.now _)
  | succ n ih =>
    intro i hn hi
    have e1 : wrap64 (a + (i : Int) + 1) = a + ((i + 1 : Nat) : Int) := by rw [wrap_id _ (by omega) (by omega)]; omega
    have e2 : wrap64 ((i : Int) + 1) = ((i + 1 : Nat) : Int) := by rw [wrap_id _ (by omega) (by omega)]; omega
    have hr : rdOf ByteArray.empty (mks a m) (i : Int) = mtx (a + i) := by rw [rd_get _ _ (by omega), mks_get]
    refine Ev.step (f := fun k => (X.laws_markText.f k (a + i)).bind fun t => if (mtx (a + i)).toList = t.toList then X.laws_heldStringS.l0 k (mks a m) (a + ((i + 1 : Nat) : Int)) ((i + 1 : Nat) : Int) else some (-1)) (fun k => ?_) (Ev.bind (mtx_f (a + i) (by omega)) (Ev.congr (fun k => if_pos rfl) (ih (i + 1) (by omega) (by omega))))
    rw [X.laws_heldStringS.l0, if_pos (by omega), if_pos (by omega)]
    simp only [hr, e1, e2]
theorem heldS_f (m : Nat) (hl : m ≤ 2000000) (a : Int) (h0 : 0 ≤ a) (h1 : a ≤ 10000000) : Ev (fun k => X.laws_heldStringS.f k (mks a m) a) (a + m) := by
  have := heldS_l0 a h0 h1 m hl m 0 (by omega) (by omega)
  rw [show a + ((0 : Nat) : Int) = a by omega] at this
  exact Ev.congr (fun k => rfl) this
end Go.Proofs.YtnhhbdhkhdbanaaDoor.Pure
