/- What markText, markStringS, markVerdictS, markIntS, heldIntS answer. Plain Lean. -/
import Derived.Test.YtnhhbdhkhdbanaaUHpM
import Derived.Test.YtnhhbdhkhdbanaaUX7
import Derived.Test.YtnhhbdhkhdbanaaUPRd
namespace Go.Proofs.Ytnhhbdhkhdbanaa.Pure
open Go Go.RowKit Go.Proofs.YtnhhbdhkhdbanaaW.PrintWords
set_option linter.unusedVariables false
set_option linter.unusedSimpArgs false
theorem one_num (x : Int) : (strOfNums [x]).size = 1 := rfl
theorem markText_l0 : ∀ (n : Nat) (x : Int) (t : ByteArray), x.toNat ≤ n → t.size + x.toNat ≤ 4000000000 → ∃ r, Ev (fun k => X.laws_markText.l0 k x t) r := by
  intro n
  induction n with
  | zero =>
    intro x t hx ht
    exact ⟨_, Ev.step (f := fun _ => some ((⟨#[109]⟩ : ByteArray) ++ t)) (fun k => by rw [X.laws_markText.l0, if_neg (by omega), if_pos (by omega)]) (Ev.now _)⟩
  | succ n ih =>
    intro x t hx ht
    by_cases h0 : x > 0
    · have hq : Int.tdiv x 10 = x / 10 := Int.tdiv_eq_ediv_of_nonneg (by omega)
      have ew : wrap64 (Int.tdiv x 10) = x / 10 := by rw [hq]; exact wrap_id _ (by omega) (by omega)
      have hs : (strOfNums [(wrap64 (48 + (Int.tmod x 10))) % 256] ++ t).size = t.size + 1 := by rw [ByteArray.size_append, one_num]; omega
      obtain ⟨r, hr⟩ := ih (x / 10) (strOfNums [(wrap64 (48 + (Int.tmod x 10))) % 256] ++ t) (by omega) (by rw [hs]; omega)
      refine ⟨r, Ev.step (fun k => ?_) hr⟩
      rw [X.laws_markText.l0, if_pos h0, Option.bind_some, if_pos (by rw [one_num]; omega), ew]
    · exact ⟨_, Ev.step (f := fun _ => some ((⟨#[109]⟩ : ByteArray) ++ t)) (fun k => by rw [X.laws_markText.l0, if_neg h0, if_pos (by omega)]) (Ev.now _)⟩
theorem markText_ex (x : Int) (hx : x ≤ 1000000000) : ∃ r, Ev (fun k => X.laws_markText.f k x) r := by
  by_cases h : x ≤ 0
  · exact ⟨_, Ev.congr (f := fun _ => some (⟨#[109, 48]⟩ : ByteArray)) (fun k => by unfold X.laws_markText.f; rw [if_pos h]) (Ev.now _)⟩
  · obtain ⟨r, hr⟩ := markText_l0 x.toNat x ⟨#[]⟩ (Nat.le_refl _) (by show 0 + x.toNat ≤ _; omega)
    exact ⟨r, Ev.congr (fun k => by unfold X.laws_markText.f; rw [if_neg h]) hr⟩
theorem markS_l0 : ∀ (n i : Nat) (xs : List ByteArray) (a : Int), xs.length - i = n → i ≤ xs.length → xs.length ≤ 100000000 → 0 ≤ a → a + n ≤ 500000000 →
    ∃ r, Ev (fun k => X.laws_markStringS.l0 k xs a (i : Int)) (a + n, r) := by
  intro n
  induction n with
  | zero =>
    intro i xs a hn hi hl h0 h1
    refine ⟨xs, Ev.step (f := fun _ => some (a + (0 : Nat), xs)) (fun k => ?_) (Ev.now _)⟩
    rw [X.laws_markStringS.l0, if_neg (by omega)]; simp
  | succ n ih =>
    intro i xs a hn hi hl h0 h1
    have e1 : wrap64 (a + 1) = a + 1 := wrap_id _ (by omega) (by omega)
    have e2 : wrap64 ((i : Int) + 1) = ((i + 1 : Nat) : Int) := by rw [wrap_id _ (by omega) (by omega)]; omega
    obtain ⟨t, hm⟩ := markText_ex a (by omega)
    obtain ⟨r, hk⟩ := ih (i + 1) (xs.set i t) (a + 1) (by rw [List.length_set]; omega) (by rw [List.length_set]; omega) (by rw [List.length_set]; exact hl) (by omega) (by omega)
    refine ⟨r, Ev.step (f := fun k => (X.laws_markText.f k a).bind fun t => X.laws_markStringS.l0 k (xs.set i t) (a + 1) ((i + 1 : Nat) : Int)) (fun k => ?_) (Ev.bind hm (by rw [show a + ((n + 1 : Nat) : Int) = a + 1 + n by omega]; exact hk))⟩
    rw [X.laws_markStringS.l0, if_pos (by omega)]
    simp only [if_pos (show (0 : Int) ≤ (i : Int) by omega), Int.toNat_natCast, e1, e2]
theorem markS_f (xs : List ByteArray) (a : Int) (hl : xs.length ≤ 100000000) (h0 : 0 ≤ a) (h1 : a + xs.length ≤ 500000000) : ∃ r k, X.laws_markStringS.f k xs a = some (a + xs.length, r) := by
  obtain ⟨r, k, h⟩ := markS_l0 xs.length 0 xs a rfl (Nat.zero_le _) hl h0 h1
  exact ⟨r, k, h k (Nat.le_refl _)⟩
theorem markV_l0 : ∀ (n i : Nat) (xs : List X.S85) (a : Int), xs.length - i = n → i ≤ xs.length → xs.length ≤ 100000000 → 0 ≤ a → a + 3 * n ≤ 500000000 →
    ∃ r, Ev (fun k => X.laws_markVerdictS.l0 k xs a (i : Int)) (a + 3 * (n : Int), r) := by
  intro n
  induction n with
  | zero =>
    intro i xs a hn hi hl h0 h1
    refine ⟨xs, Ev.step (f := fun _ => some (a + 3 * ((0 : Nat) : Int), xs)) (fun k => ?_) (Ev.now _)⟩
    rw [X.laws_markVerdictS.l0, if_neg (by omega)]; simp
  | succ n ih =>
    intro i xs a hn hi hl h0 h1
    have e1 : wrap64 (a + 1) = a + 1 := wrap_id _ (by omega) (by omega)
    have e1b : wrap64 (a + 1 + 1) = a + 1 + 1 := wrap_id _ (by omega) (by omega)
    have e1c : wrap64 (a + 1 + 1 + 1) = a + 3 := by rw [wrap_id _ (by omega) (by omega)]; omega
    have e2 : wrap64 ((i : Int) + 1) = ((i + 1 : Nat) : Int) := by rw [wrap_id _ (by omega) (by omega)]; omega
    obtain ⟨t, hm⟩ := markText_ex (a + 1 + 1) (by omega)
    let y0 : List X.S85 := xs.set i ⟨a, (X.rd_T85 xs (i : Int)).f1, (X.rd_T85 xs (i : Int)).f2⟩
    let y1 : List X.S85 := y0.set i ⟨(X.rd_T85 y0 (i : Int)).f0, a + 1, (X.rd_T85 y0 (i : Int)).f2⟩
    have hl1 : (y1.set i (⟨(X.rd_T85 y1 (i : Int)).f0, (X.rd_T85 y1 (i : Int)).f1, t⟩ : X.S85)).length = xs.length := by simp [y1, y0]
    obtain ⟨r, hk⟩ := ih (i + 1) (y1.set i (⟨(X.rd_T85 y1 (i : Int)).f0, (X.rd_T85 y1 (i : Int)).f1, t⟩ : X.S85)) (a + 3) (by rw [hl1]; omega) (by rw [hl1]; omega) (by rw [hl1]; exact hl) (by omega) (by omega)
    refine ⟨r, Ev.step (f := fun k => (X.laws_markText.f k (a + 1 + 1)).bind fun t => X.laws_markVerdictS.l0 k (y1.set i (⟨(X.rd_T85 y1 (i : Int)).f0, (X.rd_T85 y1 (i : Int)).f1, t⟩ : X.S85)) (a + 3) ((i + 1 : Nat) : Int)) (fun k => ?_) (Ev.bind hm (by rw [show a + 3 * ((n + 1 : Nat) : Int) = a + 3 + 3 * (n : Int) by omega]; exact hk))⟩
    rw [X.laws_markVerdictS.l0, if_pos (by omega), if_pos (by omega)]
    simp only [Option.bind_some, Int.toNat_natCast, e1, e1b, e1c, e2]
    rfl
theorem markV_f (xs : List X.S85) (a : Int) (hl : xs.length ≤ 100000000) (h0 : 0 ≤ a) (h1 : a + 3 * xs.length ≤ 500000000) : ∃ r k, X.laws_markVerdictS.f k xs a = some (a + 3 * (xs.length : Int), r) := by
  obtain ⟨r, k, h⟩ := markV_l0 xs.length 0 xs a rfl (Nat.zero_le _) hl h0 h1
  exact ⟨r, k, h k (Nat.le_refl _)⟩
end Go.Proofs.Ytnhhbdhkhdbanaa.Pure
