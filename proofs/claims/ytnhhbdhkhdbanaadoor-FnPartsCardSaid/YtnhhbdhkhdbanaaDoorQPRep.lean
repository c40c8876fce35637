/- Lines of a reply: what spec's l2line and impl's readLine answer. Plain Lean. -/
import Derived.Test.YtnhhbdhkhdbanaaDoorQX6
import Derived.Test.YtnhhbdhkhdbanaaDoorQX5
import Derived.Test.YtnhhbdhkhdbanaaDoorQX2
import Derived.Test.YtnhhbdhkhdbanaaDoorQX1
import Derived.Test.YtnhhbdhkhdbanaaDoorQPLin
import Derived.Test.YtnhhbdhkhdbanaaDoorQGAll
namespace Go.Proofs.YtnhhbdhkhdbanaaDoor.Pure
open Go Go.RowKit Go.Proofs.YtnhhbdhkhdbanaaDoorW.PrintWords
set_option linter.unusedVariables false
set_option linter.unusedSimpArgs false
def dg (l : ByteArray) (j : Int) : Bool := decide (48 ≤ bt l j) && decide (bt l j ≤ 57)
def dig3 (l : ByteArray) : Int := ((bt l 0 - 48) * 10 + (bt l 1 - 48)) * 10 + (bt l 2 - 48)
def goodL (l : ByteArray) : Bool :=
  !(l.data.toList.contains 13) && !(l.data.toList.contains 10) && decide (l.size + 2 ≤ 512) && decide (3 ≤ l.size) && (dg l 0 && dg l 1 && dg l 2) && (decide (50 ≤ bt l 0) && decide (bt l 0 ≤ 53)) && (decide (l.size = 3) || decide (bt l 3 = 32) || decide (bt l 3 = 45))
def lastL (l : ByteArray) : Bool := decide (l.size = 3) || decide (bt l 3 = 32)
def textL (l : ByteArray) : ByteArray := if l.size = 3 then ⟨#[]⟩ else l.extract 4 l.size
def badR : Int × Bool × ByteArray × Bool := (0, false, ⟨#[]⟩, false)
theorem l2_j0_true (l : ByteArray) : Ev (fun k => X.spec_l2line.j0 k l true) badR :=
  Ev.step (f := fun _ => some badR) (fun k => by rw [X.spec_l2line.j0, if_pos rfl]; rfl) (Ev.now _)
theorem l2_no (l : ByteArray) (h3 : 3 ≤ l.size) (a : Int) (i : Nat) (hi : i < 3) (hd : dg l (i : Int) = false) : Ev (fun k => X.spec_l2line.l0 k l a (i : Int)) badR := by
  by_cases c1 : bt l (i : Int) < 48
  · exact Ev.step (f := fun _ => some badR) (fun k => by rw [X.spec_l2line.l0, if_pos (by omega), if_pos (by omega), if_pos (by omega), if_pos c1]; rfl) (Ev.now _)
  · have c2 : bt l (i : Int) > 57 := by
      unfold dg at hd
      rw [decide_eq_true (p := 48 ≤ bt l (i : Int)) (by omega), Bool.true_and, decide_eq_false_iff_not] at hd
      omega
    exact Ev.step (f := fun _ => some badR) (fun k => by rw [X.spec_l2line.l0, if_pos (by omega), if_pos (by omega), if_pos (by omega), if_neg c1, if_pos c2]; rfl) (Ev.now _)
theorem dg_iff (l : ByteArray) (j : Int) : dg l j = true ↔ 48 ≤ bt l j ∧ bt l j ≤ 57 := by unfold dg; simp
theorem l2_yes (l : ByteArray) (h3 : 3 ≤ l.size) (a : Int) (h0 : 0 ≤ a) (h1 : a ≤ 1000) (i : Nat) (hi : i < 3) (hd : dg l (i : Int) = true) (R : Int × Bool × ByteArray × Bool)
    (hR : Ev (fun k => X.spec_l2line.l0 k l (a * 10 + (bt l (i : Int) - 48)) ((i + 1 : Nat) : Int)) R) : Ev (fun k => X.spec_l2line.l0 k l a (i : Int)) R := by
  obtain ⟨d1, d2⟩ := (dg_iff _ _).1 hd
  have e1 : wrap64 (a * 10) = a * 10 := wrap_id _ (by omega) (by omega)
  have e2 : (bt l (i : Int) - 48) % 256 = bt l (i : Int) - 48 := by omega
  have e3 : wrap64 (a * 10 + (bt l (i : Int) - 48)) = a * 10 + (bt l (i : Int) - 48) := wrap_id _ (by omega) (by omega)
  have e4 : wrap64 ((i : Int) + 1) = ((i + 1 : Nat) : Int) := by rw [wrap_id _ (by omega) (by omega)]; omega
  refine Ev.step (fun k => ?_) hR
  rw [X.spec_l2line.l0, if_pos (by omega), if_pos (by omega), if_pos (by omega), if_neg (by omega), if_neg (by omega), e1, e2, e3, e4]
theorem l2_end (l : ByteArray) (h3 : 3 ≤ l.size) (a : Int) : Ev (fun k => X.spec_l2line.l0 k l a 3) (if (decide (200 ≤ a) && decide (a ≤ 599)) = true then (a, lastL l, textL l, (decide (l.size = 3) || decide (bt l 3 = 32) || decide (bt l 3 = 45))) else badR) := by
  have J : ∀ b : Bool, Ev (fun k => X.spec_l2line.j2 k l a b) (if b = true then badR else (a, lastL l, textL l, (decide (l.size = 3) || decide (bt l 3 = 32) || decide (bt l 3 = 45)))) := by
    intro b
    cases b with
    | true => exact Ev.step (f := fun _ => some badR) (fun k => by rw [X.spec_l2line.j2, if_pos rfl]; rfl) (Ev.now _)
    | false =>
      rw [if_neg (by decide)]
      unfold lastL textL
      by_cases c : l.size = 3
      · rw [decide_eq_true c, if_pos c]
        exact Ev.step (f := fun _ => some (a, true, ⟨#[]⟩, true)) (fun k => by rw [X.spec_l2line.j2, if_neg (by decide), if_pos (by omega)]) (Ev.now _)
      · rw [decide_eq_false c, if_neg c, Bool.false_or]
        by_cases d : bt l 3 = 32
        · rw [decide_eq_true d]
          exact Ev.step (f := fun _ => some (a, true, l.extract 4 l.size, true)) (fun k => by rw [X.spec_l2line.j2, if_neg (by decide), if_neg (by omega), if_pos (by omega), if_pos (by omega), if_pos d, beq_iff_eq.2 d]) (Ev.now _)
        · rw [decide_eq_false d]
          refine Ev.step (f := fun _ => some (a, false, l.extract 4 l.size, decide (bt l 3 = 45))) (fun k => ?_) (Ev.now _)
          rw [X.spec_l2line.j2, if_neg (by decide), if_neg (by omega), if_pos (by omega), if_pos (by omega), if_neg d, beq_eq_false_iff_ne.2 d]; rfl
  by_cases c1 : a < 200
  · rw [decide_eq_false (p := 200 ≤ a) (by omega)]
    exact Ev.step (f := fun k => X.spec_l2line.j2 k l a true) (fun k => by rw [X.spec_l2line.l0, if_neg (by decide), if_pos c1]) (J true)
  rw [decide_eq_true (p := 200 ≤ a) (by omega)]
  have := J (decide (a > 599))
  refine Ev.step (f := fun k => X.spec_l2line.j2 k l a (decide (a > 599))) (fun k => by rw [X.spec_l2line.l0, if_neg (by decide), if_neg c1]) ?_
  by_cases c2 : a > 599
  · rw [decide_eq_true c2] at this ⊢
    rw [decide_eq_false (p := a ≤ 599) (by omega)]; exact this
  · rw [decide_eq_false c2] at this ⊢
    rw [decide_eq_true (p := a ≤ 599) (by omega)]; exact this
theorem l2line_f (l : ByteArray) (hs : l.size ≤ 8796093022200) : ∃ c b t, Ev (fun k => X.spec_l2line.f k l) (c, b, t, goodL l) ∧ (goodL l = true → c = dig3 l ∧ b = lastL l ∧ t = textL l) := by
  have B : Ev (fun k => X.spec_l2line.f k l) badR → goodL l = false → ∃ c b t, Ev (fun k => X.spec_l2line.f k l) (c, b, t, goodL l) ∧ (goodL l = true → c = dig3 l ∧ b = lastL l ∧ t = textL l) := fun h g => ⟨0, false, ⟨#[]⟩, by rw [g]; exact h, fun h' => by rw [g] at h'; cases h'⟩
  have h13 : Ev (fun k => X.spec_l2has.f k l 13) (l.data.toList.contains 13) := has_ev l (by omega) 13
  have h10 : Ev (fun k => X.spec_l2has.f k l 10) (l.data.toList.contains 10) := has_ev l (by omega) 10
  have hT := l2_j0_true l
  have F : ∀ R, Ev (fun k => if wrap64 ((l.size : Int) + 2) > 512 then X.spec_l2line.j0 k l true else X.spec_l2line.j0 k l (decide ((l.size : Int) < 3))) R → l.data.toList.contains 13 = false → l.data.toList.contains 10 = false → Ev (fun k => X.spec_l2line.f k l) R := by
    intro R h c13 c10
    refine Ev.bind (f := fun k t443 => if t443 = true then X.spec_l2line.j0 k l true else (X.spec_l2has.f k l 10).bind fun t444 => if t444 = true then X.spec_l2line.j0 k l true else if wrap64 ((l.size : Int) + 2) > 512 then X.spec_l2line.j0 k l true else X.spec_l2line.j0 k l (decide ((l.size : Int) < 3))) h13 ?_
    rw [c13]
    refine Ev.congr (fun k => if_neg (by decide)) (Ev.bind (f := fun k t444 => if t444 = true then X.spec_l2line.j0 k l true else if wrap64 ((l.size : Int) + 2) > 512 then X.spec_l2line.j0 k l true else X.spec_l2line.j0 k l (decide ((l.size : Int) < 3))) h10 ?_)
    rw [c10]
    exact Ev.congr (fun k => if_neg (by decide)) h
  cases c13 : l.data.toList.contains 13 with
  | true =>
    refine B (Ev.bind (f := fun k t443 => if t443 = true then X.spec_l2line.j0 k l true else (X.spec_l2has.f k l 10).bind fun t444 => if t444 = true then X.spec_l2line.j0 k l true else if wrap64 ((l.size : Int) + 2) > 512 then X.spec_l2line.j0 k l true else X.spec_l2line.j0 k l (decide ((l.size : Int) < 3))) h13 ?_) (by unfold goodL; rw [c13]; rfl)
    rw [c13]; exact Ev.congr (fun k => if_pos rfl) hT
  | false =>
  cases c10 : l.data.toList.contains 10 with
  | true =>
    refine B (Ev.bind (f := fun k t443 => if t443 = true then X.spec_l2line.j0 k l true else (X.spec_l2has.f k l 10).bind fun t444 => if t444 = true then X.spec_l2line.j0 k l true else if wrap64 ((l.size : Int) + 2) > 512 then X.spec_l2line.j0 k l true else X.spec_l2line.j0 k l (decide ((l.size : Int) < 3))) h13 ?_) (by unfold goodL; rw [c13, c10]; rfl)
    rw [c13]
    refine Ev.congr (fun k => if_neg (by decide)) (Ev.bind (f := fun k t444 => if t444 = true then X.spec_l2line.j0 k l true else if wrap64 ((l.size : Int) + 2) > 512 then X.spec_l2line.j0 k l true else X.spec_l2line.j0 k l (decide ((l.size : Int) < 3))) h10 ?_)
    rw [c10]; exact Ev.congr (fun k => if_pos rfl) hT
  | false =>
  have ew : wrap64 ((l.size : Int) + 2) = (l.size : Int) + 2 := wrap_id _ (by omega) (by omega)
  by_cases c512 : l.size + 2 ≤ 512
  · by_cases c3 : 3 ≤ l.size
    · have hR0 := fun R h => F R (Ev.congr (fun k => (if_neg (by rw [ew]; omega)).trans (by rw [decide_eq_false (p := (l.size : Int) < 3) (by omega)])) (Ev.step (g := fun k => X.spec_l2line.j0 k l false) (f := fun k => X.spec_l2line.l0 k l 0 0) (fun k => by rw [X.spec_l2line.j0, if_neg (by decide)]) h)) c13 c10
      have b0 := bt_range l 0
      have b1 := bt_range l 1
      have b2 := bt_range l 2
      have s3 := l2_end l c3 (dig3 l)
      have G : goodL l = ((dg l 0 && dg l 1 && dg l 2) && (decide (50 ≤ bt l 0) && decide (bt l 0 ≤ 53)) && (decide (l.size = 3) || decide (bt l 3 = 32) || decide (bt l 3 = 45))) := by
        unfold goodL; rw [c13, c10, decide_eq_true c512, decide_eq_true c3]; simp
      cases d0 : dg l 0 with
      | false => exact B (hR0 _ (l2_no l c3 0 0 (by omega) d0)) (by rw [G, d0]; rfl)
      | true =>
      have g0 := (dg_iff _ _).1 d0
      cases d1 : dg l 1 with
      | false => exact B (hR0 _ (l2_yes l c3 0 (by omega) (by omega) 0 (by omega) d0 _ (l2_no l c3 _ 1 (by omega) d1))) (by rw [G, d0, d1]; rfl)
      | true =>
      have g1 := (dg_iff _ _).1 d1
      cases d2 : dg l 2 with
      | false => exact B (hR0 _ (l2_yes l c3 0 (by omega) (by omega) 0 (by omega) d0 _ (l2_yes l c3 _ (by simp; omega) (by simp; omega) 1 (by omega) d1 _ (l2_no l c3 _ 2 (by omega) d2)))) (by rw [G, d0, d1, d2]; rfl)
      | true =>
      have g2 := (dg_iff _ _).1 d2
      have E3 : dig3 l = (((0 : Int) * 10 + (bt l ((0 : Nat) : Int) - 48)) * 10 + (bt l ((1 : Nat) : Int) - 48)) * 10 + (bt l ((2 : Nat) : Int) - 48) := by unfold dig3; simp
      rw [E3] at s3
      have W := hR0 _ (l2_yes l c3 0 (by omega) (by omega) 0 (by omega) d0 _ (l2_yes l c3 _ (by simp; omega) (by simp; omega) 1 (by omega) d1 _ (l2_yes l c3 _ (by simp; omega) (by simp; omega) 2 (by omega) d2 _ s3)))
      rw [← E3] at W
      have K : (decide (200 ≤ dig3 l) && decide (dig3 l ≤ 599)) = (decide (50 ≤ bt l 0) && decide (bt l 0 ≤ 53)) := by
        unfold dig3; rw [Bool.eq_iff_iff]; simp only [Bool.and_eq_true, decide_eq_true_eq]; omega
      rw [K] at W
      cases hK : (decide (50 ≤ bt l 0) && decide (bt l 0 ≤ 53)) with
      | false => rw [hK] at W; exact B W (by rw [G, hK]; simp)
      | true =>
        rw [hK, if_pos rfl] at W
        refine ⟨_, _, _, ?_, fun _ => ⟨rfl, rfl, rfl⟩⟩
        rw [G, d0, d1, d2, hK]; exact W
    · refine B (F _ (Ev.congr (fun k => (if_neg (by rw [ew]; omega)).trans (by rw [decide_eq_true (p := (l.size : Int) < 3) (by omega)])) hT) c13 c10) (by unfold goodL; rw [c13, c10, decide_eq_true c512, decide_eq_false c3]; rfl)
  · refine B (F _ (Ev.congr (fun k => if_pos (by rw [ew]; omega)) hT) c13 c10) (by unfold goodL; rw [c13, c10, decide_eq_false c512]; rfl)
end Go.Proofs.YtnhhbdhkhdbanaaDoor.Pure
