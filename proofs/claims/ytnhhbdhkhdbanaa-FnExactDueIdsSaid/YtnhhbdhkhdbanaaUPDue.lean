/- What a queue's size, copy and comparison answer, and marks in a row of numbers. Plain Lean. -/
import Derived.Test.YtnhhbdhkhdbanaaUX1
import Derived.Test.YtnhhbdhkhdbanaaUX3
import Derived.Test.YtnhhbdhkhdbanaaUX6
import Derived.Test.YtnhhbdhkhdbanaaUX6
import Derived.Test.YtnhhbdhkhdbanaaUX5
import Derived.Test.YtnhhbdhkhdbanaaUX4
import Derived.Test.YtnhhbdhkhdbanaaUX7
import Derived.Test.YtnhhbdhkhdbanaaUHp10
import Derived.Test.YtnhhbdhkhdbanaaUPRd
namespace Go.Proofs.Ytnhhbdhkhdbanaa.Pure
open Go Go.RowKit Go.Proofs.YtnhhbdhkhdbanaaW.PrintWords
set_option linter.unusedVariables false
set_option linter.unusedSimpArgs false
abbrev LI := X.S64
abbrev II := X.S48
def toV (x : X.S87) : X.S85 := ⟨x.f0, x.f1, x.f2⟩
def toI (x : LI) : II := ⟨⟨x.f0.f0, x.f0.f1, x.f0.f2, x.f0.f3, x.f0.f4⟩, x.f1.map toV, x.f2, x.f3, x.f4⟩
theorem rdV (xs : List X.S87) (i : Nat) (h : i < xs.length) : X.rd_T87 xs (i : Int) = xs[i] := by
  unfold X.rd_T87; rw [Int.toNat_natCast, List.getD_eq_getElem?_getD, List.getElem?_eq_getElem h]; rfl
theorem rdW (xs : List X.S85) (i : Nat) (h : i < xs.length) : X.rd_T85 xs (i : Int) = xs[i] := by
  unfold X.rd_T85; rw [Int.toNat_natCast, List.getD_eq_getElem?_getD, List.getElem?_eq_getElem h]; rfl
theorem rdLI (xs : List LI) (i : Nat) (h : i < xs.length) : X.rd_T64 xs (i : Int) = xs[i] := by
  unfold X.rd_T64; rw [Int.toNat_natCast, List.getD_eq_getElem?_getD, List.getElem?_eq_getElem h]; rfl
theorem rdII (xs : List II) (i : Nat) (h : i < xs.length) : X.rd_T48 xs (i : Int) = xs[i] := by
  unfold X.rd_T48; rw [Int.toNat_natCast, List.getD_eq_getElem?_getD, List.getElem?_eq_getElem h]; rfl
theorem rdN (xs : List Int) (i : Nat) (h : i < xs.length) : rd xs (i : Int) = xs[i] := by
  unfold rd; rw [Int.toNat_natCast, List.getD_eq_getElem?_getD, List.getElem?_eq_getElem h]; rfl
theorem inc (i : Nat) (h : i ≤ 100000000) : wrap64 ((i : Int) + 1) = ((i + 1 : Nat) : Int) := (wrap_id _ (by omega) (by omega)).trans (Int.natCast_succ i).symm
-- sizes: what is left, or -1
def Sz (l : Nat) (a t : Int) : Prop := t = -1 ∨ (0 ≤ t ∧ t + l ≤ a)
theorem szS_l0 (xs : List ByteArray) (hl : xs.length ≤ 1048576) (hx : ∀ p ∈ xs, p.size ≤ maxLen) : ∀ (n i : Nat) (a : Int), xs.length - i = n → i ≤ xs.length → 0 ≤ a → a ≤ 1048576 →
    ∃ t, Ev (fun k => X.laws_szStringS.l0 k xs a (i : Int)) t ∧ Sz 0 a t := by
  simp only [maxLen] at hx
  intro n
  induction n with
  | zero =>
    intro i a hn hi h0 h1
    exact ⟨a, Ev.step (f := fun _ => some a) (fun k => by rw [X.laws_szStringS.l0, if_neg (by omega)]) (Ev.now _), .inr ⟨h0, by omega⟩⟩
  | succ n ih =>
    intro i a hn hi h0 h1
    have hi' : i < xs.length := by omega
    have hr := rd_get xs i hi'
    have hz := hx _ (List.getElem_mem hi')
    generalize xs[i] = q at hr hz
    have ew : wrap64 (a - (q.size : Int)) = a - (q.size : Int) := wrap_id _ (by omega) (by omega)
    by_cases hneg : a - (q.size : Int) < 0
    · exact ⟨-1, Ev.step (f := fun _ => some (-1)) (fun k => by rw [X.laws_szStringS.l0, if_pos (by omega), if_pos (by omega), hr, ew, if_pos hneg]) (Ev.now _), .inl rfl⟩
    · obtain ⟨t, ht, hp⟩ := ih (i + 1) (a - (q.size : Int)) (by omega) (by omega) (by omega) (by omega)
      refine ⟨t, Ev.step (f := fun k => X.laws_szStringS.l0 k xs (a - (q.size : Int)) ((i + 1 : Nat) : Int)) (fun k => ?_) ht, ?_⟩
      · rw [X.laws_szStringS.l0, if_pos (by omega), if_pos (by omega), hr, ew, if_neg hneg, inc i (by omega)]
      · rcases hp with hp | ⟨p0, p1⟩
        · exact .inl hp
        · exact .inr ⟨p0, by omega⟩
theorem szS_f (xs : List ByteArray) (hl : xs.length ≤ maxLen) (hx : ∀ p ∈ xs, p.size ≤ maxLen) (a : Int) (h0 : 0 ≤ a) (h1 : a ≤ 1048576) : ∃ t, Ev (fun k => X.laws_szStringS.f k xs a) t ∧ Sz xs.length a t := by
  simp only [maxLen] at hl
  have ew : wrap64 (a - (xs.length : Int)) = a - (xs.length : Int) := wrap_id _ (by omega) (by omega)
  by_cases hneg : a - (xs.length : Int) < 0
  · exact ⟨-1, Ev.congr (f := fun _ => some (-1)) (fun k => by unfold X.laws_szStringS.f; rw [ew, if_pos hneg]) (Ev.now _), .inl rfl⟩
  · obtain ⟨t, ht, hp⟩ := szS_l0 xs (by omega) hx xs.length 0 (a - (xs.length : Int)) (by omega) (by omega) (by omega) (by omega)
    refine ⟨t, Ev.congr (f := fun k => X.laws_szStringS.l0 k xs (a - (xs.length : Int)) 0) (fun k => by unfold X.laws_szStringS.f; rw [ew, if_neg hneg]) ht, ?_⟩
    rcases hp with hp | ⟨p0, p1⟩
    · exact .inl hp
    · exact .inr ⟨p0, by omega⟩
theorem szV_l0 (xs : List X.S87) (hl : xs.length ≤ 1048576) (hx : ∀ p ∈ xs, p.f2.size ≤ maxLen) : ∀ (n i : Nat) (a : Int), xs.length - i = n → i ≤ xs.length → 0 ≤ a → a ≤ 1048576 →
    ∃ t, Ev (fun k => X.laws_szVerdictS.l0 k xs a (i : Int)) t ∧ Sz 0 a t := by
  simp only [maxLen] at hx
  intro n
  induction n with
  | zero =>
    intro i a hn hi h0 h1
    exact ⟨a, Ev.step (f := fun _ => some a) (fun k => by rw [X.laws_szVerdictS.l0, if_neg (by omega)]) (Ev.now _), .inr ⟨h0, by omega⟩⟩
  | succ n ih =>
    intro i a hn hi h0 h1
    have hi' : i < xs.length := by omega
    have hr := rdV xs i hi'
    have hz := hx _ (List.getElem_mem hi')
    generalize xs[i] = q at hr hz
    have ew : wrap64 (a - (q.f2.size : Int)) = a - (q.f2.size : Int) := wrap_id _ (by omega) (by omega)
    by_cases hneg : a - (q.f2.size : Int) < 0
    · exact ⟨-1, Ev.step (f := fun _ => some (-1)) (fun k => by rw [X.laws_szVerdictS.l0, if_pos (by omega), if_pos (by omega), hr]; unfold X.laws_szVerdict.f; rw [ew, if_pos hneg, Option.bind_some, if_pos (by decide)]) (Ev.now _), .inl rfl⟩
    · obtain ⟨t, ht, hp⟩ := ih (i + 1) (a - (q.f2.size : Int)) (by omega) (by omega) (by omega) (by omega)
      refine ⟨t, Ev.step (f := fun k => X.laws_szVerdictS.l0 k xs (a - (q.f2.size : Int)) ((i + 1 : Nat) : Int)) (fun k => ?_) ht, ?_⟩
      · rw [X.laws_szVerdictS.l0, if_pos (by omega), if_pos (by omega), hr]; unfold X.laws_szVerdict.f; rw [ew, if_neg hneg, Option.bind_some, if_neg hneg, inc i (by omega)]
      · rcases hp with hp | ⟨p0, p1⟩
        · exact .inl hp
        · exact .inr ⟨p0, by omega⟩
theorem szV_f (xs : List X.S87) (hl : xs.length ≤ maxLen) (hx : ∀ p ∈ xs, p.f2.size ≤ maxLen) (a : Int) (h0 : 0 ≤ a) (h1 : a ≤ 1048576) : ∃ t, Ev (fun k => X.laws_szVerdictS.f k xs a) t ∧ Sz xs.length a t := by
  simp only [maxLen] at hl
  have ew : wrap64 (a - (xs.length : Int)) = a - (xs.length : Int) := wrap_id _ (by omega) (by omega)
  by_cases hneg : a - (xs.length : Int) < 0
  · exact ⟨-1, Ev.congr (f := fun _ => some (-1)) (fun k => by unfold X.laws_szVerdictS.f; rw [ew, if_pos hneg]) (Ev.now _), .inl rfl⟩
  · obtain ⟨t, ht, hp⟩ := szV_l0 xs (by omega) hx xs.length 0 (a - (xs.length : Int)) (by omega) (by omega) (by omega) (by omega)
    refine ⟨t, Ev.congr (f := fun k => X.laws_szVerdictS.l0 k xs (a - (xs.length : Int)) 0) (fun k => by unfold X.laws_szVerdictS.f; rw [ew, if_neg hneg]) ht, ?_⟩
    rcases hp with hp | ⟨p0, p1⟩
    · exact .inl hp
    · exact .inr ⟨p0, by omega⟩
/-- What is known of an item. -/
def WI (x : LI) : Prop := x.f0.f2.size ≤ maxLen ∧ (x.f0.f3.length ≤ maxLen ∧ ∀ p ∈ x.f0.f3, p.size ≤ maxLen) ∧ x.f0.f4.size ≤ maxLen ∧ x.f1.length ≤ maxLen ∧ ∀ p ∈ x.f1, p.f2.size ≤ maxLen
theorem szM_f (x : LI) (w : WI x) (a : Int) (h0 : 0 ≤ a) (h1 : a ≤ 1048576) : ∃ t, Ev (fun k => X.laws_szMessage.f k x.f0.f0 x.f0.f1 x.f0.f2 x.f0.f3 x.f0.f4 a) t ∧ Sz x.f0.f3.length a t := by
  obtain ⟨w2, ⟨w3, w3'⟩, w4, _, _⟩ := w
  simp only [maxLen] at w2 w4
  have ew : wrap64 (a - (x.f0.f2.size : Int)) = a - (x.f0.f2.size : Int) := wrap_id _ (by omega) (by omega)
  by_cases hneg : a - (x.f0.f2.size : Int) < 0
  · exact ⟨-1, Ev.congr (f := fun _ => some (-1)) (fun k => by unfold X.laws_szMessage.f; rw [ew, if_pos hneg]) (Ev.now _), .inl rfl⟩
  · obtain ⟨t, ht, hp⟩ := szS_f x.f0.f3 w3 w3' (a - (x.f0.f2.size : Int)) (by omega) (by omega)
    rcases hp with rfl | ⟨p0, p1⟩
    · exact ⟨-1, Ev.congr (f := fun k => (X.laws_szStringS.f k x.f0.f3 (a - (x.f0.f2.size : Int))).bind fun t103 => if t103 < 0 then some (-1) else if wrap64 (t103 - (x.f0.f4.size : Int)) < 0 then some (-1) else some (wrap64 (t103 - (x.f0.f4.size : Int)))) (fun k => by unfold X.laws_szMessage.f; rw [ew, if_neg hneg]) (Ev.bind ht (Ev.congr (f := fun _ => some (-1)) (fun k => by rw [if_pos (by decide)]) (Ev.now _))), .inl rfl⟩
    · have ew2 : wrap64 (t - (x.f0.f4.size : Int)) = t - (x.f0.f4.size : Int) := wrap_id _ (by omega) (by omega)
      by_cases hn2 : t - (x.f0.f4.size : Int) < 0
      · exact ⟨-1, Ev.congr (f := fun k => (X.laws_szStringS.f k x.f0.f3 (a - (x.f0.f2.size : Int))).bind fun t103 => if t103 < 0 then some (-1) else if wrap64 (t103 - (x.f0.f4.size : Int)) < 0 then some (-1) else some (wrap64 (t103 - (x.f0.f4.size : Int)))) (fun k => by unfold X.laws_szMessage.f; rw [ew, if_neg hneg]) (Ev.bind ht (Ev.congr (f := fun _ => some (-1)) (fun k => by rw [if_neg (by omega), ew2, if_pos hn2]) (Ev.now _))), .inl rfl⟩
      · exact ⟨t - (x.f0.f4.size : Int), Ev.congr (f := fun k => (X.laws_szStringS.f k x.f0.f3 (a - (x.f0.f2.size : Int))).bind fun t103 => if t103 < 0 then some (-1) else if wrap64 (t103 - (x.f0.f4.size : Int)) < 0 then some (-1) else some (wrap64 (t103 - (x.f0.f4.size : Int)))) (fun k => by unfold X.laws_szMessage.f; rw [ew, if_neg hneg]) (Ev.bind ht (Ev.congr (f := fun _ => some (t - (x.f0.f4.size : Int))) (fun k => by rw [if_neg (by omega), ew2, if_neg hn2]) (Ev.now _))), .inr ⟨by omega, by omega⟩⟩
theorem szI_f (x : LI) (w : WI x) (a : Int) (h0 : 0 ≤ a) (h1 : a ≤ 1048576) : ∃ t, Ev (fun k => X.laws_szItem.f k x.f0.f0 x.f0.f1 x.f0.f2 x.f0.f3 x.f0.f4 x.f1 x.f2 x.f3 x.f4 a) t ∧ Sz (x.f0.f3.length + x.f1.length) a t := by
  obtain ⟨t, ht, hp⟩ := szM_f x w a h0 h1
  unfold X.laws_szItem.f
  rcases hp with rfl | ⟨p0, p1⟩
  · exact ⟨-1, Ev.bind ht (Ev.congr (f := fun _ => some (-1)) (fun k => by rw [if_pos (by decide)]) (Ev.now _)), .inl rfl⟩
  · obtain ⟨t2, ht2, hp2⟩ := szV_f x.f1 w.2.2.2.1 w.2.2.2.2 t p0 (by omega)
    rcases hp2 with rfl | ⟨q0, q1⟩
    · exact ⟨-1, Ev.bind ht (Ev.congr (f := fun k => (X.laws_szVerdictS.f k x.f1 t).bind fun t109 => if t109 < 0 then some (-1) else some t109) (fun k => by rw [if_neg (by omega)]) (Ev.bind ht2 (Ev.congr (f := fun _ => some (-1)) (fun k => by rw [if_pos (by decide)]) (Ev.now _)))), .inl rfl⟩
    · exact ⟨t2, Ev.bind ht (Ev.congr (f := fun k => (X.laws_szVerdictS.f k x.f1 t).bind fun t109 => if t109 < 0 then some (-1) else some t109) (fun k => by rw [if_neg (by omega)]) (Ev.bind ht2 (Ev.congr (f := fun _ => some t2) (fun k => by rw [if_neg (by omega)]) (Ev.now _)))), .inr ⟨q0, by omega⟩⟩
/-- The weights of the items' inner rows. -/
def wt : List LI → Nat
  | [] => 0
  | x :: r => x.f0.f3.length + x.f1.length + wt r
theorem szIS_l0 (xs : List LI) (hl : xs.length ≤ 1048576) (hx : ∀ p ∈ xs, WI p) : ∀ (n i : Nat) (a : Int), xs.length - i = n → i ≤ xs.length → 0 ≤ a → a ≤ 1048576 →
    ∃ t, Ev (fun k => X.laws_szItemS.l0 k xs a (i : Int)) t ∧ Sz (wt (xs.drop i)) a t := by
  intro n
  induction n with
  | zero =>
    intro i a hn hi h0 h1
    exact ⟨a, Ev.step (f := fun _ => some a) (fun k => by rw [X.laws_szItemS.l0, if_neg (by omega)]) (Ev.now _), .inr ⟨h0, by rw [List.drop_of_length_le (by omega)]; simp [wt]⟩⟩
  | succ n ih =>
    intro i a hn hi h0 h1
    have hi' : i < xs.length := by omega
    have hr := rdLI xs i hi'
    have hz := hx _ (List.getElem_mem hi')
    rw [List.drop_eq_getElem_cons hi', wt]
    generalize xs[i] = q at hr hz ⊢
    obtain ⟨t, ht, hp⟩ := szI_f q hz a h0 h1
    rcases hp with rfl | ⟨p0, p1⟩
    · refine ⟨-1, Ev.step (fun k => ?_) (Ev.bind (f := fun k t111 => if t111 < 0 then some (-1) else X.laws_szItemS.l0 k xs t111 (wrap64 ((i : Int) + 1))) ht (Ev.congr (f := fun _ => some (-1)) (fun k => by rw [if_pos (by decide)]) (Ev.now _))), .inl rfl⟩
      rw [X.laws_szItemS.l0, if_pos (by omega), if_pos (by omega), hr]
    · obtain ⟨t2, ht2, hp2⟩ := ih (i + 1) t (by omega) (by omega) p0 (by omega)
      refine ⟨t2, Ev.step (fun k => ?_) (Ev.bind (f := fun k t111 => if t111 < 0 then some (-1) else X.laws_szItemS.l0 k xs t111 (wrap64 ((i : Int) + 1))) ht (Ev.congr (f := fun k => X.laws_szItemS.l0 k xs t ((i + 1 : Nat) : Int)) (fun k => by rw [if_neg (by omega), inc i (by omega)]) ht2)), ?_⟩
      · rw [X.laws_szItemS.l0, if_pos (by omega), if_pos (by omega), hr]
      · rcases hp2 with hp2 | ⟨q0, q1⟩
        · exact .inl hp2
        · exact .inr ⟨q0, by omega⟩
theorem szQ_f (xs : List LI) (next : Int) (hl : xs.length ≤ maxLen) (hx : ∀ p ∈ xs, WI p) : ∃ t, Ev (fun k => X.laws_szQueue.f k xs next 1048576) t ∧ Sz (xs.length + wt xs) 1048576 t := by
  simp only [maxLen] at hl
  have ew : wrap64 (1048576 - (xs.length : Int)) = 1048576 - (xs.length : Int) := wrap_id _ (by omega) (by omega)
  have key : ∃ t, Ev (fun k => X.laws_szItemS.f k xs 1048576) t ∧ Sz (xs.length + wt xs) 1048576 t := by
    by_cases hneg : 1048576 - (xs.length : Int) < 0
    · exact ⟨-1, Ev.congr (f := fun _ => some (-1)) (fun k => by unfold X.laws_szItemS.f; rw [ew, if_pos hneg]) (Ev.now _), .inl rfl⟩
    · obtain ⟨t, ht, hp⟩ := szIS_l0 xs (by omega) hx xs.length 0 (1048576 - (xs.length : Int)) (by omega) (by omega) (by omega) (by omega)
      refine ⟨t, Ev.congr (f := fun k => X.laws_szItemS.l0 k xs (1048576 - (xs.length : Int)) 0) (fun k => by unfold X.laws_szItemS.f; rw [ew, if_neg hneg]) ht, ?_⟩
      rw [List.drop_zero] at hp
      rcases hp with hp | ⟨p0, p1⟩
      · exact .inl hp
      · exact .inr ⟨p0, by omega⟩
  obtain ⟨t, ht, hp⟩ := key
  refine ⟨t, ?_, hp⟩
  unfold X.laws_szQueue.f
  refine Ev.bind ht (Ev.congr (f := fun _ => some t) (fun k => ?_) (Ev.now _))
  rcases hp with rfl | ⟨p0, p1⟩
  · rw [if_pos (by decide)]
  · rw [if_neg (by omega)]
end Go.Proofs.Ytnhhbdhkhdbanaa.Pure
