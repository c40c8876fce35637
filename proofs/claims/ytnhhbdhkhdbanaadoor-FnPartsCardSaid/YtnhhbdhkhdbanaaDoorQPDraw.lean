/- The draws: a reader's next byte, a filling, a spoilt text: each answers, and is short. Plain Lean. -/
import Derived.Test.YtnhhbdhkhdbanaaDoorQX6
import Derived.Test.YtnhhbdhkhdbanaaDoorQX6
import Derived.Test.YtnhhbdhkhdbanaaDoorQX8
import Derived.Test.YtnhhbdhkhdbanaaDoorQX7
import Derived.Test.YtnhhbdhkhdbanaaDoorQPBas
namespace Go.Proofs.YtnhhbdhkhdbanaaDoor.Pure
open Go Go.RowKit Go.Proofs.YtnhhbdhkhdbanaaDoorW.PrintWords
set_option linter.unusedVariables false
set_option linter.unusedSimpArgs false
def Bytes (l : List Int) : Prop := l.length ≤ 1048576 ∧ ∀ x ∈ l, 0 ≤ x ∧ x ≤ 255
theorem rd_byte (l : List Int) (i : Nat) (h : i < l.length) : rd l (i : Int) = l[i] := by
  unfold rd; rw [Int.toNat_natCast, List.getD_eq_getElem?_getD, List.getElem?_eq_getElem h]; rfl
theorem next_f (l : List Int) (hl : Bytes l) (p : Nat) (hp : p ≤ l.length) : ∃ (c : Int) (p' : Nat), X.spec_l1rd_next.f l (p : Int) = some (c, (p' : Int)) ∧ 0 ≤ c ∧ c ≤ 255 ∧ p' ≤ l.length := by
  obtain ⟨h1, h2⟩ := hl
  unfold X.spec_l1rd_next.f
  by_cases h : p = l.length
  · exact ⟨0, p, by rw [if_pos (by omega)], by decide, by decide, hp⟩
  · have hi : p < l.length := by omega
    have hx := h2 _ (List.getElem_mem hi)
    refine ⟨l[p], p + 1, ?_, hx.1, hx.2, hi⟩
    rw [if_neg (by omega), if_pos (by omega), if_pos (by omega), rd_byte l p hi, wrap_id _ (by omega) (by omega), wrap_id ((p : Int) + 1) (by omega) (by omega)]
    congr 2
theorem two_f (l : List Int) (hl : Bytes l) (p : Nat) (hp : p ≤ l.length) : ∃ (c : Int) (p' : Nat), X.spec_l1rd_two.f l (p : Int) = some (c, (p' : Int)) ∧ 0 ≤ c ∧ c ≤ 65535 ∧ p' ≤ l.length := by
  obtain ⟨a, p1, e1, a0, a1, b1⟩ := next_f l hl p hp
  obtain ⟨b, p2, e2, c0, c1, b2⟩ := next_f l hl p1 b1
  refine ⟨a * 256 + b, p2, ?_, by omega, by omega, b2⟩
  unfold X.spec_l1rd_two.f
  rw [e1, Option.bind_some]
  show (X.spec_l1rd_next.f l (p1 : Int)).bind _ = _
  rw [e2, Option.bind_some, wrap_id (a * 256) (by omega) (by omega), wrap_id _ (by omega) (by omega)]
theorem nums_size (ys : List Int) : (strOfNums ys).size = ys.length := by
  unfold strOfNums; simp [ByteArray.size]
theorem fill_l0 (m : Nat) (hm : m ≤ 1048576) : ∀ (n i : Nat) (ys : List Int), m - i = n → i ≤ m → ys.length = m → ∃ r, Ev (fun k => X.spec_l1fill.l0 k ys (m : Int) (i : Int)) r ∧ r.size = m := by
  intro n
  induction n with
  | zero =>
    intro i ys hn hi hy
    exact ⟨strOfNums ys, Ev.step (f := fun _ => some (strOfNums ys)) (fun k => by rw [X.spec_l1fill.l0, if_neg (by omega)]) (Ev.now _), by rw [nums_size, hy]⟩
  | succ n ih =>
    intro i ys hn hi hy
    have e2 : wrap64 ((i : Int) + 1) = ((i + 1 : Nat) : Int) := by rw [wrap_id _ (by omega) (by omega)]; omega
    obtain ⟨r, h1, h2⟩ := ih (i + 1) (ys.set i ((wrap64 (97 + (Int.tmod (i : Int) 26))) % 256)) (by omega) (by omega) (by rw [List.length_set]; exact hy)
    refine ⟨r, Ev.step (fun k => ?_) h1, h2⟩
    rw [X.spec_l1fill.l0, if_pos (by omega), if_pos (by omega), if_pos (by omega), e2, Int.toNat_natCast]
theorem fill_f (m : Nat) (hm : m ≤ 1048576) : ∃ r, Ev (fun k => X.spec_l1fill.f k (m : Int)) r ∧ r.size = m := by
  obtain ⟨r, h1, h2⟩ := fill_l0 m hm m 0 (List.replicate m 0) (by omega) (by omega) (by simp)
  have hl : (List.replicate m (0 : Int)).length = m := by simp
  refine ⟨r, Ev.congr (f := fun k => X.spec_l1fill.j0 k (m : Int)) (fun k => by unfold X.spec_l1fill.f; rw [if_neg (by omega)]) (Ev.step (f := fun k => X.spec_l1fill.l0 k (List.replicate m 0) (m : Int) 0) (fun k => ?_) h1), h2⟩
  rw [X.spec_l1fill.j0, if_pos (by omega), Int.toNat_natCast, if_pos (by omega), Option.bind_some, hl]
def pcs : List ByteArray := [⟨#[]⟩, ⟨#[64]⟩, ⟨#[46]⟩, ⟨#[45]⟩, ⟨#[46, 46]⟩, ⟨#[65]⟩, ⟨#[13]⟩, ⟨#[10]⟩, ⟨#[13, 10]⟩, ⟨#[32]⟩, ⟨#[0]⟩, ⟨#[48]⟩, ⟨#[50, 53, 48, 32, 111, 107, 13, 10]⟩, ⟨#[120]⟩]
theorem pcs_get (j : Int) (h0 : 0 ≤ j) (h1 : j < 14) : (rdOf ByteArray.empty pcs j).size ≤ 8 := by
  obtain ⟨i, rfl⟩ : ∃ i : Nat, j = (i : Int) := ⟨j.toNat, by omega⟩
  have hi : i < pcs.length := by show i < 14; omega
  rw [rd_get pcs i hi]
  have : ∀ p ∈ pcs, p.size ≤ 8 := by
    intro p hp
    unfold pcs at hp
    simp only [List.mem_cons, List.not_mem_nil, or_false] at hp
    rcases hp with h | h | h | h | h | h | h | h | h | h | h | h | h | h <;> subst h <;> decide
  exact this _ (List.getElem_mem hi)
theorem tmod_pos (a b : Int) (ha : 0 ≤ a) : Int.tmod a b = a % b := Int.tmod_eq_emod_of_nonneg ha
theorem tdiv_pos (a b : Int) (ha : 0 ≤ a) : Int.tdiv a b = a / b := Int.tdiv_eq_ediv_of_nonneg ha
theorem spoil_f (l : List Int) (hl : Bytes l) (p : Nat) (hp : p ≤ l.length) (s : ByteArray) (hs : s.size ≤ 1048576) : ∃ (r : ByteArray) (p' : Nat), X.spec_l1rd_l2spoil.f l (p : Int) s = some (r, (p' : Int)) ∧ r.size ≤ s.size + s.size + 8 ∧ p' ≤ l.length := by
  unfold X.spec_l1rd_l2spoil.f
  by_cases h0 : (s.size : Int) > 0
  · obtain ⟨a, p1, e1, a0, a1, b1⟩ := two_f l hl p hp
    obtain ⟨c, p2, e2, c0, c1, b2⟩ := next_f l hl p1 b1
    rw [if_pos h0, e1, Option.bind_some, if_neg (by omega)]
    simp only [e2, Option.bind_some]
    have m1 : Int.tmod a (s.size : Int) = a % (s.size : Int) := tmod_pos _ _ a0
    have m2 : Int.tmod c 14 = c % 14 := tmod_pos _ _ c0
    have d1 : Int.tdiv c 64 = c / 64 := tdiv_pos _ _ c0
    have d2 : wrap64 (c / 64) = c / 64 := wrap_id _ (by omega) (by omega)
    have d3 : Int.tmod (c / 64) 3 = c / 64 % 3 := tmod_pos _ _ (by omega)
    have n0 : 0 ≤ a % (s.size : Int) := Int.emod_nonneg _ (by omega)
    have n1 : a % (s.size : Int) < (s.size : Int) := Int.emod_lt_of_pos _ h0
    have d4 : wrap64 (a % (s.size : Int) + c / 64 % 3) = a % (s.size : Int) + c / 64 % 3 := wrap_id _ (by omega) (by omega)
    rw [m1, m2, d1, d2, d3, d4]
    have hq := pcs_get (c % 14) (by omega) (by omega)
    unfold pcs at hq
    generalize hA : a % (s.size : Int) = A at *
    obtain ⟨A', rfl⟩ : ∃ i : Nat, A = (i : Int) := ⟨A.toNat, by omega⟩
    generalize rdOf ByteArray.empty _ (c % 14) = q at hq ⊢
    have z1 : (s.extract 0 A').size = A' := by rw [ByteArray.size_extract]; omega
    rw [if_pos (by omega), if_pos (by simp; omega)]
    by_cases hc : (A' : Int) + c / 64 % 3 > (s.size : Int)
    · rw [if_pos hc, if_pos (by omega), if_pos (by omega), Int.toNat_natCast, Int.toNat_natCast, if_pos (by omega), if_pos (by omega), if_pos (by omega)]
      have z2 : (s.extract s.size s.size).size = 0 := by rw [ByteArray.size_extract]; omega
      have z3 : (s.extract 0 A' ++ q).size = A' + q.size := by rw [ByteArray.size_append, z1]
      rw [if_pos (by omega)]
      exact ⟨_, p2, rfl, by rw [ByteArray.size_append, z3, z2]; omega, b2⟩
    · rw [if_neg hc, if_pos (by omega), if_pos (by omega), Int.toNat_natCast, if_pos (by omega), if_pos (by omega), if_pos (by omega)]
      have z2 : (s.extract ((A' : Int) + c / 64 % 3).toNat s.size).size ≤ s.size := by rw [ByteArray.size_extract]; omega
      have z3 : (s.extract 0 A' ++ q).size = A' + q.size := by rw [ByteArray.size_append, z1]
      rw [if_pos (by omega)]
      exact ⟨_, p2, rfl, by rw [ByteArray.size_append, z3]; omega, b2⟩
  · obtain ⟨c, p2, e2, c0, c1, b2⟩ := next_f l hl p hp
    rw [if_neg h0, e2]
    simp only [Option.bind_some]
    have m2 : Int.tmod c 14 = c % 14 := tmod_pos _ _ c0
    have d1 : Int.tdiv c 64 = c / 64 := tdiv_pos _ _ c0
    have d2 : wrap64 (c / 64) = c / 64 := wrap_id _ (by omega) (by omega)
    have d3 : Int.tmod (c / 64) 3 = c / 64 % 3 := tmod_pos _ _ (by omega)
    have d4 : wrap64 (0 + c / 64 % 3) = c / 64 % 3 := by rw [wrap_id _ (by omega) (by omega)]; omega
    rw [m2, d1, d2, d3, d4]
    have hq := pcs_get (c % 14) (by omega) (by omega)
    unfold pcs at hq
    generalize rdOf ByteArray.empty _ (c % 14) = q at hq ⊢
    have hz : s.size = 0 := by omega
    have z1 : (s.extract 0 0).size = 0 := by rw [ByteArray.size_extract]; omega
    have z3 : (s.extract 0 0 ++ q).size = q.size := by rw [ByteArray.size_append, z1]; omega
    rw [if_pos (by omega), if_pos (by simp; omega)]
    by_cases hc : c / 64 % 3 > (s.size : Int)
    · have z2 : (s.extract s.size s.size).size = 0 := by rw [ByteArray.size_extract]; omega
      rw [if_pos hc, if_pos (by omega), if_pos (by omega), if_pos (by omega), if_pos (by omega), Int.toNat_natCast, if_pos (by omega)]
      exact ⟨_, p2, rfl, by rw [ByteArray.size_append, z3, z2]; omega, b2⟩
    · have z2 : (s.extract (c / 64 % 3).toNat s.size).size ≤ s.size := by rw [ByteArray.size_extract]; omega
      rw [if_neg hc, if_pos (by omega), if_pos (by omega), if_pos (by omega), if_pos (by omega), if_pos (by omega), if_pos (by omega)]
      exact ⟨_, p2, rfl, by rw [ByteArray.size_append, z3]; omega, b2⟩
end Go.Proofs.YtnhhbdhkhdbanaaDoor.Pure
