/- A heap of due items, pushed and popped one by one, gives what is chosen by the least key again and again. Plain Lean. -/
import Derived.Test.YtnhhbdhkhdbanaaUHp9
namespace Go.Proofs.Ytnhhbdhkhdbanaa.Pure
open Go Go.RowKit Go.Proofs.YtnhhbdhkhdbanaaW.PrintWords
set_option linter.unusedVariables false
set_option linter.unusedSimpArgs false
abbrev DU := X.S55
/-- The element at a place. -/
def el (l : List DU) (j : Nat) : DU := l.getD j X.z55
theorem rd_el (l : List DU) (j : Nat) : X.rd_T55 l (j : Int) = el l j := rfl
def lt3 (a b : DU) : Prop := a.f0 < b.f0 ∨ (a.f0 = b.f0 ∧ (a.f1 < b.f1 ∨ (a.f1 = b.f1 ∧ a.f2 < b.f2)))
theorem ltD_iff (a b : DU) : X.ltD a b = true ↔ lt3 a b := by
  unfold X.ltD lt3
  split
  · split
    · rw [decide_eq_true_iff]; omega
    · rw [decide_eq_true_iff]; omega
  · rw [decide_eq_true_iff]; omega
theorem ltD_no (a b : DU) : X.ltD a b = false ↔ ¬ lt3 a b := by rw [← ltD_iff]; cases X.ltD a b <;> simp
/-- a stands not behind b. -/
def le3 (a b : DU) : Prop := ¬ lt3 b a
theorem le3_refl (a : DU) : le3 a a := by unfold le3 lt3; omega
theorem le3_trans {a b c : DU} (h : le3 a b) (k : le3 b c) : le3 a c := by unfold le3 lt3 at *; omega
theorem le3_of_lt {a b : DU} (h : lt3 a b) : le3 a b := by unfold le3 lt3 at *; omega
theorem le3_antisymm {a b : DU} (h : le3 a b) (k : le3 b a) : a = b := by
  unfold le3 lt3 at *
  obtain ⟨a0, a1, a2⟩ := a
  obtain ⟨b0, b1, b2⟩ := b
  simp only at h k
  have e0 : a0 = b0 := by omega
  have e1 : a1 = b1 := by omega
  have e2 : a2 = b2 := by omega
  rw [e0, e1, e2]
theorem el_eq {l : List DU} {j : Nat} (h : j < l.length) : el l j = l[j] := by
  unfold el; rw [List.getD_eq_getElem?_getD, List.getElem?_eq_getElem h]; rfl
theorem el_mem {l : List DU} {j : Nat} (h : j < l.length) : el l j ∈ l := by rw [el_eq h]; exact List.getElem_mem h
theorem swp_el (l : List DU) (i j m : Nat) (hi : i < l.length) (hj : j < l.length) : el (X.swpD l (i : Int) (j : Int)) m = if m = j then el l i else if m = i then el l j else el l m := by
  unfold X.swpD
  rw [rd_el, rd_el, Int.toNat_natCast, Int.toNat_natCast]
  unfold el
  rw [List.getD_eq_getElem?_getD, List.getElem?_set]
  by_cases h1 : j = m
  · subst h1
    rw [if_pos rfl, if_pos rfl, List.length_set, if_pos hj]; rfl
  · rw [if_neg h1, if_neg (fun e => h1 e.symm), List.getElem?_set]
    by_cases h2 : i = m
    · subst h2
      rw [if_pos rfl, if_pos rfl, if_pos hi]; rfl
    · rw [if_neg h2, if_neg (fun e => h2 e.symm), List.getD_eq_getElem?_getD]
theorem swp_perm (l : List DU) (i j : Nat) (hi : i < l.length) (hj : j < l.length) : (X.swpD l (i : Int) (j : Int)).Perm l := by
  unfold X.swpD
  rw [rd_el, rd_el, Int.toNat_natCast, Int.toNat_natCast, el_eq hi, el_eq hj]
  exact List.set_set_perm hi hj
theorem swp_len (l : List DU) (i j : Nat) : (X.swpD l (i : Int) (j : Int)).length = l.length := X.swpD_length _ _ _
/-- The first n elements are a heap. -/
def Heap (n : Nat) (l : List DU) : Prop := ∀ i, 0 < i → i < n → le3 (el l ((i - 1) / 2)) (el l i)
theorem heap_min {n : Nat} {l : List DU} (h : Heap n l) : ∀ i, i < n → le3 (el l 0) (el l i) := by
  intro i
  induction i using Nat.strongRecOn with
  | _ i ih =>
    intro hi
    by_cases h0 : i = 0
    · subst h0; exact le3_refl _
    · exact le3_trans (ih ((i - 1) / 2) (by omega) (by omega)) (h i (by omega) hi)
theorem up_ok : ∀ (k : Nat) (l : List DU) (j : Nat), j < k → j < l.length → (∀ i, 0 < i → i < l.length → i ≠ j → le3 (el l ((i - 1) / 2)) (el l i)) →
    (∀ i, 0 < i → i < l.length → (i - 1) / 2 = j → 0 < j → le3 (el l ((j - 1) / 2)) (el l i)) → Heap l.length (X.upL k l j) ∧ (X.upL k l j).Perm l := by
  intro k
  induction k with
  | zero => intro l j hj; omega
  | succ k ih =>
    intro l j hk hj h1 h2
    rw [X.upL]
    by_cases c : (j - 1) / 2 = j
    · rw [if_pos c]
      have hj0 : j = 0 := by omega
      exact ⟨fun i hi hl => h1 i hi hl (by omega), List.Perm.refl _⟩
    · rw [if_neg c, rd_el, rd_el]
      have hp : (j - 1) / 2 < l.length := by omega
      by_cases d : X.ltD (el l j) (el l ((j - 1) / 2)) = true
      · rw [if_pos d]
        have hlt := le3_of_lt ((ltD_iff _ _).1 d)
        have hS := swp_el l ((j - 1) / 2) j
        have hn := swp_len l ((j - 1) / 2) j
        have hperm := swp_perm l ((j - 1) / 2) j hp hj
        generalize hX : X.swpD l (((j - 1) / 2 : Nat) : Int) (j : Int) = l' at hS hn hperm ⊢
        have R := ih l' ((j - 1) / 2) (by omega) (by omega) ?_ ?_
        · rw [hn] at R; exact ⟨R.1, R.2.trans hperm⟩
        · intro i hi hl hne
          rw [hS _ hp hj, hS _ hp hj]
          by_cases e1 : i = j
          · subst e1
            rw [if_neg (by omega), if_pos rfl, if_pos rfl]; exact hlt
          · rw [if_neg e1, if_neg hne]
            by_cases e2 : (i - 1) / 2 = j
            · rw [if_pos e2]; exact h2 i hi (by omega) e2 (by omega)
            · rw [if_neg e2]
              by_cases e3 : (i - 1) / 2 = (j - 1) / 2
              · rw [if_pos e3]; exact le3_trans hlt (e3 ▸ h1 i hi (by omega) e1)
              · rw [if_neg e3]; exact h1 i hi (by omega) e1
        · intro i hi hl he h0
          rw [hS _ hp hj, hS _ hp hj, if_neg (by omega), if_neg (by omega)]
          have hpp := h1 ((j - 1) / 2) h0 hp (by omega)
          by_cases e1 : i = j
          · rw [if_pos e1]; exact hpp
          · rw [if_neg e1, if_neg (by omega)]
            exact le3_trans hpp (he ▸ h1 i hi (by omega) e1)
      · rw [if_neg d]
        refine ⟨fun i hi hl => ?_, List.Perm.refl _⟩
        by_cases e : i = j
        · subst e; exact (ltD_no _ _).1 (by simpa using d)
        · exact h1 i hi hl e
theorem down_ok : ∀ (k : Nat) (l : List DU) (i n : Nat), n - i < k → n ≤ l.length → i < l.length → (∀ c, 0 < c → c < n → (c - 1) / 2 ≠ i → le3 (el l ((c - 1) / 2)) (el l c)) →
    (∀ c, 0 < c → c < n → (c - 1) / 2 = i → 0 < i → le3 (el l ((i - 1) / 2)) (el l c)) → Heap n (X.downL k l i n) ∧ (X.downL k l i n).Perm l ∧ ∀ m, n ≤ m → m ≠ i → el (X.downL k l i n) m = el l m := by
  intro k
  induction k with
  | zero => intro l i n h; omega
  | succ k ih =>
    intro l i n hk hn hi h1 h2
    rw [X.downL]
    have e1 : (2 * (i : Int) + 1) = ((2 * i + 1 : Nat) : Int) := by omega
    have e2 : (2 * (i : Int) + 1 + 1) = ((2 * i + 2 : Nat) : Int) := by omega
    rw [e2, e1, rd_el, rd_el, rd_el]
    have step : ∀ j, (j = 2 * i + 1 ∨ j = 2 * i + 2) → j < n → (∀ c, c < n → (c = 2 * i + 1 ∨ c = 2 * i + 2) → le3 (el l j) (el l c)) →
        Heap n (if X.ltD (el l j) (el l i) = true then X.downL k (X.swpD l (i : Int) (j : Int)) j n else l) ∧ (if X.ltD (el l j) (el l i) = true then X.downL k (X.swpD l (i : Int) (j : Int)) j n else l).Perm l ∧
          ∀ m, n ≤ m → m ≠ i → el (if X.ltD (el l j) (el l i) = true then X.downL k (X.swpD l (i : Int) (j : Int)) j n else l) m = el l m := by
      intro j hj hjn hmin
      have hjl : j < l.length := by omega
      by_cases d : X.ltD (el l j) (el l i) = true
      · rw [if_pos d]
        have hlt := le3_of_lt ((ltD_iff _ _).1 d)
        have hS := swp_el l i j
        have hln := swp_len l i j
        have hperm := swp_perm l i j hi hjl
        generalize X.swpD l (i : Int) (j : Int) = l' at hS hln hperm ⊢
        have R := ih l' j n (by omega) (by omega) (by omega) ?_ ?_
        · refine ⟨R.1, R.2.1.trans hperm, fun m hm hmi => ?_⟩
          rw [R.2.2 m hm (by omega), hS _ hi hjl, if_neg (by omega), if_neg hmi]
        · intro c hc hcn hne
          rw [hS _ hi hjl, hS _ hi hjl, if_neg hne]
          by_cases q1 : c = j
          · rw [if_pos q1, if_pos (by omega)]; exact hlt
          · rw [if_neg q1]
            by_cases q2 : c = i
            · rw [if_pos q2, if_neg (by omega), q2]
              exact h2 j (by omega) hjn (by omega) (by omega)
            · rw [if_neg q2]
              by_cases q3 : (c - 1) / 2 = i
              · rw [if_pos q3]; exact hmin c hcn (by omega)
              · rw [if_neg q3]; exact h1 c hc hcn q3
        · intro c hc hcn he h0
          rw [hS _ hi hjl, hS _ hi hjl, if_neg (by omega), if_pos (by omega), if_neg (by omega), if_neg (by omega)]
          exact he ▸ h1 c hc hcn (by omega)
      · rw [if_neg d]
        refine ⟨fun c hc hcn => ?_, List.Perm.refl _, fun _ _ _ => rfl⟩
        by_cases q : (c - 1) / 2 = i
        · rw [q]
          exact le3_trans ((ltD_no _ _).1 (by simpa using d)) (hmin c hcn (by omega))
        · exact h1 c hc hcn q
    by_cases c1 : (n : Int) ≤ ((2 * i + 1 : Nat) : Int)
    · rw [if_pos c1]
      exact ⟨fun c hc hcn => h1 c hc hcn (by omega), List.Perm.refl _, fun _ _ _ => rfl⟩
    · rw [if_neg c1]
      by_cases c2 : ((2 * i + 2 : Nat) : Int) < (n : Int) ∧ X.ltD (el l (2 * i + 2)) (el l (2 * i + 1)) = true
      · rw [if_pos c2]
        refine step (2 * i + 2) (.inr rfl) (by omega) (fun c hcn hc => ?_)
        rcases hc with rfl | rfl
        · exact le3_of_lt ((ltD_iff _ _).1 c2.2)
        · exact le3_refl _
      · rw [if_neg c2]
        refine step (2 * i + 1) (.inl rfl) (by omega) (fun c hcn hc => ?_)
        rcases hc with rfl | rfl
        · exact le3_refl _
        · refine (ltD_no _ _).1 ?_
          cases hq : X.ltD (el l (2 * i + 2)) (el l (2 * i + 1)) with
          | false => rfl
          | true => exact absurd ⟨by omega, hq⟩ c2
end Go.Proofs.Ytnhhbdhkhdbanaa.Pure
