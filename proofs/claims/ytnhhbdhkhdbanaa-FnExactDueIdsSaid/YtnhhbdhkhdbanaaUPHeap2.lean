/- The numbers that the heap gives are those that are chosen by the least key. Plain Lean. -/
import Derived.Test.YtnhhbdhkhdbanaaUPHeap
namespace Go.Proofs.Ytnhhbdhkhdbanaa.Pure
open Go Go.RowKit Go.Proofs.YtnhhbdhkhdbanaaW.PrintWords
set_option linter.unusedVariables false
set_option linter.unusedSimpArgs false
theorem el_app (l : List DU) (x : DU) (j : Nat) (h : j < l.length) : el (l ++ [x]) j = el l j := by
  unfold el; rw [List.getD_eq_getElem?_getD, List.getElem?_append_left h, List.getD_eq_getElem?_getD]
theorem el_take (l : List DU) (n j : Nat) (h : j < n) : el (l.take n) j = el l j := by
  unfold el; rw [List.getD_eq_getElem?_getD, List.getElem?_take, if_pos h, List.getD_eq_getElem?_getD]
theorem push_ok (l : List DU) (x : DU) (h : Heap l.length l) : Heap (X.pushL l x).length (X.pushL l x) ∧ (X.pushL l x).Perm (l ++ [x]) := by
  have hl : (l ++ [x]).length = l.length + 1 := by rw [List.length_append]; rfl
  have R := up_ok (l.length + 1) (l ++ [x]) l.length (Nat.lt_succ_self _) (by omega) (fun i hi hil hne => by
    rw [el_app _ _ _ (by omega), el_app _ _ _ (by omega)]; exact h i hi (by omega)) (fun i hi hil he h0 => by omega)
  unfold X.pushL
  rw [X.upL_length]
  exact R
theorem pop_ok (l : List DU) (h : Heap l.length l) (hp : 0 < l.length) : el (X.sunkL l) (l.length - 1) = el l 0 ∧ Heap (l.length - 1) ((X.sunkL l).take (l.length - 1)) ∧ (el l 0 :: (X.sunkL l).take (l.length - 1)).Perm l := by
  have hS := swp_el l 0 (l.length - 1)
  have hperm := swp_perm l 0 (l.length - 1) hp (by omega)
  have hln := swp_len l 0 (l.length - 1)
  have hd : X.sunkL l = X.downL (l.length - 1 + 1) (X.swpD l ((0 : Nat) : Int) ((l.length - 1 : Nat) : Int)) 0 (l.length - 1) := rfl
  have hlen : (X.sunkL l).length = l.length := by unfold X.sunkL; rw [X.downL_length, X.swpD_length]
  rw [hd] at hlen ⊢
  generalize X.swpD l ((0 : Nat) : Int) ((l.length - 1 : Nat) : Int) = l' at hS hperm hln hlen ⊢
  have R := down_ok (l.length - 1 + 1) l' 0 (l.length - 1) (by omega) (by omega) (by omega) (fun c hc hcn hne => by
    rw [hS _ hp (by omega), hS _ hp (by omega), if_neg (by omega), if_neg hne, if_neg (by omega), if_neg (by omega)]; exact h c hc (by omega)) (fun c hc hcn he h0 => absurd h0 (Nat.lt_irrefl 0))
  generalize X.downL (l.length - 1 + 1) l' 0 (l.length - 1) = D at R hlen ⊢
  have hlast : el D (l.length - 1) = el l 0 := by
    by_cases h1 : l.length = 1
    · have e0 : l.length - 1 = 0 := by omega
      have hm : el l 0 ∈ D := (R.2.1.trans hperm).mem_iff.2 (el_mem hp)
      rw [e0]
      have hD : D = [el D 0] := by
        have : D.length = 1 := by omega
        match D, this with
        | [a], _ => rfl
      rw [hD] at hm
      exact (List.mem_singleton.1 hm).symm
    · rw [R.2.2 _ (Nat.le_refl _) (by omega), hS _ hp (by omega), if_pos rfl]
  refine ⟨hlast, fun i hi hin => ?_, ?_⟩
  · rw [el_take _ _ _ (by omega), el_take _ _ _ hin]; exact R.1 i hi hin
  · have e : D = D.take (l.length - 1) ++ [el l 0] := by
      rw [← hlast, el_eq (by omega)]
      have := (List.take_append_getElem (l := D) (i := l.length - 1) (by omega)).symm
      rw [this.symm]
      exact (List.take_of_length_le (by omega)).symm
    exact ((List.perm_append_singleton _ _).symm.trans (e ▸ List.Perm.refl D)).trans (R.2.1.trans hperm)
/-- An element's key. -/
def kf (e : DU) : Int × Int := (e.f1, e.f0)
theorem kf_getD (E : List DU) (j : Nat) : (E.map kf).getD j (0, 0) = kf (el E j) := by
  unfold el; rw [List.getD_eq_getElem?_getD, List.getD_eq_getElem?_getD, List.getElem?_map]
  cases E[j]? <;> rfl
theorem ltK_iff (a b : DU) : X.ltK (kf a) (kf b) = true ↔ a.f0 < b.f0 ∨ (a.f0 = b.f0 ∧ a.f1 < b.f1) := by
  unfold X.ltK kf
  simp only [Bool.or_eq_true, Bool.and_eq_true, decide_eq_true_iff, beq_iff_eq]
/-- The places rise. -/
def Rise (E : List DU) : Prop := ∀ i j, i < j → j < E.length → (el E i).f2 < (el E j).f2
theorem best_ok (E : List DU) (hR : Rise E) : ∀ (k b i : Nat), i + k = E.length → (b < i ∨ b = 0 ∧ i = 0) → (∀ j, j < i → le3 (el E b) (el E j)) → 0 < E.length →
    ∀ j, j < E.length → le3 (el E (X.bestK (E.map kf) k b i)) (el E j) := by
  intro k
  induction k with
  | zero => intro b i he hb hm hp j hj; exact hm j (by omega)
  | succ k ih =>
    intro b i he hb hm hp
    rw [X.bestK, kf_getD, kf_getD]
    by_cases d : X.ltK (kf (el E i)) (kf (el E b)) = true
    · rw [if_pos d]
      have hd := (ltK_iff _ _).1 d
      have hlt : lt3 (el E i) (el E b) := by unfold lt3; omega
      refine ih i (i + 1) (by omega) (.inl (by omega)) (fun j hj => ?_) hp
      by_cases e : j = i
      · rw [e]; exact le3_refl _
      · exact le3_trans (le3_of_lt hlt) (hm j (by omega))
    · rw [if_neg d]
      refine ih b (i + 1) (by omega) (.inl (by omega)) (fun j hj => ?_) hp
      by_cases e : j = i
      · subst e
        rcases hb with hb | ⟨hb, h0⟩
        · have hpl := hR b j hb (by omega)
          have hd : ¬ ((el E j).f0 < (el E b).f0 ∨ ((el E j).f0 = (el E b).f0 ∧ (el E j).f1 < (el E b).f1)) := fun q => d ((ltK_iff _ _).2 q)
          unfold le3 lt3; omega
        · rw [hb, h0]; exact le3_refl _
      · exact hm j (by omega)
theorem rise_drop (E : List DU) (hR : Rise E) (b : Nat) (hb : b < E.length) : Rise (E.take b ++ E.drop (b + 1)) := by
  have key : ∀ j, el (E.take b ++ E.drop (b + 1)) j = if j < b then el E j else el E (j + 1) := by
    intro j
    unfold el
    rw [List.getD_eq_getElem?_getD, List.getElem?_append, List.length_take]
    by_cases h : j < b
    · rw [if_pos (by omega), if_pos h, List.getElem?_take, if_pos h, List.getD_eq_getElem?_getD]
    · rw [if_neg (by omega), if_neg h, List.getElem?_drop, List.getD_eq_getElem?_getD]
      congr 2; omega
  intro i j hij hj
  have hl : (E.take b ++ E.drop (b + 1)).length = E.length - 1 := by rw [List.length_append, List.length_take, List.length_drop]; omega
  rw [key, key]
  split
  · split
    · exact hR i j hij (by omega)
    · exact hR i (j + 1) (by omega) (by omega)
  · rw [if_neg (by omega)]; exact hR (i + 1) (j + 1) (by omega) (by omega)
theorem ids_eq : ∀ (n : Nat) (l E : List DU), l.length = n → l.Perm E → Heap l.length l → Rise E → X.popIds n l = X.selIds n (E.map kf) := by
  intro n
  induction n with
  | zero => intro l E _ _ _ _; rfl
  | succ n ih =>
    intro l E hl hP hH hR
    have hE : E.length = n + 1 := by rw [← hP.length_eq]; exact hl
    rw [X.popIds, if_neg (by omega), X.selIds, List.length_map, kf_getD]
    have hi : (l.length : Int) - 1 = ((l.length - 1 : Nat) : Int) := by omega
    obtain ⟨p1, p2, p3⟩ := pop_ok l hH (by omega)
    rw [hi, rd_el, p1]
    have hb := best_ok E hR E.length 0 0 (by omega) (.inr ⟨rfl, rfl⟩) (fun j hj => absurd hj (Nat.not_lt_zero _)) (by omega)
    have hbl : X.bestK (E.map kf) E.length 0 0 < E.length := X.bestK_lt _ _ _ _ _ (by omega) (by omega)
    generalize X.bestK (E.map kf) E.length 0 0 = b at hb hbl ⊢
    have e0 : el l 0 = el E b := by
      refine le3_antisymm ?_ ?_
      · obtain ⟨j, hj, he⟩ := List.getElem_of_mem (hP.mem_iff.2 (el_mem hbl))
        rw [← he, ← el_eq hj]; exact heap_min hH j hj
      · obtain ⟨j, hj, he⟩ := List.getElem_of_mem (hP.mem_iff.1 (el_mem (l := l) (j := 0) (by omega)))
        rw [← he, ← el_eq hj]; exact hb j hj
    have hE2 : (el E b :: (E.take b ++ E.drop (b + 1))).Perm E := by
      have h1 : E = E.take b ++ el E b :: E.drop (b + 1) := by
        rw [el_eq hbl, ← List.drop_eq_getElem_cons hbl, List.take_append_drop]
      have h2 := (List.perm_middle (a := el E b) (l₁ := E.take b) (l₂ := E.drop (b + 1))).symm
      rw [← h1] at h2; exact h2
    have hP2 : ((X.sunkL l).take (l.length - 1)).Perm (E.take b ++ E.drop (b + 1)) := by
      have := p3.trans (hP.trans hE2.symm)
      rw [e0] at this
      exact this.cons_inv
    have hlt : ((X.sunkL l).take (l.length - 1)).length = n := by
      rw [hP2.length_eq, List.length_append, List.length_take, List.length_drop]; omega
    rw [e0]
    have := ih _ _ hlt hP2 (by rw [hlt]; have := p2; rwa [show l.length - 1 = n by omega] at this ⊢) (rise_drop E hR b hbl)
    rw [this, List.map_append, List.map_take, List.map_drop]
    rfl
/-- The entries pushed, in the items' order. -/
def ents (now : Int) (xs : List X.S48) : Nat → List DU
  | 0 => []
  | k + 1 => if (X.rd_T48 xs (k : Int)).f3 ≤ now then ents now xs k ++ [⟨(X.rd_T48 xs (k : Int)).f3, (X.rd_T48 xs (k : Int)).f0.f0, (k : Int)⟩] else ents now xs k
theorem ents_keys (now : Int) (xs : List X.S48) : ∀ k, (ents now xs k).map kf = X.dueKeys now xs k
  | 0 => rfl
  | k + 1 => by
    rw [ents, X.dueKeys]
    split
    · rw [List.map_append, ents_keys now xs k]; rfl
    · exact ents_keys now xs k
theorem fold_ok (now : Int) (xs : List X.S48) : ∀ k, Heap (X.dueFold now xs k).length (X.dueFold now xs k) ∧ (X.dueFold now xs k).Perm (ents now xs k)
  | 0 => ⟨fun i h1 h2 => absurd h2 (Nat.not_lt_zero _), List.Perm.refl _⟩
  | k + 1 => by
    rw [X.dueFold, ents]
    obtain ⟨h1, h2⟩ := fold_ok now xs k
    split
    · have := push_ok (X.dueFold now xs k) ⟨(X.rd_T48 xs (k : Int)).f3, (X.rd_T48 xs (k : Int)).f0.f0, (k : Int)⟩ h1
      exact ⟨this.1, this.2.trans (h2.append_right _)⟩
    · exact ⟨h1, h2⟩
theorem ents_place (now : Int) (xs : List X.S48) : ∀ k, (∀ j, j < (ents now xs k).length → (el (ents now xs k) j).f2 < (k : Int)) ∧ Rise (ents now xs k)
  | 0 => ⟨fun j h => absurd h (Nat.not_lt_zero _), fun i j _ h => absurd h (Nat.not_lt_zero _)⟩
  | k + 1 => by
    obtain ⟨h1, h2⟩ := ents_place now xs k
    rw [ents]
    split
    · have hlast : ∀ x : DU, el (ents now xs k ++ [x]) (ents now xs k).length = x := fun x => by
        unfold el; rw [List.getD_eq_getElem?_getD, List.getElem?_append_right (Nat.le_refl _), Nat.sub_self]; rfl
      refine ⟨fun j hj => ?_, fun i j hij hj => ?_⟩
      · rw [List.length_append] at hj
        simp only [List.length_singleton] at hj
        by_cases e : j = (ents now xs k).length
        · rw [e, hlast]; simp only; omega
        · rw [el_app _ _ _ (by omega)]; have := h1 j (by omega); omega
      · rw [List.length_append] at hj
        simp only [List.length_singleton] at hj
        by_cases e : j = (ents now xs k).length
        · rw [e, hlast, el_app _ _ _ (by omega)]; exact h1 i (by omega)
        · rw [el_app _ _ _ (by omega), el_app _ _ _ (by omega)]; exact h2 i j hij (by omega)
    · exact ⟨fun j hj => by have := h1 j hj; omega, h2⟩
theorem due_eq (xs : List X.S48) (next now : Int) : X.impl_DueIds.f xs next now = X.spec_DueIds.f xs next now := by
  unfold X.impl_DueIds.f X.spec_DueIds.f
  split
  · obtain ⟨h1, h2⟩ := fold_ok now xs xs.length
    have hR := (ents_place now xs xs.length).2
    have := ids_eq _ _ _ rfl h2 h1 hR
    rw [ents_keys] at this
    rw [this, h2.length_eq, ← ents_keys, List.length_map]
  · rfl
end Go.Proofs.Ytnhhbdhkhdbanaa.Pure
