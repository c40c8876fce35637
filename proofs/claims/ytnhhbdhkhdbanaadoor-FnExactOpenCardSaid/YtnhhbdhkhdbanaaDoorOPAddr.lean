/- What the two ValidAddress answer: one law. Plain Lean. -/
import Derived.Test.YtnhhbdhkhdbanaaDoorOX8
import Derived.Test.YtnhhbdhkhdbanaaDoorOX2
import Derived.Test.YtnhhbdhkhdbanaaDoorOPDom
import Derived.Test.YtnhhbdhkhdbanaaDoorOPList
namespace Go.Proofs.YtnhhbdhkhdbanaaDoor.Pure
open Go Go.RowKit Go.Proofs.YtnhhbdhkhdbanaaDoorW.PrintWords
set_option linter.unusedVariables false
theorem has_f (c : Int) : Ev (fun k => X.spec_l2has.f k ⟨#[43, 95, 45]⟩ c) (decide (c = 43) || decide (c = 95) || decide (c = 45)) := by
  refine ⟨4, fun n hn => ?_⟩
  obtain ⟨k, rfl⟩ : ∃ k, n = k + 1 + 1 + 1 + 1 := ⟨n - 4, by omega⟩
  show X.spec_l2has.f (k + 1 + 1 + 1 + 1) _ c = _
  have b0 : bt ⟨#[43, 95, 45]⟩ 0 = 43 := by rfl
  have b1 : bt ⟨#[43, 95, 45]⟩ 1 = 95 := by rfl
  have b2 : bt ⟨#[43, 95, 45]⟩ 2 = 45 := by rfl
  have w0 : wrap64 (0 + 1) = 1 := wrap_id _ (by omega) (by omega)
  have w1 : wrap64 (1 + 1) = 2 := wrap_id _ (by omega) (by omega)
  have w2 : wrap64 (2 + 1) = 3 := wrap_id _ (by omega) (by omega)
  have z : ((⟨#[43, 95, 45]⟩ : ByteArray).size : Int) = 3 := by rfl
  unfold X.spec_l2has.f
  simp only [X.spec_l2has.l0, b0, b1, b2, w0, w1, w2, z]
  by_cases h0 : (43 : Int) = c
  · subst h0; simp
  by_cases h1 : (95 : Int) = c
  · subst h1; simp
  by_cases h2 : (45 : Int) = c
  · subst h2; simp
  simp [h0, h1, h2, Ne.symm h0, Ne.symm h1, Ne.symm h2]
def locS (c : Int) : Bool := X.isLetterB c || X.isDigitB c || (decide (c = 43) || decide (c = 95) || decide (c = 45))
def pieceB (p : ByteArray) : Bool := !(p.toList == []) && X.allB locS p
theorem addr_l1 (p : ByteArray) (hs : p.size ≤ 8796093022208) (xs : List ByteArray) (m j : Int) (R : Bool) (hR : Ev (fun k => X.spec_ValidAddress.l0 k xs m (wrap64 (j + 1))) R) : ∀ (n i : Nat), p.size - i = n → i ≤ p.size →
    ∃ b, Ev (fun k => X.spec_ValidAddress.l1 k p (i : Int) xs m j) (b && R) ∧ (b = true ↔ ∀ j : Nat, i ≤ j → j < p.size → locS (bt p j) = true) := by
  intro n
  induction n with
  | zero =>
    intro i hn hi
    refine ⟨true, ?_, by simp; omega⟩
    refine Ev.step (f := fun k => X.spec_ValidAddress.l0 k xs m (wrap64 (j + 1))) (fun k => ?_) (by simpa using hR)
    rw [X.spec_ValidAddress.l1, if_neg (by omega)]
  | succ n ih =>
    intro i hn hi
    have e2 : wrap64 ((i : Int) + 1) = ((i + 1 : Nat) : Int) := by rw [wrap_id _ (by omega) (by omega)]; omega
    obtain ⟨b, hk, hb⟩ := ih (i + 1) (by omega) (by omega)
    obtain ⟨K, hK⟩ := hk
    obtain ⟨K', hK'⟩ := has_f (bt p i)
    by_cases hd : locS (bt p i) = true
    · refine ⟨b, ⟨max K K' + 1, fun k hk => ?_⟩, ?_⟩
      · obtain ⟨k, rfl⟩ : ∃ k', k = k' + 1 := ⟨k - 1, by omega⟩
        have h1 : X.spec_ValidAddress.l1 k p ((i + 1 : Nat) : Int) xs m j = some (b && R) := hK k (by omega)
        have h2 : X.spec_l2has.f k ⟨#[43, 95, 45]⟩ (bt p i) = _ := hK' k (by omega)
        show X.spec_ValidAddress.l1 (k + 1) p i xs m j = _
        rw [X.spec_ValidAddress.l1, if_pos (by omega), if_pos (by omega), l2letter_f, Option.bind_some, e2, h1, h2, Option.bind_some]
        unfold locS at hd
        rcases Bool.or_eq_true _ _ ▸ hd with h3 | h3
        · rw [if_pos h3]
        · rw [if_pos h3]; simp
      · rw [hb]
        constructor
        · intro h j h1 h2
          rcases Nat.eq_or_lt_of_le h1 with rfl | h3
          · exact hd
          · exact h j h3 h2
        · exact fun h j h1 h2 => h j (by omega) h2
    · refine ⟨false, ⟨K' + 1, fun k hk => ?_⟩, ?_⟩
      · obtain ⟨k, rfl⟩ : ∃ k', k = k' + 1 := ⟨k - 1, by omega⟩
        have h2 : X.spec_l2has.f k ⟨#[43, 95, 45]⟩ (bt p i) = _ := hK' k (by omega)
        show X.spec_ValidAddress.l1 (k + 1) p i xs m j = _
        unfold locS at hd
        rw [Bool.or_eq_true, not_or] at hd
        rw [X.spec_ValidAddress.l1, if_pos (by omega), if_pos (by omega), l2letter_f, Option.bind_some, h2, Option.bind_some, if_neg hd.1, if_neg hd.2]; rfl
      · simp only [Bool.false_eq_true, false_iff]
        exact fun h => hd (h i (Nat.le_refl _) (by omega))
theorem addr_l0 (xs : List ByteArray) (hl : xs.length ≤ 8796093022208) (hx : ∀ p ∈ xs, p.size ≤ 8796093022208) : ∀ (n i : Nat), xs.length - i = n → i ≤ xs.length → Ev (fun k => X.spec_ValidAddress.l0 k xs (xs.length : Int) (i : Int)) ((xs.drop i).all pieceB) := by
  intro n
  induction n with
  | zero =>
    intro i hn hi
    refine Ev.step (f := fun _ => some true) (fun k => ?_) ?_
    · rw [X.spec_ValidAddress.l0, if_neg (by omega)]
    · rw [List.drop_of_length_le (by omega)]; exact Ev.now _
  | succ n ih =>
    intro i hn hi
    have e2 : wrap64 ((i : Int) + 1) = ((i + 1 : Nat) : Int) := by rw [wrap_id _ (by omega) (by omega)]; omega
    have hk := ih (i + 1) (by omega) (by omega)
    have hi' : i < xs.length := by omega
    obtain ⟨b, hb, hbi⟩ := addr_l1 xs[i] (hx _ (List.getElem_mem hi')) xs (xs.length : Int) (i : Int) _ (by rw [e2]; exact hk) xs[i].size 0 rfl (Nat.zero_le _)
    rw [List.drop_eq_getElem_cons hi', List.all_cons]
    have hb' : b = X.allB locS xs[i] := by
      rw [Bool.eq_iff_iff, hbi, X.allB_iff]
      exact ⟨fun h j hj => h j (Nat.zero_le _) hj, fun h j _ hj => h j hj⟩
    by_cases h0 : xs[i].toList = []
    · refine Ev.step (f := fun _ => some false) (fun k => ?_) ?_
      · rw [X.spec_ValidAddress.l0, if_pos (by omega), if_pos (by omega), if_pos (by omega), rd_get xs i hi', if_pos h0]
      · unfold pieceB; rw [h0]; simp; exact Ev.now _
    · refine Ev.step (f := fun k => X.spec_ValidAddress.l1 k xs[i] 0 xs (xs.length : Int) (i : Int)) (fun k => ?_) ?_
      · rw [X.spec_ValidAddress.l0, if_pos (by omega), if_pos (by omega), if_pos (by omega), rd_get xs i hi', if_neg h0]
      · have : pieceB xs[i] = b := by unfold pieceB; rw [hb']; simp [h0]
        rw [this]; exact hb
def addrB (s : ByteArray) : Bool := decide (s.size ≤ 160) && (match sp s ⟨#[64]⟩ with
  | [l, d] => decide (l.size ≤ 64) && domainB d && (sp l ⟨#[46]⟩).all pieceB
  | _ => false)
theorem j0_f (a d : ByteArray) (hs : a.size ≤ 8796093022200) (b : Bool) : Ev (fun k => X.spec_ValidAddress.j0 k [a, d] b) (!b && (sp a ⟨#[46]⟩).all pieceB) := by
  cases b with
  | true => refine Ev.step (f := fun _ => some false) (fun k => ?_) (Ev.now _); rw [X.spec_ValidAddress.j0]; rfl
  | false =>
    refine Ev.step (f := fun k => (X.spec_l2split.f k a (⟨#[46]⟩ : ByteArray)).bind fun t132 => (X.spec_ValidAddress.l0 k t132 (t132.length : Int) 0)) (fun k => ?_) ?_
    · rw [X.spec_ValidAddress.j0, if_neg (by decide), if_pos (by simp)]; rfl
    · have hl := sp_len a ⟨#[46]⟩ (by decide)
      have h := addr_l0 (sp a ⟨#[46]⟩) (by omega) (fun p hp => by have := sp_sizes ⟨#[46]⟩ a.size _ a (Nat.le_refl _) p hp; omega) _ 0 rfl (Nat.zero_le _)
      simp only [Bool.not_false, Bool.true_and]
      rw [List.drop_zero] at h
      exact Ev.bind (l2split_f a ⟨#[46]⟩ (by decide) (by omega) (by decide)) h
theorem specAddr_f (s : ByteArray) : Ev (fun k => X.spec_ValidAddress.f k s) (addrB s) := by
  unfold addrB
  by_cases h : (s.size : Int) > 160
  · refine Ev.congr (f := fun _ => some false) (fun k => ?_) ?_
    · unfold X.spec_ValidAddress.f; rw [if_pos h]
    · rw [decide_eq_false (p := s.size ≤ 160) (by omega)]; exact Ev.now _
  rw [decide_eq_true (p := s.size ≤ 160) (by omega), Bool.true_and]
  have hsp := l2split_f s ⟨#[64]⟩ (by decide) (by omega) (by decide)
  refine Ev.congr (g := fun k => X.spec_ValidAddress.f k s) (f := fun k => (X.spec_l2split.f k s (⟨#[64]⟩ : ByteArray)).bind fun t125 => (if (t125.length : Int) = 2 then (if 0 < (t125.length : Int) then (if ((rdOf ByteArray.empty t125 0).size : Int) > 64 then (X.spec_ValidAddress.j0 k t125 true) else (if 1 < (t125.length : Int) then ((X.spec_ValidDomain.f k (rdOf ByteArray.empty t125 1)).bind fun t130 => (X.spec_ValidAddress.j0 k t125 (!t130))) else (none))) else (none)) else (X.spec_ValidAddress.j0 k t125 true))) (fun k => by unfold X.spec_ValidAddress.f; rw [if_neg h]) (Ev.bind hsp ?_)
  have hz : ∀ p ∈ sp s ⟨#[64]⟩, p.size ≤ s.size := sp_sizes ⟨#[64]⟩ s.size (Lib.countB s ⟨#[64]⟩) s (Nat.le_refl _)
  generalize sp s ⟨#[64]⟩ = ps at hz ⊢
  have hno : ps.length ≠ 2 → Ev (fun n => if (ps.length : Int) = 2 then (if 0 < (ps.length : Int) then (if ((rdOf ByteArray.empty ps 0).size : Int) > 64 then (X.spec_ValidAddress.j0 n ps true) else (if 1 < (ps.length : Int) then ((X.spec_ValidDomain.f n (rdOf ByteArray.empty ps 1)).bind fun t130 => (X.spec_ValidAddress.j0 n ps (!t130))) else (none))) else (none)) else (X.spec_ValidAddress.j0 n ps true)) false := by
    intro hn
    refine Ev.congr (f := fun n => X.spec_ValidAddress.j0 n ps true) (fun n => by rw [if_neg (by omega)]) ?_
    refine Ev.step (f := fun _ => some false) (fun k => ?_) (Ev.now _); rw [X.spec_ValidAddress.j0]; rfl
  match ps, hno, hz with
  | [], hno, _ => exact hno (by simp)
  | [_], hno, _ => exact hno (by simp)
  | _ :: _ :: _ :: _, hno, _ => exact hno (by simp)
  | [l, d], _, hz =>
    have hl := hz l (by simp)
    simp only [List.length_cons, List.length_nil, Nat.zero_add, Nat.reduceAdd]
    have r0 : rdOf ByteArray.empty [l, d] 0 = l := rfl
    have r1 : rdOf ByteArray.empty [l, d] 1 = d := rfl
    by_cases h6 : (l.size : Int) > 64
    · refine Ev.congr (f := fun n => X.spec_ValidAddress.j0 n [l, d] true) (fun n => by rw [if_pos (by rfl), if_pos (by decide), r0, if_pos h6]) ?_
      rw [decide_eq_false (p := l.size ≤ 64) (by omega)]
      have := j0_f l d (by omega) true
      simpa using this
    · refine Ev.congr (f := fun n => (X.spec_ValidDomain.f n d).bind fun t130 => (X.spec_ValidAddress.j0 n [l, d] (!t130))) (fun n => by rw [if_pos (by rfl), if_pos (by decide), r0, if_neg h6, if_pos (by decide), r1]) ?_
      rw [decide_eq_true (p := l.size ≤ 64) (by omega)]
      refine Ev.bind (specDomain_f d) ?_
      have := j0_f l d (by omega) (!domainB d)
      simpa using this
theorem domain_all (d : ByteArray) (h : domainB d = true) : ∀ x ∈ d.data.toList, x ≠ 46 → X.domB (x.toNat : Int) = true := by
  unfold domainB at h
  rw [Bool.and_eq_true, List.all_eq_true] at h
  refine (splitC_all 46 (fun x => X.domB (x.toNat : Int) = true) d.data.toList).1 ?_
  rw [← sp_lists]
  intro p hp x hx
  obtain ⟨q, hq, rfl⟩ := List.mem_map.1 hp
  have := h.2 q hq
  unfold labB at this
  simp only [Bool.and_eq_true] at this
  exact List.all_eq_true.1 this.2 x hx
theorem sp_one (d : ByteArray) (h : (64 : UInt8) ∉ d.data.toList) : sp d ⟨#[64]⟩ = [d] := by
  apply sp_miss
  show Lib.index _ [64] = -1
  rcases Lib.index_spec d.data.toList [64] with ⟨h1, _⟩ | ⟨i, h1, h2, h3, _⟩
  · exact h1
  · exact absurd (List.mem_of_getElem? (Lib.occAt_head rfl h3)) h
theorem bt_list (s : ByteArray) (j : Nat) (x : UInt8) (h : s.data.toList[j]? = some x) : bt s (j : Int) = (x.toNat : Int) := by
  obtain ⟨hj, e⟩ := List.getElem?_eq_some_iff.1 h
  have hj' : j < s.size := by rw [data_length] at hj; exact hj
  unfold bt
  rw [dif_pos (show (j : Int).toNat < s.size by simpa using hj'), ← e]; rfl
/-- The local part, as the code of impl tests it. -/
theorem local_iff (l : ByteArray) : (sp l ⟨#[46]⟩).all pieceB = true ↔ (X.allB X.locB l = true ∧ (∃ d r, l.data.toList = d :: r ∧ d ≠ 46) ∧ l.data.toList.getLast? ≠ some 46 ∧ Lib.contains l.data.toList [46, 46] = false) := by
  have h1 := splitC_all 46 (fun x => locS (x.toNat : Int) = true) l.data.toList
  have h2 := splitC_good 46 l.data.toList
  rw [okTail_iff] at h2
  rw [← sp_lists] at h1 h2
  rw [List.all_eq_true]
  have e : (∀ p ∈ sp l ⟨#[46]⟩, pieceB p = true) ↔ (∀ p ∈ (sp l ⟨#[46]⟩).map (·.data.toList), ∀ x ∈ p, locS (x.toNat : Int) = true) ∧ (∀ p ∈ (sp l ⟨#[46]⟩).map (·.data.toList), p ≠ []) := by
    simp only [List.forall_mem_map]
    rw [← forall_and]
    refine forall_congr' fun p => ?_
    rw [← imp_and]
    refine imp_congr_right fun _ => ?_
    unfold pieceB
    rw [Bool.and_eq_true, ByteArray.toList_eq, and_comm]
    unfold X.allB
    rw [List.all_eq_true]
    simp
  rw [e, h1, h2]
  have e3 : X.allB X.locB l = true ↔ ∀ x ∈ l.data.toList, x ≠ 46 → locS (x.toNat : Int) = true := by
    unfold X.allB
    rw [List.all_eq_true]
    refine forall_congr' fun x => imp_congr_right fun _ => ?_
    have hk : ((x.toNat : Int).toNat.toUInt8) = x := by simp
    unfold X.locB locS
    rw [hk]
    simp only [Bool.or_eq_true, decide_eq_true_eq]
    have hi : 0 ≤ Lib.indexByte [46, 43, 95, 45] x ↔ (x = 46 ∨ x = 43 ∨ x = 95 ∨ x = 45) := by
      have := Lib.contains_iff_indexByte [46, 43, 95, 45] x
      rw [Bool.eq_iff_iff] at this
      simp only [List.contains_iff_mem, decide_eq_true_eq] at this
      rw [← this]; simp
    rw [hi]
    have c : ∀ n : UInt8, ((x.toNat : Int) = (n.toNat : Int)) ↔ x = n := fun n => by
      rw [Int.natCast_inj]; exact ⟨fun h => UInt8.toNat.inj h, fun h => by rw [h]⟩
    have c1 := c 43; have c2 := c 95; have c3 := c 45
    simp only [show (43 : UInt8).toNat = 43 from rfl, show (95 : UInt8).toNat = 95 from rfl, show (45 : UInt8).toNat = 45 from rfl] at c1 c2 c3
    have c1' : (x.toNat : Int) = 43 ↔ x = 43 := c1
    have c2' : (x.toNat : Int) = 95 ↔ x = 95 := c2
    have c3' : (x.toNat : Int) = 45 ↔ x = 45 := c3
    rw [c1', c2', c3']
    by_cases h46 : x = 46
    · subst h46; simp
    · simp only [h46, false_or, ne_eq, not_false_iff, true_implies]
      rw [or_assoc (a := x = 43)]
  rw [e3]
theorem implj0_f (l : ByteArray) (hs : l.size < 4294967281) (hb : 1 ≤ l.size) (k : Nat) : X.impl_ValidAddress.j0 (k + 1) l false = some ((sp l ⟨#[46]⟩).all pieceB) := by
  have hsz := data_length l
  rw [X.impl_ValidAddress.j0, if_neg (by decide)]
  unfold X.impl_all_impl_ValidAddress_1.f
  rw [if_pos (by omega), Option.bind_some]
  have H := local_iff l
  have e1 : wrap64 ((l.size : Int) - 1) = ((l.size - 1 : Nat) : Int) := by rw [wrap_id _ (by omega) (by omega)]; omega
  by_cases h1 : X.allB X.locB l = true
  · rw [if_pos h1, if_pos (by omega), e1]
    obtain ⟨b0, r, hl⟩ : ∃ d r, l.data.toList = d :: r := by
      cases hx : l.data.toList with
      | nil => rw [hx] at hsz; simp at hsz; omega
      | cons d r => exact ⟨_, _, rfl⟩
    have hb0 : bt l 0 = (b0.toNat : Int) := bt_list l 0 b0 (by rw [hl]; rfl)
    have hlen : l.data.toList.length - 1 < l.data.toList.length := by omega
    have hla : l.data.toList.getLast? = some (l.data.toList[l.data.toList.length - 1]) := by rw [List.getLast?_eq_getElem?, List.getElem?_eq_getElem hlen]
    have hbl : bt l ((l.size - 1 : Nat) : Int) = ((l.data.toList[l.data.toList.length - 1]).toNat : Int) := bt_list l _ _ (by rw [← hsz, List.getElem?_eq_getElem hlen])
    have n46 : ∀ x : UInt8, ((x.toNat : Int) = 46) ↔ x = 46 := fun x => by
      constructor
      · intro h
        have h' : x.toNat = (46 : UInt8).toNat := by have h0 : (46 : UInt8).toNat = 46 := rfl; omega
        exact UInt8.toNat.inj h'
      · rintro rfl; rfl
    have hf : ∀ b : Bool, ((sp l ⟨#[46]⟩).all pieceB = true ↔ b = true) → b = (sp l ⟨#[46]⟩).all pieceB := fun b h => by rw [Bool.eq_iff_iff]; exact h.symm
    by_cases c0 : bt l 0 = 46
    · rw [if_pos c0]
      congr 1
      refine hf false ?_
      rw [H]
      rw [hb0, n46] at c0
      constructor
      · rintro ⟨_, ⟨d, r', h, hd⟩, _⟩
        rw [hl] at h
        simp only [List.cons.injEq] at h
        exact absurd (h.1.symm.trans c0) hd
      · exact fun h => by cases h
    rw [if_neg c0, if_pos (by omega), if_pos (by omega)]
    by_cases c1 : bt l ((l.size - 1 : Nat) : Int) = 46
    · rw [if_pos c1]
      congr 1
      refine hf false ?_
      rw [H]
      rw [hbl, n46] at c1
      constructor
      · rintro ⟨_, _, h, _⟩
        exact absurd (hla.trans (by rw [c1])) h
      · exact fun h => by cases h
    rw [if_neg c1]
    unfold X.strings_Contains.f
    rw [if_pos hs, Option.bind_some]
    congr 1
    refine hf _ ?_
    rw [H]
    rw [hbl, n46] at c1
    rw [hb0, n46] at c0
    show _ ↔ (!Lib.contains l.data.toList [46, 46]) = true
    rw [Bool.not_eq_true']
    exact ⟨fun h => h.2.2.2, fun h => ⟨h1, ⟨b0, r, hl, c0⟩, by rw [hla]; simpa using c1, h⟩⟩
  · rw [if_neg h1]
    have : ¬ (sp l ⟨#[46]⟩).all pieceB = true := fun h => h1 (H.1 h).1
    rw [Bool.not_eq_true] at this
    rw [this]
theorem implj0_true (l : ByteArray) (k : Nat) : X.impl_ValidAddress.j0 (k + 1) l true = some false := by rw [X.impl_ValidAddress.j0, if_pos rfl]
theorem implAddr_f (s : ByteArray) (hs : s.size < 4294967281) : Ev (fun k => X.impl_ValidAddress.f k s) (addrB s) := by
  have hj0 : ∀ l : ByteArray, Ev (fun k => X.impl_ValidAddress.j0 k l true) false := fun l => Ev.step (f := fun _ => some false) (fun k => implj0_true l k) (Ev.now _)
  have hcut : X.strings_Cut.f s ⟨#[64]⟩ = some (⟨(Lib.cut s.data.toList [64]).1.toArray⟩, ⟨(Lib.cut s.data.toList [64]).2.1.toArray⟩, (Lib.cut s.data.toList [64]).2.2) := by
    unfold X.strings_Cut.f; rw [if_pos hs]
  rcases Lib.indexB_cases s ⟨#[64]⟩ with hi | ⟨i, hi, hroom⟩
  · have hsp : sp s ⟨#[64]⟩ = [s] := sp_miss _ _ hi
    have hc : (Lib.cut s.data.toList [64]).2.2 = false := by
      have hi' : Lib.index s.data.toList [64] = -1 := hi
      unfold Lib.cut; rw [hi']; rfl
    have e : addrB s = false := by unfold addrB; rw [hsp]; simp
    rw [e]
    refine Ev.congr (f := fun k => X.impl_ValidAddress.j0 k ⟨(Lib.cut s.data.toList [64]).1.toArray⟩ true) (fun k => ?_) (hj0 _)
    unfold X.impl_ValidAddress.f
    rw [hcut, Option.bind_some, hc]; rfl
  · have hi' : Lib.index s.data.toList [64] = (i : Int) := hi
    have hroom' : i + 1 ≤ s.size := hroom
    have hsp : sp s ⟨#[64]⟩ = s.extract 0 i :: sp (s.extract (i + 1) s.size) ⟨#[64]⟩ := sp_hit s ⟨#[64]⟩ i (by decide) hi
    have hc : Lib.cut s.data.toList [64] = (s.data.toList.take i, s.data.toList.drop (i + 1), true) := by
      unfold Lib.cut; rw [hi', if_pos (by omega)]; rfl
    have e1 : (⟨(s.data.toList.take i).toArray⟩ : ByteArray) = s.extract 0 i := by
      apply ByteArray.ext; apply Array.ext'; rw [data_extract]; simp
    have e2 : (⟨(s.data.toList.drop (i + 1)).toArray⟩ : ByteArray) = s.extract (i + 1) s.size := by
      apply ByteArray.ext; apply Array.ext'; rw [data_extract, ← data_length s, List.take_length]
    have hF : ∀ k, X.impl_ValidAddress.f k s = (if (s.size : Int) > 160 then (X.impl_ValidAddress.j0 k (s.extract 0 i) true) else ((X.impl_ValidDomain.f k (s.extract (i + 1) s.size)).bind fun t141 => (if t141 = true then (if ((s.extract 0 i).size : Int) < 1 then (X.impl_ValidAddress.j0 k (s.extract 0 i) true) else (X.impl_ValidAddress.j0 k (s.extract 0 i) (decide (((s.extract 0 i).size : Int) > 64)))) else (X.impl_ValidAddress.j0 k (s.extract 0 i) true)))) := fun k => by
      unfold X.impl_ValidAddress.f
      rw [hcut, Option.bind_some, hc]
      simp only [e1, e2, if_true]
    have hs1 : (s.extract 0 i).size ≤ s.size := by rw [ByteArray.size_extract]; omega
    have hs2 : (s.extract (i + 1) s.size).size ≤ s.size := by rw [ByteArray.size_extract]; omega
    unfold addrB
    rw [hsp]
    generalize s.extract 0 i = l at hF hs1 ⊢
    generalize s.extract (i + 1) s.size = d at hF hs2 ⊢
    by_cases h : (s.size : Int) > 160
    · rw [decide_eq_false (p := s.size ≤ 160) (by omega), Bool.false_and]
      exact Ev.congr (fun k => (hF k).trans (if_pos h)) (hj0 l)
    rw [decide_eq_true (p := s.size ≤ 160) (by omega), Bool.true_and]
    refine Ev.congr (fun k => (hF k).trans (if_neg h)) (Ev.bind (implDomain_f d (by omega)) ?_)
    by_cases hd : domainB d = true
    · have h64 : (64 : UInt8) ∉ d.data.toList := fun hm => absurd (domain_all d hd 64 hm (by decide)) (by decide)
      rw [sp_one d h64]
      simp only [hd, if_true, Bool.and_true]
      by_cases h1 : (l.size : Int) < 1
      · have hl0 : l = ByteArray.empty := by
          apply ByteArray.ext; apply Array.eq_empty_of_size_eq_zero; show l.size = 0; omega
        have e : (sp l ⟨#[46]⟩).all pieceB = false := by rw [hl0, sp_miss _ _ (by rfl), List.all_cons]; unfold pieceB; rw [ByteArray.toList_eq]; rfl
        rw [e, Bool.and_false]
        exact Ev.congr (fun k => if_pos h1) (hj0 l)
      · by_cases h6 : (l.size : Int) > 64
        · rw [decide_eq_false (p := l.size ≤ 64) (by omega), Bool.false_and]
          exact Ev.congr (fun k => (if_neg h1).trans (by rw [decide_eq_true h6])) (hj0 l)
        · rw [decide_eq_true (p := l.size ≤ 64) (by omega), Bool.true_and]
          refine Ev.congr (f := fun k => X.impl_ValidAddress.j0 k l false) (fun k => (if_neg h1).trans (by rw [decide_eq_false h6])) ?_
          exact Ev.step (f := fun _ => some _) (fun k => implj0_f l (by omega) (by omega) k) (Ev.now _)
    · rw [Bool.not_eq_true] at hd
      have e : (match l :: sp d ⟨#[64]⟩ with | [l, d] => decide (l.size ≤ 64) && domainB d && (sp l ⟨#[46]⟩).all pieceB | _ => false) = false := by
        rcases Lib.indexB_cases d ⟨#[64]⟩ with hi | ⟨j, hi, _⟩
        · rw [sp_miss _ _ hi]; simp [hd]
        · rw [sp_hit d ⟨#[64]⟩ j (by decide) hi]
          have : ∀ z : ByteArray, sp z ⟨#[64]⟩ ≠ [] := fun z => by
            rcases Lib.indexB_cases z ⟨#[64]⟩ with hi | ⟨j, hi, _⟩
            · rw [sp_miss _ _ hi]; simp
            · rw [sp_hit z ⟨#[64]⟩ j (by decide) hi]; simp
          cases hz : sp (d.extract (j + (⟨#[64]⟩ : ByteArray).size) d.size) ⟨#[64]⟩ with
          | nil => exact absurd hz (this _)
          | cons a b => rfl
      rw [e, hd]
      exact Ev.congr (fun k => by simp) (hj0 l)
end Go.Proofs.YtnhhbdhkhdbanaaDoor.Pure
