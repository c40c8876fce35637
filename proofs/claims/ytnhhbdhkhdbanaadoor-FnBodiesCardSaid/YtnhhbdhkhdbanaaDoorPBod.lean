/- Drawn bodies: each draw answers; a stuffed body comes back, and its end stands at its end alone. Plain Lean. -/
import Derived.Test.YtnhhbdhkhdbanaaDoorX3
import Derived.Test.YtnhhbdhkhdbanaaDoorX6
import Derived.Test.YtnhhbdhkhdbanaaDoorX1
import Derived.Test.YtnhhbdhkhdbanaaDoorX6
import Derived.Test.YtnhhbdhkhdbanaaDoorPDraw
import Derived.Test.YtnhhbdhkhdbanaaDoorPUns2
namespace Go.Proofs.YtnhhbdhkhdbanaaDoor.Pure
open Go Go.RowKit Go.Proofs.YtnhhbdhkhdbanaaDoorW.PrintWords
set_option linter.unusedVariables false
set_option linter.unusedSimpArgs false
def bls : List ByteArray := [⟨#[83, 117, 98, 106, 101, 99, 116, 58, 32, 104, 105]⟩, ⟨#[84, 111, 58, 32, 121, 111, 117]⟩, ⟨#[]⟩, ⟨#[46]⟩, ⟨#[46, 46, 120]⟩, ⟨#[115, 111, 109, 101, 32, 119, 111, 114, 100, 115]⟩, ⟨#[45, 45, 98, 48]⟩, ⟨#[46, 101, 110, 100]⟩]
theorem bls_get (j : Int) (h0 : 0 ≤ j) (h1 : j < 8) : (rdOf ByteArray.empty bls j).size ≤ 11 := by
  obtain ⟨i, rfl⟩ : ∃ i : Nat, j = (i : Int) := ⟨j.toNat, by omega⟩
  have hi : i < bls.length := by show i < 8; omega
  rw [rd_get bls i hi]
  have : ∀ p ∈ bls, p.size ≤ 11 := by
    intro p hp
    unfold bls at hp
    simp only [List.mem_cons, List.not_mem_nil, or_false] at hp
    rcases hp with h | h | h | h | h | h | h | h <;> subst h <;> decide
  exact this _ (List.getElem_mem hi)
theorem cr2 (x : ByteArray) : (x ++ (⟨#[13, 10]⟩ : ByteArray)).size = x.size + 2 := by rw [ByteArray.size_append]; rfl
theorem body_l0' (l : List Int) (hl : Bytes l) : ∀ (n : Nat) (acc : ByteArray) (p : Nat), n ≤ 100 → acc.size + 13 * n ≤ 1000000 → p ≤ l.length → ∃ (r : ByteArray) (p' : Nat), Ev (fun k => X.spec_l1rd_l2body.l0 k acc (n : Int) l (p : Int)) (r, (p' : Int)) ∧ r.size ≤ acc.size + 13 * n ∧ p' ≤ l.length := by
  intro n
  induction n with
  | zero =>
    intro acc p hn ha hp
    exact ⟨acc, p, Ev.step (f := fun _ => some (acc, (p : Int))) (fun k => by rw [X.spec_l1rd_l2body.l0, if_neg (by omega)]) (Ev.now _), by omega, hp⟩
  | succ n ih =>
    intro acc p hn ha hp
    obtain ⟨c, p1, e1, c0, c1, b1⟩ := next_f l hl p hp
    have m2 : Int.tmod c 8 = c % 8 := tmod_pos _ _ c0
    have hq := bls_get (c % 8) (by omega) (by omega)
    have ew : wrap64 (((n + 1 : Nat) : Int) - 1) = (n : Int) := by rw [wrap_id _ (by omega) (by omega)]; omega
    unfold bls at hq
    generalize hQ : rdOf ByteArray.empty [(⟨#[83, 117, 98, 106, 101, 99, 116, 58, 32, 104, 105]⟩ : ByteArray), ⟨#[84, 111, 58, 32, 121, 111, 117]⟩, ⟨#[]⟩, ⟨#[46]⟩, ⟨#[46, 46, 120]⟩, ⟨#[115, 111, 109, 101, 32, 119, 111, 114, 100, 115]⟩, ⟨#[45, 45, 98, 48]⟩, ⟨#[46, 101, 110, 100]⟩] (c % 8) = q at hq
    have hz := cr2 q
    have hz2 : (acc ++ (q ++ (⟨#[13, 10]⟩ : ByteArray))).size = acc.size + (q.size + 2) := by rw [ByteArray.size_append, hz]
    obtain ⟨r, p', h1, h2, h3⟩ := ih (acc ++ (q ++ (⟨#[13, 10]⟩ : ByteArray))) p1 (by omega) (by omega) b1
    refine ⟨r, p', Ev.step (fun k => ?_) h1, by omega, h3⟩
    rw [X.spec_l1rd_l2body.l0, if_pos (by omega), e1, Option.bind_some]
    simp only [Option.bind_some, m2, hQ]
    rw [if_pos (by omega), if_pos (by simp; omega), if_pos (by omega), if_pos (by omega), ew]
theorem l2body_f (l : List Int) (hl : Bytes l) (p : Nat) (hp : p ≤ l.length) : ∃ (r : ByteArray) (p' : Nat), Ev (fun k => X.spec_l1rd_l2body.f k l (p : Int)) (r, (p' : Int)) ∧ r.size ≤ 3000 ∧ p' ≤ l.length := by
  obtain ⟨c, p1, e1, c0, c1, b1⟩ := next_f l hl p hp
  by_cases h1 : c = 255
  · obtain ⟨f, hf, hz⟩ := fill_f 998 (by omega)
    refine ⟨((((f ++ (⟨#[13, 10]⟩ : ByteArray)) ++ f) ++ (⟨#[13, 10]⟩ : ByteArray)) ++ f) ++ (⟨#[13, 10]⟩ : ByteArray), p1, ?_, ?_, b1⟩
    · have hf' : Ev (fun k => X.spec_l1fill.f k 998) f := hf
      obtain ⟨K, hK⟩ := hf'
      refine ⟨K, fun k hk => ?_⟩
      have hk' := hK k hk
      dsimp only at hk' ⊢
      unfold X.spec_l1rd_l2body.f
      rw [e1, Option.bind_some, if_pos h1, hk']
      simp only [Option.bind_some]
      rw [if_pos (by omega), if_pos (by rw [cr2]; omega), if_pos (by rw [ByteArray.size_append, cr2]; omega), if_pos (by rw [cr2, ByteArray.size_append, cr2]; omega), if_pos (by rw [ByteArray.size_append, cr2, ByteArray.size_append, cr2]; omega)]
    · rw [cr2, ByteArray.size_append, cr2, ByteArray.size_append, cr2]; omega
  · by_cases h2 : c = 254
    · refine ⟨⟨#[]⟩, p1, Ev.congr (f := fun _ => some ((⟨#[]⟩ : ByteArray), (p1 : Int))) (fun k => ?_) (Ev.now _), Nat.zero_le _, b1⟩
      unfold X.spec_l1rd_l2body.f
      rw [e1, Option.bind_some, if_neg h1, if_pos h2]
    · have m2 : Int.tmod c 6 = ((c % 6).toNat : Int) := by rw [tmod_pos _ _ c0]; omega
      obtain ⟨r, p', g1, g2, g3⟩ := body_l0' l hl (c % 6).toNat ⟨#[]⟩ p1 (by omega) (by show 0 + _ ≤ _; omega) b1
      have hs0 : (⟨#[]⟩ : ByteArray).size = 0 := rfl
      refine ⟨r, p', Ev.congr (fun k => ?_) g1, by omega, g3⟩
      unfold X.spec_l1rd_l2body.f
      rw [e1, Option.bind_some, if_neg h1, if_neg h2, m2]
theorem drawStuff_f (l : List Int) (hl : Bytes l) : ∃ r : ByteArray, Ev (fun k => X.spec_DrawStuff.f k l) r ∧ r.size ≤ 100000 := by
  obtain ⟨c, p1, e1, c0, c1, b1⟩ := next_f l hl 0 (Nat.zero_le _)
  obtain ⟨b, p2, e2, z2, b2⟩ := l2body_f l hl p1 b1
  obtain ⟨s, p3, e3, z3, b3⟩ := spoil_f l hl p2 b2 b (by omega)
  have F : ∀ R, Ev (fun k => if Int.tmod c 6 = 5 then ((X.spec_l1rd_l2spoil.f l (p2 : Int) b).bind fun bt140 => (some bt140.1)) else (some b)) R → Ev (fun k => X.spec_DrawStuff.f k l) R := fun R h =>
    Ev.congr (f := fun k => (X.spec_l1rd_l2body.f k l (p1 : Int)).bind fun bt138 => if Int.tmod c 6 = 5 then ((X.spec_l1rd_l2spoil.f l bt138.2 bt138.1).bind fun bt140 => (some bt140.1)) else (some bt138.1)) (fun k => by unfold X.spec_DrawStuff.f; rw [show (0 : Int) = ((0 : Nat) : Int) from rfl, e1, Option.bind_some]) (Ev.bind e2 h)
  by_cases h : Int.tmod c 6 = 5
  · exact ⟨s, F s (Ev.congr (f := fun _ => some s) (fun k => by rw [if_pos h, e3, Option.bind_some]) (Ev.now _)), by omega⟩
  · exact ⟨b, F b (Ev.congr (fun k => if_neg h) (Ev.now _)), by omega⟩
theorem stuffV_size (b : ByteArray) : (stuffV b).size ≤ 6003 := by
  rcases stuffV_shape b with h | ⟨ls, _, _, h⟩
  · rw [← data_length, h]; exact Nat.zero_le _
  · exact h
theorem drawUnstuff_f (l : List Int) (hl : Bytes l) : ∃ r : ByteArray, Ev (fun k => X.spec_DrawUnstuff.f k l) r ∧ r.size ≤ 100000 := by
  obtain ⟨c, p1, e1, c0, c1, b1⟩ := next_f l hl 0 (Nat.zero_le _)
  obtain ⟨b, p2, e2, z2, b2⟩ := l2body_f l hl p1 b1
  have hst := (stuff_evs b (by omega)).1
  have hsz := stuffV_size b
  obtain ⟨s, p3, e3, z3, b3⟩ := spoil_f l hl p2 b2 (stuffV b) (by omega)
  have F : ∀ R, Ev (fun k => if Int.tmod c 4 = 3 then ((X.spec_l1rd_l2spoil.f l (p2 : Int) (stuffV b)).bind fun bt201 => (some bt201.1)) else (some (stuffV b))) R → Ev (fun k => X.spec_DrawUnstuff.f k l) R := fun R h =>
    Ev.congr (f := fun k => (X.spec_l1rd_l2body.f k l (p1 : Int)).bind fun bt198 => (X.spec_Stuff.f k bt198.1).bind fun t200 => if Int.tmod c 4 = 3 then ((X.spec_l1rd_l2spoil.f l bt198.2 t200).bind fun bt201 => (some bt201.1)) else (some t200)) (fun k => by unfold X.spec_DrawUnstuff.f; rw [show (0 : Int) = ((0 : Nat) : Int) from rfl, e1, Option.bind_some]) (Ev.bind e2 (Ev.bind hst h))
  by_cases h : Int.tmod c 4 = 3
  · exact ⟨s, F s (Ev.congr (f := fun _ => some s) (fun k => by rw [if_pos h, e3, Option.bind_some]) (Ev.now _)), by omega⟩
  · exact ⟨stuffV b, F _ (Ev.congr (fun k => if_neg h) (Ev.now _)), by omega⟩
theorem strip_dotted (q : ByteArray) : strip (dotted q) = q := by
  unfold dotted
  by_cases h : q.size ≠ 0 ∧ bt q 0 = 46
  · rw [if_pos h]
    have hd : (dot ++ q).data.toList = 46 :: q.data.toList := by rw [ByteArray.data_append, Array.toList_append]; rfl
    have hz : (dot ++ q).size = q.size + 1 := by rw [ByteArray.size_append]; show 1 + q.size = _; omega
    have hb : bt (dot ++ q) 0 = 46 := by
      have := bt_get (dot ++ q) 0 (by omega)
      rw [show ((0 : Nat) : Int) = 0 from rfl] at this
      rw [this]
      simp only [hd, List.getElem_cons_zero]; rfl
    unfold strip
    rw [if_pos ⟨by omega, hb⟩]
    apply ByteArray.ext; apply Array.ext'
    rw [data_extract, ← data_length (dot ++ q), List.take_length, hd]; rfl
  · rw [if_neg h]; unfold strip; rw [if_neg h]
theorem unb_dotted : ∀ (qs : List ByteArray) (acc : ByteArray), (unb (qs.map dotted) acc).data.toList = acc.data.toList ++ catL qs
  | [], acc => by simp [unb, catL]
  | q :: qs, acc => by
    rw [List.map_cons, unb, unb_dotted qs, strip_dotted]
    simp only [ByteArray.data_append, Array.toList_append, catL, List.map_cons, List.flatten_cons, List.append_assoc]
    rfl
theorem no13 (b : ByteArray) (qs : List ByteArray) (last : ByteArray) (hb : bodyB qs last b = true) : ∀ q ∈ qs, (13 : UInt8) ∉ q.data.toList := by
  intro q hq hh
  unfold bodyB at hb
  rw [Bool.and_eq_true, List.all_eq_true] at hb
  have := hb.2 q hq
  unfold lineB at this
  simp only [Bool.and_eq_true, Bool.not_eq_true'] at this
  have h1 := this.1.1.2
  rw [List.contains_iff_mem.2 hh] at h1; cases h1
theorem no13d (q : ByteArray) (h : (13 : UInt8) ∉ q.data.toList) : (13 : UInt8) ∉ (dotted q).data.toList := by
  unfold dotted
  split
  · rw [ByteArray.data_append, Array.toList_append]
    intro hh
    rcases List.mem_append.1 hh with hh | hh
    · exact absurd hh (by decide)
    · exact h hh
  · exact h
/-- A body that is right comes back from its stuffed form. -/
theorem back_f (b : ByteArray) (hs : b.size ≤ 100000) (qs : List ByteArray) (last : ByteArray) (e1 : sp b crlf = qs ++ [last]) (hb : bodyB qs last b = true) : Ev (fun k => X.impl_Unstuff.f k (stf qs ⟨#[]⟩)) (b, true) := by
  have hv : stuffV b = stf qs ⟨#[]⟩ := by rw [stuffV_eq b qs last e1, if_pos hb]
  have hsz : (stf qs ⟨#[]⟩).size ≤ 6003 := by rw [← hv]; exact stuffV_size b
  have hl : (stf qs ⟨#[]⟩).data.toList = catL (qs.map dotted) ++ [46, 13, 10] := stf_lists qs ⟨#[]⟩
  generalize hS : stf qs ⟨#[]⟩ = s at *
  have hsl := data_length s
  have htl : tailB s = true := (tail_iff s).2 ⟨_, hl⟩
  have hlen : s.size = (catL (qs.map dotted)).length + 3 := by rw [← hsl, hl]; simp
  have hcut : (s.extract 0 (s.size - 3)).data.toList = catL (qs.map dotted) := by
    rw [data_extract, hl, hlen, List.drop_zero]; simp
  have h13 : ∀ l ∈ qs.map dotted, (13 : UInt8) ∉ l.data.toList := by
    intro l hm
    obtain ⟨q, hq, rfl⟩ := List.mem_map.1 hm
    exact no13d q (no13 b qs last hb q hq)
  have hsp := sp_lines (qs.map dotted) h13 _ hcut
  obtain ⟨qs', last', f1, f2⟩ := lines_of (s.extract 0 (s.size - 3))
  rw [hsp] at f1
  obtain ⟨g1, g2⟩ := List.append_inj' f1 rfl
  simp only [List.cons.injEq, and_true] at g2
  subst g1 g2
  have W := implUns s (by omega) (s.extract 0 (s.size - 3)) (by rw [ByteArray.size_extract]; omega) (by rw [suffix_f s (by omega), htl]; rfl) _ _ hsp f2
  have hbody : unb (qs.map dotted) ⟨#[]⟩ ++ strip ⟨#[]⟩ = b := by
    have hs0 : strip (⟨#[]⟩ : ByteArray) = ⟨#[]⟩ := by unfold strip; rw [if_neg (fun h => h.1 rfl)]
    have hlast : last.data.toList = [] := by
      have := (body_bounds b qs last e1 hb).2.2
      rw [ByteArray.toList_eq] at this; exact this
    apply ByteArray.ext; apply Array.ext'
    rw [hs0, ByteArray.data_append, Array.toList_append, unb_dotted, sp_cat b qs last e1, hlast]
    simp
  rw [hbody] at W
  have hfin : fin2 s b = (b, true) := by
    have hne : ¬ s.toList = [] := fun h0 => by rw [ByteArray.toList_eq] at h0; rw [h0] at hsl; simp at hsl; omega
    unfold fin2 fin
    rw [if_neg hne, hv, if_pos rfl]
  rw [hfin] at W
  exact W
def eol : List UInt8 := [13, 10, 46, 13, 10]
theorem dot_head (q : ByteArray) (x : UInt8) (r : List UInt8) (h : (dotted q).data.toList = 46 :: x :: r ∨ (dotted q).data.toList = [46]) : ∃ r', (dotted q).data.toList = 46 :: 46 :: r' := by
  unfold dotted at h ⊢
  by_cases hq : q.size ≠ 0 ∧ bt q 0 = 46
  · rw [if_pos hq] at h ⊢
    have hd : (dot ++ q).data.toList = 46 :: q.data.toList := by rw [ByteArray.data_append, Array.toList_append]; rfl
    rw [hd]
    have hz := data_length q
    match hh : q.data.toList with
    | [] => rw [hh] at hz; simp at hz; omega
    | y :: r' =>
      have hb := bt_get q 0 (by omega)
      rw [show ((0 : Nat) : Int) = 0 from rfl, hq.2] at hb
      simp only [hh, List.getElem_cons_zero] at hb
      have hy : y = 46 := ((byte_iff y 46).1 hb.symm)
      exact ⟨r', by rw [hy]⟩
  · rw [if_neg hq] at h ⊢
    exfalso; apply hq
    have hz := data_length q
    have h0 : q.data.toList[0]? = some 46 := by rcases h with h | h <;> rw [h] <;> rfl
    have hp : 0 < q.size := by
      rcases Nat.eq_zero_or_pos q.size with h' | h'
      · rw [h'] at hz; rw [List.eq_nil_of_length_eq_zero hz] at h0; cases h0
      · exact h'
    refine ⟨by omega, ?_⟩
    have hb := bt_get q 0 hp
    rw [show ((0 : Nat) : Int) = 0 from rfl] at hb
    rw [hb]
    rw [List.getElem?_eq_getElem (by omega)] at h0
    rw [Option.some.inj h0]; rfl
/-- The end of a stuffed text stands at its end alone. -/
theorem eol_index : ∀ (qs : List ByteArray), (∀ q ∈ qs, (13 : UInt8) ∉ q.data.toList) → Lib.index ([13, 10] ++ (catL (qs.map dotted) ++ [46, 13, 10])) eol = ((catL (qs.map dotted)).length : Int)
  | [], _ => by decide
  | q :: qs, h => by
    have ih := eol_index qs (fun x hx => h x (List.mem_cons_of_mem _ hx))
    have hq := no13d q (h q (List.mem_cons_self ..))
    have hd := dot_head q
    have hc : catL ((q :: qs).map dotted) = (dotted q).data.toList ++ ([13, 10] ++ catL (qs.map dotted)) := by
      simp only [catL, List.map_cons, List.flatten_cons, List.append_assoc]
    rw [hc]
    generalize (dotted q).data.toList = d at hq hd ⊢
    generalize hR : [13, 10] ++ (catL (qs.map dotted) ++ [46, 13, 10]) = R at ih
    have e0 : [13, 10] ++ (d ++ ([13, 10] ++ catL (qs.map dotted)) ++ [46, 13, 10]) = 13 :: 10 :: (d ++ R) := by rw [← hR]; simp
    rw [e0]
    -- no match within the line
    have skip : ∀ (e : List UInt8), (13 : UInt8) ∉ e → Lib.index (e ++ R) eol = (e.length : Int) + Lib.index R eol := by
      intro e
      induction e with
      | nil => intro _; simp
      | cons b e ihe =>
        intro hb
        have hb1 : b ≠ 13 := fun hh => hb (by rw [hh]; exact List.mem_cons_self ..)
        have := ihe (fun hh => hb (List.mem_cons_of_mem _ hh))
        have hp : eol.isPrefixOf (b :: (e ++ R)) = false := by unfold eol; simp [List.isPrefixOf, Ne.symm hb1]
        rw [List.cons_append, Lib.index, hp, this, ih]
        simp only [Bool.false_eq_true, if_false, List.length_cons]
        rw [if_neg (by simp; omega)]
        omega
    have p0 : eol.isPrefixOf (13 :: 10 :: (d ++ R)) = false := by
      unfold eol
      match d, hq, hd with
      | [], _, _ => rw [← hR]; rfl
      | [x], hq, hd =>
        have hx : x ≠ 46 := by
          rintro rfl
          obtain ⟨r', e'⟩ := hd 0 [] (.inr rfl)
          cases e'
        simp [List.isPrefixOf, Ne.symm hx]
      | x :: y :: r, hq, hd =>
        have hy : y ≠ 13 := fun hh => hq (by rw [hh]; simp)
        simp [List.isPrefixOf, Ne.symm hy]
    have p1 : eol.isPrefixOf (10 :: (d ++ R)) = false := by unfold eol; simp [List.isPrefixOf]
    have hs := skip d hq
    rw [ih] at hs
    rw [Lib.index, p0, Lib.index, p1, hs]
    simp only [Bool.false_eq_true, if_false]
    rw [if_neg (by simp; omega), if_neg (by simp; omega)]
    simp only [List.length_append, List.length_cons, List.length_nil]
    omega
theorem at_l0 (s p : ByteArray) (hs : s.size ≤ 1048576) (hp : p.size ≤ 1048576) (m : Nat) (hm : m + p.size ≤ s.size) (ho : Lib.occAt s.data.toList p.data.toList m = true) (hno : ∀ j, j < m → Lib.occAt s.data.toList p.data.toList j = false) : ∀ (n i : Nat), m - i = n → i ≤ m → Ev (fun k => X.laws_at.l0 k s p (i : Int)) (m : Int) := by
  intro n
  induction n with
  | zero =>
    intro i hn hi
    obtain rfl : i = m := by omega
    have ew : wrap64 ((i : Int) + (p.size : Int)) = ((i + p.size : Nat) : Int) := by rw [wrap_id _ (by omega) (by omega)]; omega
    refine Ev.step (f := fun _ => some (i : Int)) (fun k => ?_) (Ev.now _)
    rw [X.laws_at.l0, ew, if_pos (by omega), if_pos (by omega), if_pos (by omega), Int.toNat_natCast, Int.toNat_natCast, if_pos ((occ_at s p i hm).2 ho)]
  | succ n ih =>
    intro i hn hi
    have ew : wrap64 ((i : Int) + (p.size : Int)) = ((i + p.size : Nat) : Int) := by rw [wrap_id _ (by omega) (by omega)]; omega
    have ew2 : wrap64 ((i : Int) + 1) = ((i + 1 : Nat) : Int) := by rw [wrap_id _ (by omega) (by omega)]; omega
    refine Ev.step (fun k => ?_) (ih (i + 1) (by omega) (by omega))
    rw [X.laws_at.l0, ew, if_pos (by omega), if_pos (by omega), if_pos (by omega), Int.toNat_natCast, Int.toNat_natCast, if_neg (fun h => by have := (occ_at s p i (by omega)).1 h; rw [hno i (by omega)] at this; cases this), ew2]
theorem at_f (s p : ByteArray) (hs : s.size ≤ 1048576) (hp : p.size ≤ 1048576) (m : Nat) (hi : Lib.index s.data.toList p.data.toList = (m : Int)) (hne : p.data.toList ≠ []) : Ev (fun k => X.laws_at.f k s p 0) (m : Int) := by
  rcases Lib.index_spec s.data.toList p.data.toList with ⟨h1, _⟩ | ⟨i, h1, h2, h3, h4⟩
  · rw [h1] at hi; omega
  · obtain rfl : i = m := by rw [h1] at hi; omega
    have hr := (Lib.occAt_room h3).resolve_right hne
    rw [data_length, data_length] at hr
    exact Ev.congr (fun k => rfl) (at_l0 s p hs hp i hr h3 h4 i 0 (by omega) (by omega))
end Go.Proofs.YtnhhbdhkhdbanaaDoor.Pure
