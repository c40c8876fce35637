/- The pure statement of FnParts. Plain Lean. -/
import Derived.Test.YtnhhbdhkhdbanaaDoorQX9
import Derived.Test.YtnhhbdhkhdbanaaDoorQX8
import Derived.Test.YtnhhbdhkhdbanaaDoorQX8
import Derived.Test.YtnhhbdhkhdbanaaDoorQX8
import Derived.Test.YtnhhbdhkhdbanaaDoorQPPart
import Derived.Test.YtnhhbdhkhdbanaaDoorQPDraw
namespace Go.Proofs.YtnhhbdhkhdbanaaDoor.Pure
open Go Go.RowKit Go.Proofs.YtnhhbdhkhdbanaaDoorW.PrintWords
set_option linter.unusedVariables false
set_option linter.unusedSimpArgs false
theorem get_small (xs : List ByteArray) (m : Nat) (h : ∀ p ∈ xs, p.size ≤ m) (j : Int) (h0 : 0 ≤ j) (h1 : j < (xs.length : Int)) : (rdOf ByteArray.empty xs j).size ≤ m := by
  obtain ⟨i, rfl⟩ : ∃ i : Nat, j = (i : Int) := ⟨j.toNat, by omega⟩
  rw [rd_get xs i (by omega)]
  exact h _ (List.getElem_mem _)
def rp1 : List ByteArray := [⟨#[50, 53, 48]⟩, ⟨#[50, 50, 48]⟩, ⟨#[51, 53, 52]⟩, ⟨#[52, 53, 49]⟩, ⟨#[53, 53, 48]⟩, ⟨#[52, 50, 49]⟩, ⟨#[50, 53, 49]⟩, ⟨#[50, 50, 49]⟩]
def rp2 : List ByteArray := [⟨#[111, 110, 101, 46, 101, 120, 97, 109, 112, 108, 101]⟩, ⟨#[83, 73, 90, 69, 32, 49, 48, 48]⟩, ⟨#[115, 105, 122, 101, 32, 50, 48, 48, 48, 48, 48, 48]⟩, ⟨#[83, 73, 90, 69]⟩, ⟨#[83, 73, 90, 69, 32, 49, 50, 120]⟩, ⟨#[56, 66, 73, 84, 77, 73, 77, 69]⟩, ⟨#[]⟩, ⟨#[83, 105, 122, 101, 32, 48]⟩]
def rp3 : List ByteArray := [⟨#[32, 111, 107]⟩, ⟨#[]⟩, ⟨#[32]⟩, ⟨#[32, 110, 111, 32, 115, 117, 99, 104, 32, 117, 115, 101, 114, 32, 104, 101, 114, 101]⟩, ⟨#[32, 255, 32, 111, 100, 100, 32, 1]⟩]
theorem rp1_get (j : Int) (h0 : 0 ≤ j) (h1 : j < 8) : (rdOf ByteArray.empty rp1 j).size ≤ 3 := by
  refine get_small rp1 3 (fun p hp => ?_) j h0 (by show j < 8; exact h1)
  unfold rp1 at hp
  simp only [List.mem_cons, List.not_mem_nil, or_false] at hp
  rcases hp with h | h | h | h | h | h | h | h <;> subst h <;> decide
theorem rp2_get (j : Int) (h0 : 0 ≤ j) (h1 : j < 8) : (rdOf ByteArray.empty rp2 j).size ≤ 12 := by
  refine get_small rp2 12 (fun p hp => ?_) j h0 (by show j < 8; exact h1)
  unfold rp2 at hp
  simp only [List.mem_cons, List.not_mem_nil, or_false] at hp
  rcases hp with h | h | h | h | h | h | h | h <;> subst h <;> decide
theorem rp3_get (j : Int) (h0 : 0 ≤ j) (h1 : j < 5) : (rdOf ByteArray.empty rp3 j).size ≤ 18 := by
  refine get_small rp3 18 (fun p hp => ?_) j h0 (by show j < 5; exact h1)
  unfold rp3 at hp
  simp only [List.mem_cons, List.not_mem_nil, or_false] at hp
  rcases hp with h | h | h | h | h <;> subst h <;> decide
theorem cr2' (x : ByteArray) : (x ++ (⟨#[13, 10]⟩ : ByteArray)).size = x.size + 2 := by rw [ByteArray.size_append]; rfl
theorem da1 (x : ByteArray) : (x ++ (⟨#[45]⟩ : ByteArray)).size = x.size + 1 := by rw [ByteArray.size_append]; rfl
theorem reply_l0 (l : List Int) (hl : Bytes l) (code : ByteArray) (hc : code.size ≤ 3) : ∀ (n : Nat) (acc : ByteArray) (p : Nat), n ≤ 100 → acc.size + 100 * n ≤ 1000000 → p ≤ l.length → ∃ (r : ByteArray) (p' : Nat), Ev (fun k => X.spec_l1rd_l2reply.l0 k code acc (n : Int) l (p : Int)) (r, (p' : Int)) ∧ r.size ≤ acc.size + 100 * n + 100 ∧ p' ≤ l.length := by
  intro n
  induction n with
  | zero =>
    intro acc p hn ha hp
    obtain ⟨c, p1, e1, c0, c1, b1⟩ := next_f l hl p hp
    have m2 : Int.tmod c 5 = c % 5 := tmod_pos _ _ c0
    have hq := rp3_get (c % 5) (by omega) (by omega)
    unfold rp3 at hq
    generalize hQ : rdOf ByteArray.empty [(⟨#[32, 111, 107]⟩ : ByteArray), ⟨#[]⟩, ⟨#[32]⟩, ⟨#[32, 110, 111, 32, 115, 117, 99, 104, 32, 117, 115, 101, 114, 32, 104, 101, 114, 101]⟩, ⟨#[32, 255, 32, 111, 100, 100, 32, 1]⟩] (c % 5) = q at hq
    have z1 : (acc ++ code).size = acc.size + code.size := by rw [ByteArray.size_append]
    have z2 : ((acc ++ code) ++ q).size = acc.size + code.size + q.size := by rw [ByteArray.size_append, z1]
    refine ⟨((acc ++ code) ++ q) ++ (⟨#[13, 10]⟩ : ByteArray), p1, Ev.step (f := fun _ => some (((acc ++ code) ++ q) ++ (⟨#[13, 10]⟩ : ByteArray), (p1 : Int))) (fun k => ?_) (Ev.now _), by rw [cr2']; omega, b1⟩
    rw [X.spec_l1rd_l2reply.l0, if_neg (by omega), e1, Option.bind_some, if_pos (by omega)]
    simp only [Option.bind_some, m2, hQ]
    rw [if_pos (by omega), if_pos (by simp; omega), if_pos (by omega), if_pos (by omega)]
  | succ n ih =>
    intro acc p hn ha hp
    obtain ⟨c, p1, e1, c0, c1, b1⟩ := next_f l hl p hp
    have m2 : Int.tmod c 8 = c % 8 := tmod_pos _ _ c0
    have hq := rp2_get (c % 8) (by omega) (by omega)
    have ew : wrap64 (((n + 1 : Nat) : Int) - 1) = (n : Int) := by rw [wrap_id _ (by omega) (by omega)]; omega
    unfold rp2 at hq
    generalize hQ : rdOf ByteArray.empty [(⟨#[111, 110, 101, 46, 101, 120, 97, 109, 112, 108, 101]⟩ : ByteArray), ⟨#[83, 73, 90, 69, 32, 49, 48, 48]⟩, ⟨#[115, 105, 122, 101, 32, 50, 48, 48, 48, 48, 48, 48]⟩, ⟨#[83, 73, 90, 69]⟩, ⟨#[83, 73, 90, 69, 32, 49, 50, 120]⟩, ⟨#[56, 66, 73, 84, 77, 73, 77, 69]⟩, ⟨#[]⟩, ⟨#[83, 105, 122, 101, 32, 48]⟩] (c % 8) = q at hq
    have z0 := da1 code
    have z1 : ((code ++ (⟨#[45]⟩ : ByteArray)) ++ q).size = code.size + 1 + q.size := by rw [ByteArray.size_append, z0]
    have z2 : (((code ++ (⟨#[45]⟩ : ByteArray)) ++ q) ++ (⟨#[13, 10]⟩ : ByteArray)).size = code.size + 1 + q.size + 2 := by rw [cr2', z1]
    have z3 : (acc ++ (((code ++ (⟨#[45]⟩ : ByteArray)) ++ q) ++ (⟨#[13, 10]⟩ : ByteArray))).size = acc.size + (code.size + 1 + q.size + 2) := by rw [ByteArray.size_append, z2]
    obtain ⟨r, p', h1, h2, h3⟩ := ih (acc ++ (((code ++ (⟨#[45]⟩ : ByteArray)) ++ q) ++ (⟨#[13, 10]⟩ : ByteArray))) p1 (by omega) (by omega) b1
    refine ⟨r, p', Ev.step (fun k => ?_) h1, by omega, h3⟩
    rw [X.spec_l1rd_l2reply.l0, if_pos (by omega), e1, Option.bind_some, if_pos (by omega)]
    simp only [Option.bind_some, m2, hQ]
    rw [if_pos (by omega), if_pos (by simp; omega), if_pos (by omega), if_pos (by omega), if_pos (by omega), ew]
theorem l2reply_f (l : List Int) (hl : Bytes l) (p : Nat) (hp : p ≤ l.length) : ∃ (r : ByteArray) (p' : Nat), Ev (fun k => X.spec_l1rd_l2reply.f k l (p : Int)) (r, (p' : Int)) ∧ r.size ≤ 1000 ∧ p' ≤ l.length := by
  obtain ⟨c, p1, e1, c0, c1, b1⟩ := next_f l hl p hp
  have m2 : Int.tmod c 8 = c % 8 := tmod_pos _ _ c0
  have d1 : Int.tdiv c 8 = c / 8 := tdiv_pos _ _ c0
  have d2 : wrap64 (c / 8) = c / 8 := wrap_id _ (by omega) (by omega)
  have d3 : Int.tmod (c / 8) 4 = ((c / 8 % 4).toNat : Int) := by rw [tmod_pos _ _ (by omega)]; omega
  have hq := rp1_get (c % 8) (by omega) (by omega)
  unfold rp1 at hq
  generalize hQ : rdOf ByteArray.empty [(⟨#[50, 53, 48]⟩ : ByteArray), ⟨#[50, 50, 48]⟩, ⟨#[51, 53, 52]⟩, ⟨#[52, 53, 49]⟩, ⟨#[53, 53, 48]⟩, ⟨#[52, 50, 49]⟩, ⟨#[50, 53, 49]⟩, ⟨#[50, 50, 49]⟩] (c % 8) = q at hq
  obtain ⟨r, p', g1, g2, g3⟩ := reply_l0 l hl q hq (c / 8 % 4).toNat ⟨#[]⟩ p1 (by omega) (by show 0 + _ ≤ _; omega) b1
  have hs0 : (⟨#[]⟩ : ByteArray).size = 0 := rfl
  refine ⟨r, p', Ev.congr (fun k => ?_) g1, by omega, g3⟩
  unfold X.spec_l1rd_l2reply.f
  rw [e1, Option.bind_some]
  simp only [Option.bind_some, m2, d1, d2, d3, hQ]
  rw [if_pos (by omega), if_pos (by simp; omega)]
theorem draw_l0 (c : Int) (h0 : 0 ≤ c) : ∀ (n i : Nat) (acc : ByteArray), 50 + (c % 2).toNat - i = n → acc.size ≤ 100 * i → i ≤ 60 → ∃ r : ByteArray, Ev (fun k => X.spec_DrawParseReply.l0 k c acc (i : Int)) r ∧ r.size ≤ 20000 := by
  have m2 : Int.tmod c 2 = c % 2 := tmod_pos _ _ h0
  have ew : wrap64 (50 + c % 2) = 50 + c % 2 := wrap_id _ (by omega) (by omega)
  intro n
  induction n with
  | zero =>
    intro i acc hn ha hi
    refine ⟨acc ++ (⟨#[50, 53, 48, 32, 120, 13, 10]⟩ : ByteArray), Ev.step (f := fun _ => some (acc ++ (⟨#[50, 53, 48, 32, 120, 13, 10]⟩ : ByteArray))) (fun k => ?_) (Ev.now _), ?_⟩
    · rw [X.spec_DrawParseReply.l0, m2, ew, if_neg (by omega), if_pos (by omega)]
    · rw [ByteArray.size_append]; show acc.size + 7 ≤ _; omega
  | succ n ih =>
    intro i acc hn ha hi
    have e2 : wrap64 ((i : Int) + 1) = ((i + 1 : Nat) : Int) := by rw [wrap_id _ (by omega) (by omega)]; omega
    have hz : (acc ++ (⟨#[50, 53, 48, 45, 120, 13, 10]⟩ : ByteArray)).size = acc.size + 7 := by rw [ByteArray.size_append]; rfl
    obtain ⟨r, h1, h2⟩ := ih (i + 1) (acc ++ (⟨#[50, 53, 48, 45, 120, 13, 10]⟩ : ByteArray)) (by omega) (by omega) (by omega)
    refine ⟨r, Ev.step (fun k => ?_) h1, h2⟩
    rw [X.spec_DrawParseReply.l0, m2, ew, if_pos (by omega), if_pos (by omega), e2]
theorem drawParse_f (l : List Int) (hl : Bytes l) : ∃ r : ByteArray, Ev (fun k => X.spec_DrawParseReply.f k l) r ∧ r.size ≤ 100000 := by
  obtain ⟨c, p1, e1, c0, c1, b1⟩ := next_f l hl 0 (Nat.zero_le _)
  obtain ⟨s, p2, e2, z2, b2⟩ := l2reply_f l hl p1 b1
  have F : ∀ R, Ev (fun k => (if c ≥ 250 then (X.spec_DrawParseReply.l0 k c (⟨#[]⟩ : ByteArray) 1) else (if c ≥ 244 then ((X.spec_l1fill.f k (wrap64 (506 + (Int.tmod c 2)))).bind fun t537 => (if 4 + t537.size ≤ 9223372036854775807 then (if 0 ≤ (Int.tmod c 3) then (if (Int.tmod c 3) ≤ 2 then (if ((⟨#[50, 53, 48, 32]⟩ : ByteArray) ++ t537).size + ((⟨#[13, 10]⟩ : ByteArray).extract 0 ((Int.tmod c 3) : Int).toNat).size ≤ 9223372036854775807 then (some (((⟨#[50, 53, 48, 32]⟩ : ByteArray) ++ t537) ++ ((⟨#[13, 10]⟩ : ByteArray).extract 0 ((Int.tmod c 3) : Int).toNat))) else (none)) else (none)) else (none)) else (none))) else (if (Int.tmod c 4) = 3 then ((X.spec_l1rd_next.f l (p2 : Int)).bind fun bt538 => (if (wrap64 ((s.size : Int) + 1)) = 0 then (none) else (if 0 ≤ (Int.tmod bt538.1 (wrap64 ((s.size : Int) + 1))) then (if (Int.tmod bt538.1 (wrap64 ((s.size : Int) + 1))) ≤ (s.size : Int) then (some (s.extract 0 ((Int.tmod bt538.1 (wrap64 ((s.size : Int) + 1))) : Int).toNat)) else (none)) else (none)))) else (if (Int.tmod c 5) = 4 then ((X.spec_l1rd_l2spoil.f l (p2 : Int) s).bind fun bt540 => (some bt540.1)) else (if (Int.tmod c 3) = 2 then ((X.spec_l1rd_l2reply.f k l (p2 : Int)).bind fun bt542 => (if s.size + bt542.1.size ≤ 9223372036854775807 then (some (s ++ bt542.1)) else (none))) else (some s))))))) R → Ev (fun k => X.spec_DrawParseReply.f k l) R := fun R h =>
    Ev.congr (f := fun k => (X.spec_l1rd_l2reply.f k l (p1 : Int)).bind fun bt535 => (if c ≥ 250 then (X.spec_DrawParseReply.l0 k c (⟨#[]⟩ : ByteArray) 1) else (if c ≥ 244 then ((X.spec_l1fill.f k (wrap64 (506 + (Int.tmod c 2)))).bind fun t537 => (if 4 + t537.size ≤ 9223372036854775807 then (if 0 ≤ (Int.tmod c 3) then (if (Int.tmod c 3) ≤ 2 then (if ((⟨#[50, 53, 48, 32]⟩ : ByteArray) ++ t537).size + ((⟨#[13, 10]⟩ : ByteArray).extract 0 ((Int.tmod c 3) : Int).toNat).size ≤ 9223372036854775807 then (some (((⟨#[50, 53, 48, 32]⟩ : ByteArray) ++ t537) ++ ((⟨#[13, 10]⟩ : ByteArray).extract 0 ((Int.tmod c 3) : Int).toNat))) else (none)) else (none)) else (none)) else (none))) else (if (Int.tmod c 4) = 3 then ((X.spec_l1rd_next.f l bt535.2).bind fun bt538 => (if (wrap64 ((bt535.1.size : Int) + 1)) = 0 then (none) else (if 0 ≤ (Int.tmod bt538.1 (wrap64 ((bt535.1.size : Int) + 1))) then (if (Int.tmod bt538.1 (wrap64 ((bt535.1.size : Int) + 1))) ≤ (bt535.1.size : Int) then (some (bt535.1.extract 0 ((Int.tmod bt538.1 (wrap64 ((bt535.1.size : Int) + 1))) : Int).toNat)) else (none)) else (none)))) else (if (Int.tmod c 5) = 4 then ((X.spec_l1rd_l2spoil.f l bt535.2 bt535.1).bind fun bt540 => (some bt540.1)) else (if (Int.tmod c 3) = 2 then ((X.spec_l1rd_l2reply.f k l bt535.2).bind fun bt542 => (if bt535.1.size + bt542.1.size ≤ 9223372036854775807 then (some (bt535.1 ++ bt542.1)) else (none))) else (some bt535.1))))))) (fun k => by unfold X.spec_DrawParseReply.f; rw [show (0 : Int) = ((0 : Nat) : Int) from rfl, e1, Option.bind_some]) (Ev.bind e2 h)
  by_cases h1 : c ≥ 250
  · obtain ⟨r, g1, g2⟩ := draw_l0 c c0 _ 1 ⟨#[]⟩ rfl (Nat.zero_le _) (by omega)
    exact ⟨r, F r (Ev.congr (fun k => if_pos h1) g1), by omega⟩
  by_cases h2 : c ≥ 244
  · have m2 : Int.tmod c 2 = c % 2 := tmod_pos _ _ c0
    have m3 : Int.tmod c 3 = c % 3 := tmod_pos _ _ c0
    have ew : wrap64 (506 + c % 2) = ((506 + (c % 2).toNat : Nat) : Int) := by rw [wrap_id _ (by omega) (by omega)]; omega
    obtain ⟨f, g1, g2⟩ := fill_f (506 + (c % 2).toNat) (by omega)
    have z4 : ((⟨#[50, 53, 48, 32]⟩ : ByteArray) ++ f).size = 4 + f.size := by rw [ByteArray.size_append]; rfl
    have z5 : ((⟨#[13, 10]⟩ : ByteArray).extract 0 (c % 3).toNat).size ≤ 2 := by rw [ByteArray.size_extract]; show min _ 2 - 0 ≤ 2; omega
    refine ⟨((⟨#[50, 53, 48, 32]⟩ : ByteArray) ++ f) ++ ((⟨#[13, 10]⟩ : ByteArray).extract 0 (c % 3).toNat), F _ (Ev.congr (fun k => (if_neg h1).trans (if_pos h2)) ?_), by rw [ByteArray.size_append, z4]; omega⟩
    rw [m2, m3, ew]
    exact Ev.bind g1 (Ev.congr (f := fun _ => some (((⟨#[50, 53, 48, 32]⟩ : ByteArray) ++ f) ++ ((⟨#[13, 10]⟩ : ByteArray).extract 0 (c % 3).toNat))) (fun k => by rw [if_pos (by omega), if_pos (by omega), if_pos (by omega), if_pos (by omega)]) (Ev.now _))
  by_cases h3 : Int.tmod c 4 = 3
  · obtain ⟨v, p3, e3, v0, v1, b3⟩ := next_f l hl p2 b2
    have ew : wrap64 ((s.size : Int) + 1) = (s.size : Int) + 1 := wrap_id _ (by omega) (by omega)
    have mv : Int.tmod v ((s.size : Int) + 1) = v % ((s.size : Int) + 1) := tmod_pos _ _ v0
    have n0 : 0 ≤ v % ((s.size : Int) + 1) := Int.emod_nonneg _ (by omega)
    have n1 : v % ((s.size : Int) + 1) < (s.size : Int) + 1 := Int.emod_lt_of_pos _ (by omega)
    refine ⟨s.extract 0 (v % ((s.size : Int) + 1)).toNat, F _ (Ev.congr (f := fun _ => some (s.extract 0 (v % ((s.size : Int) + 1)).toNat)) (fun k => ?_) (Ev.now _)), by rw [ByteArray.size_extract]; omega⟩
    rw [if_neg h1, if_neg h2, if_pos h3, e3, Option.bind_some, ew, mv, if_neg (by omega), if_pos n0, if_pos (by omega)]
  by_cases h4 : Int.tmod c 5 = 4
  · obtain ⟨r, p3, e3, z3, b3⟩ := spoil_f l hl p2 b2 s (by omega)
    exact ⟨r, F r (Ev.congr (f := fun _ => some r) (fun k => by rw [if_neg h1, if_neg h2, if_neg h3, if_pos h4, e3, Option.bind_some]) (Ev.now _)), by omega⟩
  by_cases h5 : Int.tmod c 3 = 2
  · obtain ⟨r, p3, e3, z3, b3⟩ := l2reply_f l hl p2 b2
    refine ⟨s ++ r, F _ (Ev.congr (fun k => (if_neg h1).trans ((if_neg h2).trans ((if_neg h3).trans ((if_neg h4).trans (if_pos h5))))) (Ev.bind e3 (Ev.congr (fun k => if_pos (show s.size + r.size ≤ 9223372036854775807 by omega)) (Ev.now _)))), by rw [ByteArray.size_append]; omega⟩
  · exact ⟨s, F s (Ev.congr (fun k => (if_neg h1).trans ((if_neg h2).trans ((if_neg h3).trans ((if_neg h4).trans (if_neg h5))))) (Ev.now _)), by omega⟩
theorem same_l0 (xs : List ByteArray) (hl : xs.length ≤ 1048576) : ∀ (n i : Nat), xs.length - i = n → i ≤ xs.length → Ev (fun k => X.laws_sameTexts.l0 k xs xs (xs.length : Int) (i : Int)) true := by
  intro n
  induction n with
  | zero => intro i hn hi; exact Ev.step (f := fun _ => some true) (fun k => by rw [X.laws_sameTexts.l0, if_neg (by omega)]) (Ev.now _)
  | succ n ih =>
    intro i hn hi
    have e2 : wrap64 ((i : Int) + 1) = ((i + 1 : Nat) : Int) := by rw [wrap_id _ (by omega) (by omega)]; omega
    refine Ev.step (fun k => ?_) (ih (i + 1) (by omega) (by omega))
    rw [X.laws_sameTexts.l0, if_pos (by omega), if_pos (by omega), if_pos (by omega), if_pos (by omega), if_pos rfl, e2]
theorem same_f (xs : List ByteArray) (hl : xs.length ≤ 1048576) : Ev (fun k => X.laws_sameTexts.f k xs xs) true :=
  Ev.congr (fun k => by unfold X.laws_sameTexts.f; rw [if_pos rfl]; rfl) (same_l0 xs hl xs.length 0 (by omega) (by omega))
theorem rep_len' (b : ByteArray) : ∀ (n u : Nat) (a1 : ByteArray) (acc : List ByteArray), (rep n b u a1 acc).2.1.length ≤ acc.length + n := by
  intro n
  induction n with
  | zero => intro u a1 acc; exact Nat.zero_le _
  | succ n ih =>
    intro u a1 acc
    unfold rep
    split
    · split <;> exact Nat.zero_le _
    · split
      · split
        · simp only [List.length_append, List.length_singleton]; omega
        · refine Nat.le_trans (ih _ _ _) ?_
          simp only [List.length_append, List.length_singleton]; omega
      · exact Nat.zero_le _
theorem parts_j2 (s : ByteArray) (hs : s.size ≤ 100000) (c : Nat) (hc : c ≤ s.size) : Ev (fun k => X.laws_FnParts.j2 k s (repV s).2.2.1 (repV s).2.2.2 (c : Int) (repV s).1 (repV s).2.1) true := by
  have hi := implRep_f (s.extract 0 c) (by rw [ByteArray.size_extract]; omega)
  have hS : Says c (repV (s.extract 0 c)) (repV s) := says s c hc 50 0 ⟨#[]⟩ [] (Nat.zero_le _)
  have hlen : (repV s).2.1.length ≤ 50 := by have := rep_len' s 50 0 ⟨#[]⟩ []; simpa [repV] using this
  generalize repV s = r at hS hlen ⊢
  generalize repV (s.extract 0 c) = r' at hi hS
  obtain ⟨s1, s2, s3, s4⟩ := hS
  refine Ev.step (f := fun k => (X.impl_ParseReply.f k (s.extract 0 c)).bind fun bt563 => (if bt563.2.2.2 = 3 then (some (r.2.2.2 == 3)) else (if bt563.2.2.2 = 2 then (if r.2.2.2 = 2 then (if bt563.2.2.1 = r.2.2.1 then (if bt563.1 = r.1 then ((X.laws_sameTexts.f k bt563.2.1 r.2.1).bind fun t570 => (some t570)) else (some false)) else (some false)) else (some false)) else (if bt563.2.2.2 = 1 then (if r.2.2.2 = 2 then (some (decide ((c : Int) < r.2.2.1))) else (some true)) else (some false))))) (fun k => ?_) (Ev.bind hi ?_)
  · rw [X.laws_FnParts.j2, if_pos (by omega), if_pos (by omega), Int.toNat_natCast]
  · rcases s4 with h | h | h
    · refine Ev.congr (fun k => (if_neg (by rw [h]; decide)).trans ((if_neg (by rw [h]; decide)).trans (if_pos h))) ?_
      by_cases h2 : r.2.2.2 = 2
      · exact Ev.congr (f := fun _ => some true) (fun k => by rw [if_pos h2, decide_eq_true (s3 h h2)]) (Ev.now _)
      · exact Ev.congr (fun k => if_neg h2) (Ev.now _)
    · have e := s2 h
      subst e
      refine Ev.congr (fun k => (if_neg (by rw [h]; decide)).trans ((if_pos h).trans ((if_pos h).trans ((if_pos rfl).trans (if_pos rfl))))) ?_
      exact Ev.bind (same_f _ (by omega)) (Ev.now _)
    · refine Ev.congr (f := fun _ => some true) (fun k => ?_) (Ev.now _)
      rw [if_pos h, s1 h]; rfl
theorem parts_j1 (l : List Int) (hl : Bytes l) (s : ByteArray) (hs : s.size ≤ 100000) (b : Bool) (hb : b = true → 0 < l.length) : Ev (fun k => X.laws_FnParts.j1 k l s (repV s).2.2.1 (repV s).2.2.2 (s.size : Int) b (repV s).1 (repV s).2.1) true := by
  cases b with
  | false => exact Ev.step (fun k => by rw [X.laws_FnParts.j1, if_neg (by decide)]) (parts_j2 s hs s.size (Nat.le_refl _))
  | true =>
    have h0 := hb rfl
    have ew : wrap64 ((l.length : Int) - 1) = ((l.length - 1 : Nat) : Int) := by have := hl.1; rw [wrap_id _ (by omega) (by omega)]; omega
    have ew2 : wrap64 ((s.size : Int) + 1) = (s.size : Int) + 1 := wrap_id _ (by omega) (by omega)
    have hx := hl.2 _ (List.getElem_mem (show l.length - 1 < l.length by omega))
    have er : rd l ((l.length - 1 : Nat) : Int) = l[l.length - 1] := rd_byte l _ (by omega)
    generalize l[l.length - 1]'(by omega) = v at hx er
    have ew3 : wrap64 v = v := wrap_id _ (by omega) (by omega)
    have mv : Int.tmod v ((s.size : Int) + 1) = v % ((s.size : Int) + 1) := tmod_pos _ _ hx.1
    have n0 : 0 ≤ v % ((s.size : Int) + 1) := Int.emod_nonneg _ (by omega)
    have n1 : v % ((s.size : Int) + 1) < (s.size : Int) + 1 := Int.emod_lt_of_pos _ (by omega)
    have J := parts_j2 s hs (v % ((s.size : Int) + 1)).toNat (by omega)
    rw [show (((v % ((s.size : Int) + 1)).toNat : Nat) : Int) = v % ((s.size : Int) + 1) by omega] at J
    refine Ev.step (fun k => ?_) J
    rw [X.laws_FnParts.j1, if_pos rfl, ew, if_pos (by omega), if_pos (by omega), ew2, if_neg (by omega), er, ew3, mv]
theorem parts_j0 (l : List Int) (hl : Bytes l) (s : ByteArray) (hs : s.size ≤ 100000) : Ev (fun k => X.laws_FnParts.j0 k l s (repV s).2.2.1 (repV s).2.2.2 false (repV s).1 (repV s).2.1) true := by
  by_cases h : (l.length : Int) > 0
  · exact Ev.step (fun k => by rw [X.laws_FnParts.j0, if_neg (by decide), if_pos h]) (parts_j1 l hl s hs (decide ((s.size : Int) > 0)) (fun _ => by omega))
  · exact Ev.step (fun k => by rw [X.laws_FnParts.j0, if_neg (by decide), if_neg h]) (parts_j1 l hl s hs false (fun h => by cases h))
theorem FnParts (a : List Int) (wa : a.length ≤ maxLen ∧ ∀ y ∈ a, (Lit.int .u8 y).wf = true) : ∃ k, X.laws_FnParts.f k a = some true := by
  by_cases h1 : (a.length : Int) > 1048576
  · exact ⟨0, by unfold X.laws_FnParts.f; rw [if_pos h1]⟩
  have hB : Bytes a := ⟨by omega, fun x hx => by
    have := wa.2 x hx
    have h2 : (decide ((0 : Int) ≤ x) && decide (x ≤ 255)) = true := this
    simpa using h2⟩
  obtain ⟨s, hs, hz⟩ := drawParse_f a hB
  have hi := implRep_f s (by omega)
  have hp := specRep_f s (by omega)
  have hlen : (repV s).2.1.length ≤ 50 := by have := rep_len' s 50 0 ⟨#[]⟩ []; simpa [repV] using this
  have hsame := same_f (repV s).2.1 (by omega)
  have J := parts_j0 a hB s hz
  have W : Ev (fun k => X.laws_FnParts.f k a) true := by
    refine Ev.congr (f := fun k => (X.spec_DrawParseReply.f k a).bind fun t546 => ((X.impl_ParseReply.f k t546).bind fun bt547 => ((X.spec_ParseReply.f k t546).bind fun bt554 => (if bt547.2.2.2 = bt554.2.2.2 then (if bt547.2.2.1 = bt554.2.2.1 then (if bt547.1 = bt554.1 then ((X.laws_sameTexts.f k bt547.2.1 bt554.2.1).bind fun t561 => (X.laws_FnParts.j0 k a t546 bt547.2.2.1 bt547.2.2.2 (!t561) bt547.1 bt547.2.1)) else (X.laws_FnParts.j0 k a t546 bt547.2.2.1 bt547.2.2.2 true bt547.1 bt547.2.1)) else (X.laws_FnParts.j0 k a t546 bt547.2.2.1 bt547.2.2.2 true bt547.1 bt547.2.1)) else (X.laws_FnParts.j0 k a t546 bt547.2.2.1 bt547.2.2.2 true bt547.1 bt547.2.1))))) (fun k => by unfold X.laws_FnParts.f; rw [if_neg h1]) ?_
    exact Ev.bind hs (Ev.bind hi (Ev.bind hp (Ev.congr (fun k => (if_pos rfl).trans ((if_pos rfl).trans (if_pos rfl))) (Ev.bind hsame J))))
  obtain ⟨K, hK⟩ := W
  exact ⟨K, hK K (Nat.le_refl _)⟩
end Go.Proofs.YtnhhbdhkhdbanaaDoor.Pure
