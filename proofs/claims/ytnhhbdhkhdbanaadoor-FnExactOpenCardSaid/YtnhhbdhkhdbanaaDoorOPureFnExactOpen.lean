/- The pure statement of FnExactOpen. Plain Lean. -/
import Derived.Test.YtnhhbdhkhdbanaaDoorOX14
import Derived.Test.YtnhhbdhkhdbanaaDoorOX3
import Derived.Test.YtnhhbdhkhdbanaaDoorOX9
import Derived.Test.YtnhhbdhkhdbanaaDoorOPRight
import Derived.Test.YtnhhbdhkhdbanaaDoorOPLaw
import Derived.Test.YtnhhbdhkhdbanaaDoorOPSes
namespace Go.Proofs.YtnhhbdhkhdbanaaDoor.Pure
open Go Go.RowKit Go.Proofs.YtnhhbdhkhdbanaaDoorW.PrintWords
set_option linter.unusedVariables false
set_option linter.unusedSimpArgs false
abbrev SES := Int × ByteArray × ByteArray × ByteArray × ByteArray × List ByteArray × Int × List Bool × List VI
def vz : VI := ⟨0, 0, ⟨#[]⟩⟩
def noS : SES := (9, ⟨#[]⟩, ⟨#[]⟩, ⟨#[]⟩, ⟨#[]⟩, [], 0, [], [])
def yesS (h f : ByteArray) (xs : List ByteArray) (b : ByteArray) : SES := (1, ⟨#[]⟩, h, f, b, xs, 0, List.replicate xs.length false, List.replicate xs.length vz)
def okB (h f : ByteArray) (xs : List ByteArray) (b : ByteArray) : Bool := domainB h && (fromB f && countB xs && xs.all addrB) && bodyV b
def openV (h f : ByteArray) (xs : List ByteArray) (b : ByteArray) : SES := if okB h f xs b = true then yesS h f xs b else noS
theorem implOpen_f (h f : ByteArray) (xs : List ByteArray) (b : ByteArray) (hl : xs.length ≤ 1048576) (hx : ∀ p ∈ xs, p.size < 4294967281) (hh : h.size < 4294967281) (hf : f.size < 4294967281) (hb : b.size < 4294967281) : Ev (fun k => X.impl_Open.f k h f xs b) (openV h f xs b) := by
  have hR := right_f h f b xs hl hx hh hf hb
  refine Ev.bind (f := fun k t297 => if t297 = true then ((some (([] : List ByteArray) : List ByteArray)).bind fun y298 => (if y298.length + xs.length < 8796093022208 then (if 0 ≤ (xs.length : Int) then (if ((xs.length : Int) : Int).toNat ≤ 281474976710656 then (if ((xs.length : Int) : Int).toNat ≤ 8796093022208 then (some (1, (⟨#[]⟩ : ByteArray), h, f, b, (y298 ++ xs), 0, (List.replicate ((xs.length : Int) : Int).toNat false), (List.replicate ((xs.length : Int) : Int).toNat X.z90))) else (none)) else (none)) else (none)) else (none))) else (some (9, (⟨#[]⟩ : ByteArray), (⟨#[]⟩ : ByteArray), (⟨#[]⟩ : ByteArray), (⟨#[]⟩ : ByteArray), ([] : List ByteArray), 0, ([] : List Bool), ([] : List VI)))) hR ?_
  unfold openV okB
  cases (domainB h && (fromB f && countB xs && xs.all addrB) && bodyV b) with
  | false => exact Ev.congr (fun k => if_neg (by decide)) (Ev.now _)
  | true =>
    refine Ev.congr (f := fun _ => some (yesS h f xs b)) (fun k => ?_) (Ev.now _)
    rw [if_pos rfl, Option.bind_some, if_pos (by show 0 + xs.length < _; omega), if_pos (by omega), Int.toNat_natCast, if_pos (by omega), if_pos (by omega)]
    rfl
theorem specOpen_l0 (h f b : ByteArray) (xs : List ByteArray) (hl : xs.length ≤ 1048576) : ∀ (n i : Nat), xs.length - i = n → i ≤ xs.length →
    Ev (fun k => X.spec_Open.l0 k xs (xs.length : Int) (i : Int) 1 ⟨#[]⟩ h f b (xs.take i) 0 (List.replicate i false) (List.replicate i vz)) (yesS h f xs b) := by
  intro n
  induction n with
  | zero =>
    intro i hn hi
    obtain rfl : i = xs.length := by omega
    refine Ev.step (f := fun _ => some (yesS h f xs b)) (fun k => ?_) (Ev.now _)
    rw [X.spec_Open.l0, if_neg (by omega), List.take_length]; rfl
  | succ n ih =>
    intro i hn hi
    have hi' : i < xs.length := by omega
    have e2 : wrap64 ((i : Int) + 1) = ((i + 1 : Nat) : Int) := by rw [wrap_id _ (by omega) (by omega)]; omega
    have hr := rd_get xs i hi'
    have hk := ih (i + 1) (by omega) (by omega)
    refine Ev.step (fun k => ?_) hk
    rw [X.spec_Open.l0, if_pos (by omega), if_pos (by omega), if_pos (by omega), if_pos (by rw [List.length_take]; omega), if_pos (by rw [List.length_replicate]; omega), if_pos (by rw [List.length_replicate]; omega), hr, e2, ← List.take_succ_eq_append_getElem hi', List.replicate_succ', List.replicate_succ']
    rfl
theorem specOpen_f (h f : ByteArray) (xs : List ByteArray) (b : ByteArray) (hl : xs.length ≤ 1048576) : Ev (fun k => X.spec_Open.f k h f xs b) (openV h f xs b) := by
  have JT : Ev (fun k => X.spec_Open.j0 k h f xs b true) noS := Ev.step (f := fun _ => some noS) (fun k => by rw [X.spec_Open.j0, if_pos rfl]; rfl) (Ev.now _)
  have JF : Ev (fun k => X.spec_Open.j0 k h f xs b false) (yesS h f xs b) := by
    refine Ev.step (fun k => ?_) (specOpen_l0 h f b xs hl xs.length 0 (by omega) (by omega))
    rw [X.spec_Open.j0, if_neg (by decide)]; rfl
  have hd := specDomain_f h
  have hw := whom_f f xs hl
  have hb := bodyV_s b
  refine Ev.bind (f := fun k t260 => if t260 = true then ((X.spec_l4whom.f k f xs).bind fun t261 => (if t261 = true then ((X.spec_ValidBody.f k b).bind fun t262 => (X.spec_Open.j0 k h f xs b (!t262))) else (X.spec_Open.j0 k h f xs b true))) else (X.spec_Open.j0 k h f xs b true)) hd ?_
  unfold openV okB
  cases domainB h with
  | false => exact Ev.congr (fun k => if_neg (by decide)) JT
  | true =>
    refine Ev.congr (fun k => if_pos rfl) (Ev.bind (f := fun k t261 => if t261 = true then ((X.spec_ValidBody.f k b).bind fun t262 => (X.spec_Open.j0 k h f xs b (!t262))) else (X.spec_Open.j0 k h f xs b true)) hw ?_)
    cases (fromB f && countB xs && xs.all addrB) with
    | false => exact Ev.congr (fun k => if_neg (by decide)) JT
    | true =>
      refine Ev.congr (fun k => if_pos rfl) (Ev.bind hb ?_)
      cases bodyV b with
      | false => exact JT
      | true => exact JF
section
variable (p : Int) (b1 b2 b3 b4 : ByteArray) (l : List ByteArray) (n : Int) (bs : List Bool) (vs : List VI) (hl : l.length ≤ 1048576) (hb : bs.length ≤ 1048576) (hv : vs.length ≤ 1048576)
include hl hb hv
theorem eqSes_f : Ev (fun k => X.laws_eqSession.f k p b1 b2 b3 b4 l n bs vs p b1 b2 b3 b4 l n bs vs) true := by
  refine Ev.congr (f := fun k => (X.laws_eqStringS.f k l l).bind fun t319 => (if t319 = true then (if n = n then ((X.laws_eqBoolS.f k bs bs).bind fun t320 => (if t320 = true then ((X.laws_eqVerdictS.f k vs vs).bind fun t321 => (if t321 = true then (some true) else (some false))) else (some false))) else (some false)) else (some false))) (fun k => ?_) ?_
  · unfold X.laws_eqSession.f; rw [if_pos rfl, if_pos rfl, if_pos rfl, if_pos rfl, if_pos rfl]
  · exact Ev.bind (eqString_f l hl) (Ev.congr (fun k => (if_pos rfl).trans (if_pos rfl)) (Ev.bind (eqBool_f bs hb) (Ev.congr (fun k => if_pos rfl) (Ev.bind (eqVerdict_f vs hv) (Ev.congr (fun k => if_pos rfl) (Ev.now _))))))
theorem markSes_f : Ev (fun k => X.laws_markSession.f k p b1 b2 b3 b4 l n bs vs 1) (1 + l.length + bs.length + 3 * vs.length, mks 1 l.length, mkB (1 + l.length) bs.length, mkV (1 + l.length + bs.length) vs.length) := by
  refine Ev.bind (f := fun k bt333 => (X.laws_markBoolS.f k bs bt333.1).bind fun bt335 => ((X.laws_markVerdictS.f k vs bt335.1).bind fun bt337 => (some (bt337.1, bt333.2, bt335.2, bt337.2)))) (markS_f l (by omega) 1 (by omega) (by omega)) ?_
  refine Ev.bind (f := fun k bt335 => (X.laws_markVerdictS.f k vs bt335.1).bind fun bt337 => (some (bt337.1, mks 1 l.length, bt335.2, bt337.2))) (markB_f bs (by omega) (1 + l.length) (by omega) (by omega)) ?_
  exact Ev.bind (f := fun k (bt337 : Int × List VI) => some (bt337.1, mks 1 l.length, mkB (1 + l.length) bs.length, bt337.2)) (markV_f vs (by omega) (1 + l.length + bs.length) (by omega) (by omega)) (Ev.now _)
theorem heldSes_f : Ev (fun k => X.laws_heldSession.f k p b1 b2 b3 b4 (mks 1 l.length) n (mkB (1 + l.length) bs.length) (mkV (1 + l.length + bs.length) vs.length) 1) (1 + l.length + bs.length + 3 * vs.length) := by
  refine Ev.bind (f := fun k t347 => if t347 < 0 then (some (-1)) else ((X.laws_heldBoolS.f k (mkB (1 + l.length) bs.length) t347).bind fun t348 => (if t348 < 0 then (some (-1)) else ((X.laws_heldVerdictS.f k (mkV (1 + l.length + bs.length) vs.length) t348).bind fun t349 => (if t349 < 0 then (some (-1)) else (some t349)))))) (heldS_f l.length (by omega) 1 (by omega) (by omega)) ?_
  refine Ev.congr (fun k => if_neg (by omega)) (Ev.bind (f := fun k t348 => if t348 < 0 then (some (-1)) else ((X.laws_heldVerdictS.f k (mkV (1 + l.length + bs.length) vs.length) t348).bind fun t349 => (if t349 < 0 then (some (-1)) else (some t349)))) (heldB_f bs.length (by omega) (1 + l.length) (by omega) (by omega)) ?_)
  exact Ev.congr (fun k => if_neg (by omega)) (Ev.bind (f := fun k (t349 : Int) => if t349 < 0 then (some (-1)) else (some t349)) (heldV_f vs.length (by omega) (1 + l.length + bs.length) (by omega) (by omega)) (Ev.congr (fun k => if_neg (by omega)) (Ev.now _)))
end
theorem openV_len (h f : ByteArray) (xs : List ByteArray) (b : ByteArray) (hl : xs.length ≤ 1048576) : (openV h f xs b).2.2.2.2.2.1.length ≤ 1048576 ∧ (openV h f xs b).2.2.2.2.2.2.2.1.length ≤ 1048576 ∧ (openV h f xs b).2.2.2.2.2.2.2.2.length ≤ 1048576 := by
  unfold openV
  split
  · refine ⟨hl, ?_, ?_⟩
    · show (List.replicate xs.length false).length ≤ _; rw [List.length_replicate]; exact hl
    · show (List.replicate xs.length vz).length ≤ _; rw [List.length_replicate]; exact hl
  · exact ⟨Nat.zero_le _, Nat.zero_le _, Nat.zero_le _⟩
theorem FnExactOpen (a0 : ByteArray) (w0 : a0.size ≤ maxLen) (a1 : ByteArray) (w1 : a1.size ≤ maxLen) (a2 : List ByteArray) (w2 : a2.length ≤ maxLen ∧ ∀ y ∈ a2, y.size ≤ maxLen) (a3 : ByteArray) (w3 : a3.size ≤ maxLen) : ∃ k, X.laws_FnExactOpen.f k a0 a1 a2 a3 = some true := by
  by_cases h0 : (a0.size : Int) > 1048576
  · exact ⟨0, by unfold X.laws_FnExactOpen.f; rw [if_pos h0]⟩
  by_cases h1 : (a1.size : Int) > 1048576
  · exact ⟨0, by unfold X.laws_FnExactOpen.f; rw [if_neg h0, if_pos h1]⟩
  by_cases h3 : (a3.size : Int) > 1048576
  · exact ⟨0, by unfold X.laws_FnExactOpen.f; rw [if_neg h0, if_neg h1, if_pos h3]⟩
  obtain ⟨t, ⟨K0, e0⟩, hp⟩ := szString_f a2 w2.1 w2.2 1048576 (by decide) (by decide)
  dsimp only at e0
  by_cases ht : t < 0
  · refine ⟨K0, ?_⟩
    unfold X.laws_FnExactOpen.f
    rw [if_neg h0, if_neg h1, if_neg h3, e0 K0 (Nat.le_refl _), Option.bind_some, if_pos ht]
  have hp' := hp.resolve_left (by omega)
  have hl : a2.length ≤ 1048576 := by omega
  have hx : ∀ p ∈ a2, p.size < 4294967281 := fun p hq => by have := hp'.2.2.2 p hq; omega
  obtain ⟨K1, e1⟩ := toString_f a2 hl
  obtain ⟨K2, e2⟩ := specOpen_f a0 a1 a2 a3 hl
  obtain ⟨K3, e3⟩ := implOpen_f a0 a1 a2 a3 hl hx (by omega) (by omega) (by omega)
  obtain ⟨g1, g2, g3⟩ := openV_len a0 a1 a2 a3 hl
  obtain ⟨K4, e4⟩ := eqString_f a2 hl
  obtain ⟨K5, e5⟩ := markS_f a2 (by omega) 1 (by omega) (by omega)
  generalize openV a0 a1 a2 a3 = R at e2 e3 g1 g2 g3
  obtain ⟨p, b1, b2, b3, b4, l, n, bs, vs⟩ := R
  obtain ⟨K6, e6⟩ := eqSes_f p b1 b2 b3 b4 l n bs vs g1 g2 g3
  obtain ⟨K7, e7⟩ := markSes_f p b1 b2 b3 b4 l n bs vs g1 g2 g3
  obtain ⟨K8, e8⟩ := heldSes_f p b1 b2 b3 b4 l n bs vs g1 g2 g3
  dsimp only at e1 e2 e3 e4 e5 e6 e7 e8
  refine ⟨K0 + K1 + K2 + K3 + K4 + K5 + K6 + K7 + K8 + 1, ?_⟩
  have J : X.laws_FnExactOpen.j0 (K0 + K1 + K2 + K3 + K4 + K5 + K6 + K7 + K8 + 1) a0 a1 a2 a3 false p b1 b2 b3 b4 l n bs vs p b1 b2 b3 b4 l n bs vs = some true := by
    rw [X.laws_FnExactOpen.j0, if_neg (by decide), e7 _ (by omega)]
    simp only [Option.bind_some]
    rw [e8 _ (by omega)]
    simp only [Option.bind_some]
    rw [if_neg (by omega), if_pos (by first | trivial | rfl), e1 _ (by omega)]
    simp only [Option.bind_some]
    rw [e3 _ (by omega)]
    simp only [Option.bind_some]
    rw [e6 _ (by omega)]
    simp only [Option.bind_some, if_true]
  unfold X.laws_FnExactOpen.f
  rw [if_neg h0, if_neg h1, if_neg h3, e0 _ (by omega), Option.bind_some, if_neg ht, e1 _ (by omega)]
  simp only [Option.bind_some]
  rw [e2 _ (by omega)]
  simp only [Option.bind_some]
  rw [e3 _ (by omega)]
  simp only [Option.bind_some]
  rw [e6 _ (by omega)]
  simp only [Option.bind_some, if_true]
  rw [e4 _ (by omega)]
  simp only [Option.bind_some, if_true]
  rw [e5 _ (by omega)]
  simp only [Option.bind_some]
  rw [if_neg (by omega), Bool.not_true]
  exact J
end Go.Proofs.YtnhhbdhkhdbanaaDoor.Pure
