/- The pure statement of FnExactProper. Plain Lean. -/
import Derived.Test.YtnhhbdhkhdbanaaDoorX12
import Derived.Test.YtnhhbdhkhdbanaaDoorPProp2
namespace Go.Proofs.YtnhhbdhkhdbanaaDoor.Pure
open Go Go.RowKit Go.Proofs.YtnhhbdhkhdbanaaDoorW.PrintWords
set_option linter.unusedVariables false
set_option linter.unusedSimpArgs false
theorem szSession_f (a0 : Int) (a1 a2 a3 a4 : ByteArray) (a5 : List ByteArray) (a6 : Int) (a7 : List Bool) (a8 : List VL) (h1 : a1.size ≤ maxLen) (h2 : a2.size ≤ maxLen) (h3 : a3.size ≤ maxLen) (h4 : a4.size ≤ maxLen) (h5 : a5.length ≤ maxLen) (h5' : ∀ p ∈ a5, p.size ≤ maxLen) (h7 : a7.length ≤ maxLen) (h8 : a8.length ≤ maxLen) (h8' : ∀ p ∈ a8, p.f2.size ≤ maxLen) :
    ∃ t, Ev (fun k => X.laws_szSession.f k a0 a1 a2 a3 a4 a5 a6 a7 a8 1048576) t ∧ (t < 0 ∨ (a1.size ≤ 1048576 ∧ a2.size ≤ 1048576 ∧ a3.size ≤ 1048576 ∧ a4.size ≤ 1048576 ∧ a5.length ≤ 1048576 ∧ (∀ p ∈ a5, p.size ≤ 1048576) ∧ a7.length ≤ 1048576 ∧ a8.length ≤ 1048576)) := by
  have hm : maxLen = 9223372036854775807 ∨ maxLen ≤ 9223372036854775807 := by right; decide
  have g1 : a1.size ≤ 9223372036854775807 := Nat.le_trans h1 (by decide)
  have g2 : a2.size ≤ 9223372036854775807 := Nat.le_trans h2 (by decide)
  have g3 : a3.size ≤ 9223372036854775807 := Nat.le_trans h3 (by decide)
  have g4 : a4.size ≤ 9223372036854775807 := Nat.le_trans h4 (by decide)
  have w1 : wrap64 (1048576 - (a1.size : Int)) = 1048576 - (a1.size : Int) := wrap_id _ (by omega) (by omega)
  by_cases n1 : 1048576 - (a1.size : Int) < 0
  · exact ⟨-1, Ev.congr (f := fun _ => some (-1)) (fun k => by unfold X.laws_szSession.f; rw [w1, if_pos n1]) (Ev.now _), .inl (by decide)⟩
  have w2 : wrap64 (1048576 - (a1.size : Int) - (a2.size : Int)) = 1048576 - (a1.size : Int) - (a2.size : Int) := wrap_id _ (by omega) (by omega)
  by_cases n2 : 1048576 - (a1.size : Int) - (a2.size : Int) < 0
  · exact ⟨-1, Ev.congr (f := fun _ => some (-1)) (fun k => by unfold X.laws_szSession.f; rw [w1, if_neg n1, w2, if_pos n2]) (Ev.now _), .inl (by decide)⟩
  have w3 : wrap64 (1048576 - (a1.size : Int) - (a2.size : Int) - (a3.size : Int)) = 1048576 - (a1.size : Int) - (a2.size : Int) - (a3.size : Int) := wrap_id _ (by omega) (by omega)
  by_cases n3 : 1048576 - (a1.size : Int) - (a2.size : Int) - (a3.size : Int) < 0
  · exact ⟨-1, Ev.congr (f := fun _ => some (-1)) (fun k => by unfold X.laws_szSession.f; rw [w1, if_neg n1, w2, if_neg n2, w3, if_pos n3]) (Ev.now _), .inl (by decide)⟩
  have w4 : wrap64 (1048576 - (a1.size : Int) - (a2.size : Int) - (a3.size : Int) - (a4.size : Int)) = 1048576 - (a1.size : Int) - (a2.size : Int) - (a3.size : Int) - (a4.size : Int) := wrap_id _ (by omega) (by omega)
  by_cases n4 : 1048576 - (a1.size : Int) - (a2.size : Int) - (a3.size : Int) - (a4.size : Int) < 0
  · exact ⟨-1, Ev.congr (f := fun _ => some (-1)) (fun k => by unfold X.laws_szSession.f; rw [w1, if_neg n1, w2, if_neg n2, w3, if_neg n3, w4, if_pos n4]) (Ev.now _), .inl (by decide)⟩
  generalize hA : 1048576 - (a1.size : Int) - (a2.size : Int) - (a3.size : Int) - (a4.size : Int) = A at w4 n4
  have hF : ∀ k, X.laws_szSession.f k a0 a1 a2 a3 a4 a5 a6 a7 a8 1048576 = ((X.laws_szStringS.f k a5 A).bind fun t425 => (if t425 < 0 then (some (-1)) else ((X.laws_szBoolS.f a7 t425).bind fun t426 => (if t426 < 0 then (some (-1)) else ((X.laws_szVerdictS.f k a8 t426).bind fun t427 => (if t427 < 0 then (some (-1)) else (some t427))))))) := fun k => by
    unfold X.laws_szSession.f; rw [w1, if_neg n1, w2, if_neg n2, w3, if_neg n3, hA, w4, if_neg n4]
  obtain ⟨t5, e5, b5⟩ := szString_f a5 h5 h5' A (by omega) (by omega)
  rcases b5 with b5 | ⟨p0, p1, p2, p3⟩
  · exact ⟨-1, Ev.congr hF (Ev.bind e5 (Ev.congr (f := fun _ => some (-1)) (fun k => by rw [if_pos (by omega)]) (Ev.now _))), .inl (by decide)⟩
  obtain ⟨t7, e7, b7⟩ := szBool_f a7 h7 t5 p0 (by omega)
  have F7 : ∀ k, (if t5 < 0 then (some (-1)) else ((X.laws_szBoolS.f a7 t5).bind fun t426 => (if t426 < 0 then (some (-1)) else ((X.laws_szVerdictS.f k a8 t426).bind fun t427 => (if t427 < 0 then (some (-1)) else (some t427)))))) = (if t7 < 0 then (some (-1)) else ((X.laws_szVerdictS.f k a8 t7).bind fun t427 => (if t427 < 0 then (some (-1)) else (some t427)))) := fun k => by rw [if_neg (by omega), e7, Option.bind_some]
  rcases b7 with b7 | ⟨q0, q1, q2⟩
  · exact ⟨-1, Ev.congr hF (Ev.bind e5 (Ev.congr (f := fun _ => some (-1)) (fun k => (F7 k).trans (by rw [if_pos (by omega)])) (Ev.now _))), .inl (by decide)⟩
  obtain ⟨t8, e8, b8⟩ := szVerdict_f a8 h8 h8' t7 q0 (by omega)
  rcases b8 with b8 | ⟨r0, r1, r2, r3⟩
  · exact ⟨-1, Ev.congr hF (Ev.bind e5 (Ev.congr (fun k => (F7 k).trans (if_neg (by omega))) (Ev.bind e8 (Ev.congr (f := fun _ => some (-1)) (fun k => by rw [if_pos (by omega)]) (Ev.now _))))), .inl (by decide)⟩
  · refine ⟨t8, Ev.congr hF (Ev.bind e5 (Ev.congr (fun k => (F7 k).trans (if_neg (by omega))) (Ev.bind e8 (Ev.congr (f := fun _ => some t8) (fun k => by rw [if_neg (by omega)]) (Ev.now _))))), .inr ⟨by omega, by omega, by omega, by omega, by omega, fun p hp => by have := p3 p hp; omega, by omega, by omega⟩⟩
theorem toSession_f (a0 : Int) (a1 a2 a3 a4 : ByteArray) (a5 : List ByteArray) (a6 : Int) (a7 : List Bool) (a8 : List VL) (h5 : a5.length ≤ 1048576) (h7 : a7.length ≤ 1048576) (h8 : a8.length ≤ 1048576) :
    Ev (fun k => X.laws_toSession.f k a0 a1 a2 a3 a4 a5 a6 a7 a8) (a0, a1, a2, a3, a4, a5, a6, a7, a8.map toV) := by
  refine Ev.congr (fun k => rfl) (Ev.bind (f := fun k t454 => (X.laws_toBoolS.f k a7).bind fun t457 => ((X.laws_toVerdictS.f k a8).bind fun t460 => (some (a0, a1, a2, a3, a4, t454, a6, t457, t460)))) (toString_f a5 h5) ?_)
  refine Ev.bind (f := fun k t457 => (X.laws_toVerdictS.f k a8).bind fun t460 => (some (a0, a1, a2, a3, a4, a5, a6, t457, t460))) (toBool_f a7 h7) ?_
  exact Ev.bind (f := fun k t460 => (some (a0, a1, a2, a3, a4, a5, a6, a7, t460))) (toVerdict_f a8 h8) (Ev.now _)
theorem eqSession_f (a0 : Int) (a1 a2 a3 a4 : ByteArray) (a5 : List ByteArray) (a6 : Int) (a7 : List Bool) (a8 : List VI) (h5 : a5.length ≤ 1048576) (h7 : a7.length ≤ 1048576) (h8 : a8.length ≤ 1048576) :
    Ev (fun k => X.laws_eqSession.f k a0 a1 a2 a3 a4 a5 a6 a7 a8 a0 a1 a2 a3 a4 a5 a6 a7 a8) true := by
  refine Ev.congr (f := fun k => (X.laws_eqStringS.f k a5 a5).bind fun t318 => (if t318 = true then (if a6 = a6 then ((X.laws_eqBoolS.f k a7 a7).bind fun t319 => (if t319 = true then ((X.laws_eqVerdictS.f k a8 a8).bind fun t320 => (if t320 = true then (some true) else (some false))) else (some false))) else (some false)) else (some false))) (fun k => ?_) (Ev.bind (eqString_f a5 h5) ?_)
  · unfold X.laws_eqSession.f; rw [if_pos rfl, if_pos rfl, if_pos rfl, if_pos rfl, if_pos rfl]
  · refine Ev.congr (fun k => (if_pos rfl).trans (if_pos rfl)) (Ev.bind (eqBool_f a7 h7) ?_)
    exact Ev.congr (fun k => if_pos rfl) (Ev.bind (eqVerdict_f a8 h8) (Ev.congr (fun k => if_pos rfl) (Ev.now _)))
theorem properLaw (a0 : Int) (a1 a2 a3 a4 : ByteArray) (a5 : List ByteArray) (a6 : Int) (a7 : List Bool) (a8 : List VL) (h1 : a1.size ≤ maxLen) (h2 : a2.size ≤ maxLen) (h3 : a3.size ≤ maxLen) (h4 : a4.size ≤ maxLen) (h5 : a5.length ≤ maxLen) (h5' : ∀ p ∈ a5, p.size ≤ maxLen) (h7 : a7.length ≤ maxLen) (h8 : a8.length ≤ maxLen) (h8' : ∀ p ∈ a8, p.f2.size ≤ maxLen) :
    ∃ k, X.laws_FnExactProper.f k a0 a1 a2 a3 a4 a5 a6 a7 a8 = some true := by
  obtain ⟨t, ⟨K0, e0⟩, hb⟩ := szSession_f a0 a1 a2 a3 a4 a5 a6 a7 a8 h1 h2 h3 h4 h5 h5' h7 h8 h8'
  by_cases ht : t < 0
  · refine ⟨K0, ?_⟩
    have g0 : X.laws_szSession.f K0 a0 a1 a2 a3 a4 a5 a6 a7 a8 1048576 = some t := e0 _ (Nat.le_refl _)
    unfold X.laws_FnExactProper.f
    rw [g0, Option.bind_some, if_pos ht]
  obtain ⟨b1, b2, b3, b4, b5, b5', b7, b8⟩ := hb.resolve_left ht
  obtain ⟨K1, e1⟩ := toSession_f a0 a1 a2 a3 a4 a5 a6 a7 a8 b5 b7 b8
  have b8m : (a8.map toV).length ≤ 1048576 := by rw [List.length_map]; exact b8
  obtain ⟨K2, e2⟩ := specP_f a0 a1 a2 a3 a4 a5 a6 a7 (a8.map toV) b5 b8m
  obtain ⟨K3, e3⟩ := implP_f a0 a1 a2 a3 a4 a5 a6 a7 (a8.map toV) b5 b8m (fun p hp => by have := b5' p hp; omega) (by omega) (by omega) (by omega)
  obtain ⟨K4, e4⟩ := eqSession_f a0 a1 a2 a3 a4 a5 a6 a7 (a8.map toV) b5 b7 b8m
  refine ⟨K0 + K1 + K2 + K3 + K4, ?_⟩
  have g0 : X.laws_szSession.f (K0 + K1 + K2 + K3 + K4) a0 a1 a2 a3 a4 a5 a6 a7 a8 1048576 = some t := e0 _ (by omega)
  have g1 : X.laws_toSession.f (K0 + K1 + K2 + K3 + K4) a0 a1 a2 a3 a4 a5 a6 a7 a8 = _ := e1 _ (by omega)
  have g2 : X.spec_Proper.f (K0 + K1 + K2 + K3 + K4) a0 a1 a2 a3 a4 a5 a6 a7 (a8.map toV) = _ := e2 _ (by omega)
  have g3 : X.impl_Proper.f (K0 + K1 + K2 + K3 + K4) a0 a1 a2 a3 a4 a5 a6 a7 (a8.map toV) = _ := e3 _ (by omega)
  have g4 : X.laws_eqSession.f (K0 + K1 + K2 + K3 + K4) a0 a1 a2 a3 a4 a5 a6 a7 (a8.map toV) a0 a1 a2 a3 a4 a5 a6 a7 (a8.map toV) = _ := e4 _ (by omega)
  unfold X.laws_FnExactProper.f
  rw [g0, Option.bind_some, if_neg ht, g1]
  simp only [Option.bind_some]
  rw [g2, Option.bind_some, g3, Option.bind_some, if_neg (by simp), g4, Option.bind_some, if_pos rfl]
theorem FnExactProper (a : Int × ByteArray × ByteArray × ByteArray × ByteArray × List ByteArray × Int × List Bool × List VL)
    (w : (Lit.int .i64 a.1).wf = true ∧ a.2.1.size ≤ maxLen ∧ a.2.2.1.size ≤ maxLen ∧ a.2.2.2.1.size ≤ maxLen ∧ a.2.2.2.2.1.size ≤ maxLen ∧ (a.2.2.2.2.2.1.length ≤ maxLen ∧ ∀ y ∈ a.2.2.2.2.2.1, y.size ≤ maxLen) ∧ (Lit.int .i64 a.2.2.2.2.2.2.1).wf = true ∧ (a.2.2.2.2.2.2.2.1.length ≤ maxLen ∧ ∀ y ∈ a.2.2.2.2.2.2.2.1, True) ∧ (a.2.2.2.2.2.2.2.2.length ≤ maxLen ∧ ∀ y ∈ a.2.2.2.2.2.2.2.2, (Lit.int .i64 y.f0).wf = true ∧ (Lit.int .i64 y.f1).wf = true ∧ y.f2.size ≤ maxLen)) :
    ∃ k, X.laws_FnExactProper.f k a.1 a.2.1 a.2.2.1 a.2.2.2.1 a.2.2.2.2.1 a.2.2.2.2.2.1 a.2.2.2.2.2.2.1 a.2.2.2.2.2.2.2.1 a.2.2.2.2.2.2.2.2 = some true := by
  obtain ⟨a0, a1, a2, a3, a4, a5, a6, a7, a8⟩ := a
  obtain ⟨_, h1, h2, h3, h4, ⟨h5, h5'⟩, _, ⟨h7, _⟩, ⟨h8, h8'⟩⟩ := w
  exact properLaw a0 a1 a2 a3 a4 a5 a6 a7 a8 h1 h2 h3 h4 h5 h5' h7 h8 (fun p hp => (h8' p hp).2.2)
end Go.Proofs.YtnhhbdhkhdbanaaDoor.Pure
