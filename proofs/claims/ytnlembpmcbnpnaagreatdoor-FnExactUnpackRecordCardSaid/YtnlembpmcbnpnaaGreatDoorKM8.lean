/- Part 8 of the proof of laws.FnExactUnpackRecord: contracts of functions that it reaches, and laws of what these compute. No condition beyond what each theorem says. -/
import Derived.Test.YtnlembpmcbnpnaaGreatDoorKM2
import Derived.Test.YtnlembpmcbnpnaaGreatDoorKM3
import Derived.Test.YtnlembpmcbnpnaaGreatDoorKM7
/- The reference's PackRecord at every record: the text of a right record, else nothing. -/
namespace Go.Proofs.YtnlembpmcbnpnaaGreatDoor.Pure
open Go Go.RowKit Go.Proofs.YtnlembpmcbnpnaaGreatDoorW.PrintWords
set_option linter.unusedVariables false
set_option linter.unusedSimpArgs false
theorem okR_1 (q : Rc) (h : q.k = 1) (o : okR q) : okM q := by
  rcases o with o | ⟨e, _⟩ | ⟨e, _⟩ | ⟨e, _⟩
  · exact o
  all_goals omega
theorem okR_2 (q : Rc) (h : q.k = 2) (o : okR q) : okVd q := by
  rcases o with ⟨e, _⟩ | o | ⟨e, _⟩ | ⟨e, _⟩
  · omega
  · exact o
  all_goals omega
theorem okR_3 (q : Rc) (h : q.k = 3) (o : okR q) : okT q := by
  rcases o with ⟨e, _⟩ | ⟨e, _⟩ | o | ⟨e, _⟩
  · omega
  · omega
  · exact o
  · omega
theorem okR_n1 (q : Rc) (h : ¬ q.k = 1) (o : okR q) : noM q ∧ 1 ≤ q.i ∧ (q.i ≤ 999999 ∨ q.k = 6 ∧ q.i = 1000000) := by
  rcases o with ⟨e, _⟩ | ⟨e, hm, hi, _⟩ | ⟨e, hm, hi, _⟩ | ⟨e, hm, _⟩
  · omega
  · exact ⟨hm, hi.1, .inl hi.2⟩
  · exact ⟨hm, hi.1, .inl hi.2⟩
  · exact ⟨hm, by omega, by omega⟩
theorem id_f (n : Int) : X.spec_l6id.f n = some (decide (1 ≤ n ∧ n ≤ 999999)) := by
  unfold X.spec_l6id.f
  by_cases h : n ≥ 1
  · rw [if_pos h]
    congr 1
    exact decide_eq_decide.2 ⟨fun h2 => ⟨h, h2⟩, fun h2 => h2.2⟩
  · rw [if_neg h, decide_eq_false (fun h2 => h h2.1)]
theorem code_s (n : Int) : X.spec_l4code.f n = some (codeB n) := by
  unfold X.spec_l4code.f codeB
  by_cases h : n = 0
  · rw [if_pos h, decide_eq_true (.inl h)]
  by_cases h2 : n ≥ 200
  · rw [if_neg h, if_pos h2]
    congr 1
    exact decide_eq_decide.2 ⟨fun h3 => .inr ⟨h2, h3⟩, fun h3 => (h3.resolve_left h).2⟩
  · rw [if_neg h, if_neg h2, decide_eq_false (fun h3 => h2 (h3.resolve_left h).1)]
open Classical in
theorem noMsg_f (q : Rc) : X.spec_l6noMsg.f q.a q.b q.fr q.xs q.bd = some (decide (noM q)) := by
  unfold X.spec_l6noMsg.f
  by_cases h1 : q.a = 0
  · by_cases h2 : q.b = 0
    · by_cases h3 : q.fr.toList = []
      · by_cases h4 : (q.xs.length : Int) = 0
        · rw [if_pos h1, if_pos h2, if_pos h3, if_pos h4]
          congr 1
          rw [Bool.eq_iff_iff, beq_iff_eq, decide_eq_true_eq]
          exact ⟨fun h5 => ⟨h1, h2, h3, List.eq_nil_of_length_eq_zero (by omega), h5⟩, fun h => h.2.2.2.2⟩
        · rw [if_pos h1, if_pos h2, if_pos h3, if_neg h4, decide_eq_false (p := noM q) (fun h => h4 (by rw [h.2.2.2.1]; rfl))]
      · rw [if_pos h1, if_pos h2, if_neg h3, decide_eq_false (p := noM q) (fun h => h3 h.2.2.1)]
    · rw [if_pos h1, if_neg h2, decide_eq_false (p := noM q) (fun h => h2 h.2.1)]
  · rw [if_neg h1, decide_eq_false (p := noM q) (fun h => h1 h.1)]
theorem noV_b (q : Rc) : (q.vk == 0 && (q.vc == 0 && (q.vt.toList == ([] : List UInt8)))) = true ↔ noV q := by simp [noV]
theorem noT_b (q : Rc) : (q.tr == 0 && q.du == 0) = true ↔ noT q := by simp [noT]
theorem ff {b : Bool} (h : ¬ b = true) : b = false := by cases b <;> simp_all
theorem get {α : Type} {g : Nat → Option α} {r r' : α} (h : Ev g r) (e : r = r') : ∃ k, g k = some r' := e ▸ h.rounds
theorem now_f {α : Type} {o : Option α} {r r' : α} (h : o = some r) (e : r = r') : o = some r' := e ▸ h
abbrev PC (q : Rc) (aA : Option Addr) (ac : Nat) (w : World) : Prop := Calls Tryz.prog 27 #[.agg #[.int .i64 q.k, .int .i64 q.a, .int .i64 q.b, .string q.fr, .slice aA q.xs.length ac, .string q.bd, .int .i64 q.i, .int .i64 q.r, .int .i64 q.vk, .int .i64 q.vc, .string q.vt, .int .i64 q.tr, .int .i64 q.du]] w fun e w' => e = .returned (.string (packV q)) ∧ Below w.heap.size w w'
open Classical in
theorem packS_m (q : Rc) (h : Fits q) (h1 : q.k = 1) (aA : Option Addr) (ac : Nat) (w : World) (hr : Kd.C Kd.string w aA q.xs.length q.xs) (hc : q.xs.length ≤ ac) : PC q aA ac w := by
  unfold PC
  rw [h1]
  by_cases o : okR q
  · have om := okR_1 q h1 o
    obtain ⟨hf, hl, hx, hb⟩ := okM_parts q om
    have hlen := packL_len q o
    rw [packV_yes o]
    obtain ⟨_, ha, hb', hm, hi, hz, hv, ht⟩ := om
    rw [packL_M q h1] at hlen ⊢
    unfold msgB at hm
    rw [Bool.and_eq_true] at hm
    obtain ⟨kw, ew⟩ := get (whom_f q.fr q.xs h.xl) hm.1
    obtain ⟨kb, eb⟩ := get (bodyV_s q.bd) hm.2
    obtain ⟨k1, e1⟩ := (snumT q.a (by omega) (by omega)).rounds
    obtain ⟨k2, e2⟩ := (decI q.b (by omega) (by omega)).rounds
    obtain ⟨k3, e3⟩ := (snumT (q.xs.length : Int) (by omega) (by omega)).rounds
    obtain ⟨k4, e4⟩ := (sstrT q.fr h.fr).rounds
    obtain ⟨k5, e5⟩ := (sstrT q.bd h.bd).rounds
    rw [Int.toNat_natCast] at e3
    have e77 : (⟨#[77]⟩ : ByteArray) = B [77] := rfl
    let S : Nat → ByteArray := fun i => B ((((([77] ++ jt [nT q.a.toNat]) ++ [32]) ++ nT q.b.toNat) ++ jt [nT q.xs.length]) ++ jt [cT q.fr] ++ jt ((q.xs.take i).map cT))
    have hS : ∀ i, S i = B ((((([77] ++ jt [nT q.a.toNat]) ++ [32]) ++ nT q.b.toNat) ++ jt [nT q.xs.length]) ++ jt [cT q.fr] ++ jt ((q.xs.take i).map cT)) := fun _ => rfl
    have full : 77 :: jt ([nT q.a.toNat, nT q.b.toNat, nT q.xs.length, cT q.fr] ++ (q.xs.map cT ++ [cT q.bd])) = ((((([77] ++ jt [nT q.a.toNat]) ++ [32]) ++ nT q.b.toNat) ++ jt [nT q.xs.length]) ++ jt [cT q.fr] ++ jt (q.xs.map cT)) ++ jt [cT q.bd] := by
      rw [jt_append, jt_append]; simp [jt]
    rw [full] at hlen ⊢
    simp only [List.length_append, List.length_singleton] at hlen
    have hle : ∀ i, (jt ((q.xs.take i).map cT)).length ≤ (jt (q.xs.map cT)).length := by
      intro i
      have e : q.xs.map cT = (q.xs.take i).map cT ++ (q.xs.drop i).map cT := by rw [← List.map_append, List.take_append_drop]
      rw [e, jt_append, List.length_append]
      omega
    clear_value S
    have R : S q.xs.length ++ B (jt [cT q.bd]) = B (((((([77] ++ jt [nT q.a.toNat]) ++ [32]) ++ nT q.b.toNat) ++ jt [nT q.xs.length]) ++ jt [cT q.fr] ++ jt (q.xs.map cT)) ++ jt [cT q.bd]) := by
      rw [hS, B_append, List.take_length]
    rw [← R]
    have sp := sp_B
    refine X.sp_m_ok q.a q.b q.fr aA ac q.xs q.bd q.i q.r q.vk q.vc q.vt q.tr q.du w hr hc ((noV_b q).2 hv) ((noT_b q).2 ht) (by rw [hi]; rfl) (by rw [hz]; rfl) (now_f (id_f _) (decide_eq_true ha)) (decide_eq_false (by omega)) (decide_eq_false (by omega)) kw kb ew eb k1 _ e1 k2 _ e2 k3 _ e3 k4 _ e4 ?_ ?_ ?_ ?_ ?_ S ?_ ?_ k5 _ e5 ?_ hl
    · rw [B_size]; omega
    · rw [e77, B_append, B_size]; simp only [List.length_append, List.length_singleton]; omega
    · rw [e77, sp, B_append, B_append, B_size, B_size]; simp only [List.length_append, List.length_singleton]; omega
    · rw [e77, sp, B_append, B_append, B_append, B_size, B_size]; simp only [List.length_append, List.length_singleton]; omega
    · rw [e77, sp, B_append, B_append, B_append, B_append, B_size, B_size]; simp only [List.length_append, List.length_singleton]; omega
    · rw [hS, e77, sp, B_append, B_append, B_append, B_append, B_append]; simp [jt]
    · intro i hi2
      obtain ⟨k, ek⟩ := (sstrT q.xs[i] (h.xs _ (List.getElem_mem hi2))).rounds
      have hn := hle (i + 1)
      have et : jt ((q.xs.take (i + 1)).map cT) = jt ((q.xs.take i).map cT) ++ jt [cT q.xs[i]] := by
        rw [List.take_succ_eq_append_getElem hi2, List.map_append, jt_append]; rfl
      rw [et, List.length_append] at hn
      refine ⟨k, _, by rw [rd_get q.xs i hi2]; exact ek, ?_, ?_⟩
      · rw [hS, hS, et, B_append]; simp only [List.append_assoc]
      · rw [hS, B_size, B_size]; simp only [List.length_append, List.length_singleton]; omega
    · rw [hS, B_size, B_size, List.take_length]; simp only [List.length_append, List.length_singleton]; omega
  · rw [packV_no o]
    obtain ⟨K1, E1⟩ := whom_f q.fr q.xs h.xl
    obtain ⟨K2, E2⟩ := bodyV_s q.bd
    have ew := E1 (max K1 K2) (by omega)
    have eb := E2 (max K1 K2) (by omega)
    refine X.sp_m_no (max K1 K2) q.a q.b q.fr aA ac q.xs q.bd q.i q.r q.vk q.vc q.vt q.tr q.du _ _ w hr hc rfl rfl ?_
    by_cases f1 : (q.i != 0) = true
    · exact .inl f1
    by_cases f2 : (q.r != 0) = true
    · exact .inr (.inl ⟨ff f1, f2⟩)
    by_cases f3 : (q.vk == 0 && (q.vc == 0 && (q.vt.toList == ([] : List UInt8)))) = true
    case neg => exact .inr (.inr (.inl ⟨ff f1, ff f2, ff f3⟩))
    by_cases f4 : (q.tr == 0 && q.du == 0) = true
    case neg => exact .inr (.inr (.inr (.inl ⟨ff f1, ff f2, f3, ff f4⟩)))
    by_cases f5 : 1 ≤ q.a ∧ q.a ≤ 999999
    case neg => exact .inr (.inr (.inr (.inr (.inl ⟨ff f1, ff f2, f3, f4, now_f (id_f _) (decide_eq_false f5)⟩))))
    have c5 := now_f (id_f _) (decide_eq_true f5)
    by_cases f6 : q.b < 0
    · exact .inr (.inr (.inr (.inr (.inr (.inl ⟨ff f1, ff f2, f3, f4, c5, decide_eq_true f6⟩)))))
    by_cases f7 : 20000000 < q.b
    · exact .inr (.inr (.inr (.inr (.inr (.inr (.inl ⟨ff f1, ff f2, f3, f4, c5, decide_eq_false f6, decide_eq_true f7⟩))))))
    cases f8 : (fromB q.fr && countB q.xs && q.xs.all addrB) with
    | false => exact .inr (.inr (.inr (.inr (.inr (.inr (.inr (.inl ⟨ff f1, ff f2, f3, f4, c5, decide_eq_false f6, decide_eq_false f7, now_f ew f8⟩)))))))
    | true =>
      cases f9 : bodyV q.bd with
      | false => exact .inr (.inr (.inr (.inr (.inr (.inr (.inr (.inr ⟨ff f1, ff f2, f3, f4, c5, decide_eq_false f6, decide_eq_false f7, now_f ew f8, now_f eb f9⟩)))))))
      | true => exact absurd (.inl ⟨h1, f5, ⟨by omega, by omega⟩, by unfold msgB; rw [f8, f9]; rfl, by simpa using f1, by simpa using f2, (noV_b q).1 f3, (noT_b q).1 f4⟩) o
open Classical in
theorem packS_n (q : Rc) (h : Fits q) (h1 : ¬ q.k = 1) (aA : Option Addr) (ac : Nat) (w : World) (hr : Kd.C Kd.string w aA q.xs.length q.xs) (hc : q.xs.length ≤ ac) : PC q aA ac w := by
  unfold PC
  have b1 : (q.k == 1) = false := beq_eq_false_iff_ne.2 h1
  by_cases hm : noM q
  case neg =>
    rw [packV_no (fun o => hm (okR_n1 q h1 o).1)]
    exact X.sp_n_no q.k q.a q.b q.fr aA ac q.xs q.bd q.i q.r q.vk q.vc q.vt q.tr q.du _ _ w hr hc rfl rfl b1 (.inl (now_f (noMsg_f q) (decide_eq_false hm)))
  have c0 := now_f (noMsg_f q) (decide_eq_true hm)
  by_cases hi : 1 ≤ q.i ∧ (q.i ≤ 999999 ∨ q.k = 6 ∧ q.i = 1000000)
  case neg =>
    rw [packV_no (fun o => hi (okR_n1 q h1 o).2)]
    have c1 := now_f (id_f q.i) (decide_eq_false (fun hh => hi ⟨hh.1, .inl hh.2⟩))
    refine X.sp_n_no q.k q.a q.b q.fr aA ac q.xs q.bd q.i q.r q.vk q.vc q.vt q.tr q.du _ _ w hr hc rfl rfl b1 (.inr ?_)
    by_cases h6 : q.k = 6
    · exact .inr ⟨c0, c1, beq_iff_eq.2 h6, beq_eq_false_iff_ne.2 (fun e => hi ⟨by omega, .inr ⟨h6, e⟩⟩)⟩
    · exact .inl ⟨c0, c1, beq_eq_false_iff_ne.2 h6⟩
  have hc1 : X.spec_l6id.f q.i = some true ∨ X.spec_l6id.f q.i = some false ∧ (q.k == 6) = true ∧ (q.i == 1000000) = true := by
    by_cases h9 : q.i ≤ 999999
    · exact .inl (now_f (id_f _) (decide_eq_true ⟨hi.1, h9⟩))
    · obtain ⟨e6, e7⟩ := hi.2.resolve_left h9
      exact .inr ⟨now_f (id_f _) (decide_eq_false (fun hh => h9 hh.2)), beq_iff_eq.2 e6, beq_iff_eq.2 e7⟩
  have T := fun r => X.sp_n q.k q.a q.b q.fr aA ac q.xs q.bd q.i q.r q.vk q.vc q.vt q.tr q.du _ _ w hr hc rfl rfl r b1 c0 hc1
  by_cases h2 : q.k = 2
  · have b2 : (q.k == 2) = true := beq_iff_eq.2 h2
    refine T _ (.inl ⟨b2, ?_⟩)
    by_cases o : okR q
    · right
      have hlen := packL_len q o
      rw [packV_yes o]
      obtain ⟨_, _, i0, r0, v0, c2, t0, n0⟩ := okR_2 q h2 o
      rw [packL_V q h2] at hlen ⊢
      have e : 86 :: jt [nT q.i.toNat, nT q.r.toNat, nT q.vk.toNat, nT q.vc.toNat, cT q.vt] = ((([86] ++ jt [nT q.i.toNat]) ++ jt [nT q.r.toNat]) ++ jt [nT q.vk.toNat]) ++ jt [nT q.vc.toNat] ++ jt [cT q.vt] := by simp [jt]
      rw [e] at hlen ⊢
      simp only [List.length_append, List.length_singleton] at hlen
      have e86 : (⟨#[86]⟩ : ByteArray) = B [86] := rfl
      refine ⟨(noT_b q).2 n0, decide_eq_true r0.1, decide_eq_true (by omega), decide_eq_true v0.1, decide_eq_true v0.2, now_f (code_s _) (decide_eq_true c2), decide_eq_true (by omega), _, _, _, _, _, (snumT q.i (by omega) (by omega)).rounds, (snumT q.r (by omega) (by omega)).rounds, (snumT q.vk (by omega) (by omega)).rounds, (snumT q.vc (by omega) (by omega)).rounds, (sstrT q.vt h.vt).rounds, ?_, ?_, ?_, ?_, ?_, ?_⟩
      · rw [B_size]; omega
      · rw [e86, B_append, B_size, B_size]; simp only [List.length_append, List.length_singleton]; omega
      · rw [e86, B_append, B_append, B_size, B_size]; simp only [List.length_append, List.length_singleton]; omega
      · rw [e86, B_append, B_append, B_append, B_size, B_size]; simp only [List.length_append, List.length_singleton]; omega
      · rw [e86, B_append, B_append, B_append, B_append, B_size, B_size]; simp only [List.length_append, List.length_singleton]; omega
      · rw [e86, B_append, B_append, B_append, B_append, B_append]
    · left
      refine ⟨?_, packV_no o⟩
      by_cases f1 : (q.tr == 0 && q.du == 0) = true
      case neg => exact .inl (ff f1)
      by_cases f2 : 0 ≤ q.r
      case neg => exact .inr (.inl ⟨f1, decide_eq_false f2⟩)
      by_cases f3 : q.r < 20
      case neg => exact .inr (.inr (.inl ⟨f1, decide_eq_true f2, decide_eq_false f3⟩))
      by_cases f4 : 1 ≤ q.vk
      case neg => exact .inr (.inr (.inr (.inl ⟨f1, decide_eq_true f2, decide_eq_true f3, decide_eq_false f4⟩)))
      by_cases f5 : q.vk ≤ 4
      case neg => exact .inr (.inr (.inr (.inr (.inl ⟨f1, decide_eq_true f2, decide_eq_true f3, decide_eq_true f4, decide_eq_false f5⟩))))
      by_cases f6 : q.vc = 0 ∨ 200 ≤ q.vc ∧ q.vc ≤ 599
      case neg => exact .inr (.inr (.inr (.inr (.inr (.inl ⟨f1, decide_eq_true f2, decide_eq_true f3, decide_eq_true f4, decide_eq_true f5, now_f (code_s _) (decide_eq_false f6)⟩)))))
      by_cases f7 : (q.vt.size : Int) ≤ 512
      case neg => exact .inr (.inr (.inr (.inr (.inr (.inr ⟨f1, decide_eq_true f2, decide_eq_true f3, decide_eq_true f4, decide_eq_true f5, now_f (code_s _) (decide_eq_true f6), decide_eq_false f7⟩)))))
      exact absurd (.inr (.inl ⟨h2, hm, ⟨hi.1, by omega⟩, ⟨f2, by omega⟩, ⟨f4, f5⟩, f6, by omega, (noT_b q).1 f1⟩)) o
  have b2 : (q.k == 2) = false := beq_eq_false_iff_ne.2 h2
  by_cases h3 : q.k = 3
  · refine T _ (.inr (.inl ⟨b2, beq_iff_eq.2 h3, ?_⟩))
    by_cases o : okR q
    · right
      have hlen := packL_len q o
      rw [packV_yes o]
      obtain ⟨_, _, i0, r0, v0, t0, d0⟩ := okR_3 q h3 o
      rw [packL_T q h3] at hlen ⊢
      have e : 84 :: jt [nT q.i.toNat, nT q.tr.toNat, nT q.du.toNat] = ((([84] ++ jt [nT q.i.toNat]) ++ jt [nT q.tr.toNat]) ++ [32]) ++ nT q.du.toNat := by simp [jt]
      rw [e] at hlen ⊢
      simp only [List.length_append, List.length_singleton] at hlen
      have e84 : (⟨#[84]⟩ : ByteArray) = B [84] := rfl
      refine ⟨(noV_b q).2 v0, beq_iff_eq.2 r0, decide_eq_true t0.1, decide_eq_true t0.2, decide_eq_true d0.1, decide_eq_true d0.2, _, _, _, (snumT q.i (by omega) (by omega)).rounds, (snumT q.tr (by omega) (by omega)).rounds, (decI q.du (by omega) (by omega)).rounds, ?_, ?_, ?_, ?_, ?_⟩
      · rw [B_size]; omega
      · rw [e84, B_append, B_size, B_size]; simp only [List.length_append, List.length_singleton]; omega
      · rw [e84, B_append, B_append, B_size]; simp only [List.length_append, List.length_singleton]; omega
      · rw [e84, sp_B, B_append, B_append, B_append, B_size, B_size]; simp only [List.length_append, List.length_singleton]; omega
      · rw [e84, sp_B, B_append, B_append, B_append, B_append]
    · left
      refine ⟨?_, packV_no o⟩
      by_cases f1 : (q.vk == 0 && (q.vc == 0 && (q.vt.toList == ([] : List UInt8)))) = true
      case neg => exact .inl (ff f1)
      by_cases f2 : (q.r == 0) = true
      case neg => exact .inr (.inl ⟨f1, ff f2⟩)
      by_cases f3 : 0 ≤ q.tr
      case neg => exact .inr (.inr (.inl ⟨f1, f2, decide_eq_false f3⟩))
      by_cases f4 : q.tr ≤ 999999
      case neg => exact .inr (.inr (.inr (.inl ⟨f1, f2, decide_eq_true f3, decide_eq_false f4⟩)))
      by_cases f5 : 0 ≤ q.du
      case neg => exact .inr (.inr (.inr (.inr (.inl ⟨f1, f2, decide_eq_true f3, decide_eq_true f4, decide_eq_false f5⟩))))
      by_cases f6 : q.du ≤ 20014400
      case neg => exact .inr (.inr (.inr (.inr (.inr ⟨f1, f2, decide_eq_true f3, decide_eq_true f4, decide_eq_true f5, decide_eq_false f6⟩))))
      exact absurd (.inr (.inr (.inl ⟨h3, hm, ⟨hi.1, by omega⟩, by simpa using f2, (noV_b q).1 f1, ⟨f3, f4⟩, ⟨f5, f6⟩⟩))) o
  have b3 : (q.k == 3) = false := beq_eq_false_iff_ne.2 h3
  by_cases h6 : q.k = 4 ∨ q.k = 5 ∨ q.k = 6
  · have hk : (q.k == 4) = true ∨ (q.k == 4) = false ∧ (q.k == 5) = true ∨ (q.k == 4) = false ∧ (q.k == 5) = false ∧ (q.k == 6) = true := by
      rcases h6 with e | e | e <;> rw [e] <;> simp
    refine T _ (.inr (.inr (.inl ⟨b2, b3, hk, ?_⟩)))
    by_cases o : okR q
    · right
      rw [packV_yes o]
      have h7 := n6 q.i ⟨hi.1, by omega⟩
      obtain ⟨r0, v0, t0⟩ : q.r = 0 ∧ noV q ∧ noT q := by
        rcases h6 with e | e | e
        · exact ((okR_mark q 999999 (by omega)).1 o).2.2
        · exact ((okR_mark q 999999 (by omega)).1 o).2.2
        · exact ((okR_mark q 1000000 (by omega)).1 o).2.2
      have hN := (snumT q.i (by omega) (by omega)).rounds
      refine ⟨(noV_b q).2 v0, (noT_b q).2 t0, beq_iff_eq.2 r0, q.k - 4, _, hN, wrap_id _ (by omega) (by omega), decide_eq_true (by omega), decide_eq_true (by omega), ?_, ?_⟩
      · rw [B_size, jt_len_cons, jt_len_nil]
        have : (rdOf ByteArray.empty [(⟨#[66]⟩ : ByteArray), (⟨#[68]⟩ : ByteArray), (⟨#[78]⟩ : ByteArray)] (q.k - 4)).size = 1 := by rcases h6 with e | e | e <;> rw [e] <;> rfl
        omega
      · rcases h6 with e | e | e
        · rw [packL_B q e, e, show rdOf ByteArray.empty [(⟨#[66]⟩ : ByteArray), (⟨#[68]⟩ : ByteArray), (⟨#[78]⟩ : ByteArray)] (4 - 4) = B [66] from rfl, B_append]; rfl
        · rw [packL_D q e, e, show rdOf ByteArray.empty [(⟨#[66]⟩ : ByteArray), (⟨#[68]⟩ : ByteArray), (⟨#[78]⟩ : ByteArray)] (5 - 4) = B [68] from rfl, B_append]; rfl
        · rw [packL_N q e, e, show rdOf ByteArray.empty [(⟨#[66]⟩ : ByteArray), (⟨#[68]⟩ : ByteArray), (⟨#[78]⟩ : ByteArray)] (6 - 4) = B [78] from rfl, B_append]; rfl
    · left
      refine ⟨?_, packV_no o⟩
      by_cases f1 : (q.vk == 0 && (q.vc == 0 && (q.vt.toList == ([] : List UInt8)))) = true
      case neg => exact .inl (ff f1)
      by_cases f2 : (q.tr == 0 && q.du == 0) = true
      case neg => exact .inr (.inl ⟨f1, ff f2⟩)
      by_cases f3 : (q.r == 0) = true
      case neg => exact .inr (.inr ⟨f1, f2, ff f3⟩)
      refine absurd ?_ o
      rcases h6 with e | e | e
      · exact (okR_mark q 999999 (by omega)).2 ⟨⟨hi.1, by omega⟩, hm, by simpa using f3, (noV_b q).1 f1, (noT_b q).1 f2⟩
      · exact (okR_mark q 999999 (by omega)).2 ⟨⟨hi.1, by omega⟩, hm, by simpa using f3, (noV_b q).1 f1, (noT_b q).1 f2⟩
      · exact (okR_mark q 1000000 (by omega)).2 ⟨⟨hi.1, by omega⟩, hm, by simpa using f3, (noV_b q).1 f1, (noT_b q).1 f2⟩
  · refine T _ (.inr (.inr (.inr ⟨b2, b3, beq_eq_false_iff_ne.2 (fun e => h6 (.inl e)), beq_eq_false_iff_ne.2 (fun e => h6 (.inr (.inl e))), beq_eq_false_iff_ne.2 (fun e => h6 (.inr (.inr e))), ?_⟩)))
    exact packV_no (okR_none q h1 h2 h3 (fun e => h6 (.inl e)) (fun e => h6 (.inr (.inl e))) (fun e => h6 (.inr (.inr e))))
end Go.Proofs.YtnlembpmcbnpnaaGreatDoor.Pure
namespace Go.Proofs.YtnlembpmcbnpnaaGreatDoor.X
open Go Go.RowKit Go.Proofs.YtnlembpmcbnpnaaGreatDoorW.PrintWords
open Classical in
noncomputable def spec_PackRecord.f (k : Nat) (a0 a1 a2 : Int) (a3 : ByteArray) (al : List ByteArray) (a5 : ByteArray) (a6 a7 a8 a9 : Int) (a10 : ByteArray) (a11 a12 : Int) : Option ByteArray :=
  if Pure.Fits ⟨a0, a1, a2, a3, al, a5, a6, a7, a8, a9, a10, a11, a12⟩ then some (Pure.packV ⟨a0, a1, a2, a3, al, a5, a6, a7, a8, a9, a10, a11, a12⟩) else none
theorem spec_PackRecord.mono : ∀ a0 a1 a2 a3 al a5 a6 a7 a8 a9 a10 a11 a12 k, LeO (spec_PackRecord.f k a0 a1 a2 a3 al a5 a6 a7 a8 a9 a10 a11 a12) (spec_PackRecord.f (k + 1) a0 a1 a2 a3 al a5 a6 a7 a8 a9 a10 a11 a12) := fun _ _ _ _ _ _ _ _ _ _ _ _ _ _ => LeO.refl _
theorem spec_PackRecord.calls (k : Nat) (a0 : Int) (a1 : Int) (a2 : Int) (a3 : ByteArray) (aA : Option Addr) (ac : Nat) (al : List ByteArray) (a5 : ByteArray) (a6 : Int) (a7 : Int) (a8 : Int) (a9 : Int) (a10 : ByteArray) (a11 : Int) (a12 : Int) (r : ByteArray) (w : World) (hr : Kd.C Kd.string w aA al.length al) (hc : al.length ≤ ac) (h : spec_PackRecord.f k a0 a1 a2 a3 al a5 a6 a7 a8 a9 a10 a11 a12 = some r) :
    Calls Tryz.prog 27 #[.agg #[.int .i64 a0, .int .i64 a1, .int .i64 a2, .string a3, .slice aA al.length ac, .string a5, .int .i64 a6, .int .i64 a7, .int .i64 a8, .int .i64 a9, .string a10, .int .i64 a11, .int .i64 a12]] w fun e w' => e = .returned (.string r) ∧ Below w.heap.size w w' := by
  unfold spec_PackRecord.f at h
  split at h
  case isFalse => cases h
  case isTrue hf =>
    obtain rfl := Option.some.inj h
    by_cases h1 : a0 = 1
    · exact Pure.packS_m ⟨a0, a1, a2, a3, al, a5, a6, a7, a8, a9, a10, a11, a12⟩ hf h1 aA ac w hr hc
    · exact Pure.packS_n ⟨a0, a1, a2, a3, al, a5, a6, a7, a8, a9, a10, a11, a12⟩ hf h1 aA ac w hr hc
end Go.Proofs.YtnlembpmcbnpnaaGreatDoor.X
namespace Go.Proofs.YtnlembpmcbnpnaaGreatDoor.Pure
open Go Go.RowKit Go.Proofs.YtnlembpmcbnpnaaGreatDoorW.PrintWords
theorem packS_f (q : Rc) (h : Fits q) : Ev (fun k => X.spec_PackRecord.f k q.k q.a q.b q.fr q.xs q.bd q.i q.r q.vk q.vc q.vt q.tr q.du) (packV q) := Ev.congr (f := fun _ => some (packV q)) (fun _ => by unfold X.spec_PackRecord.f; exact if_pos h) (Ev.now _)
end Go.Proofs.YtnlembpmcbnpnaaGreatDoor.Pure
namespace Go.Proofs.YtnlembpmcbnpnaaGreatDoor.X
open Go.RowKit Go.Proofs.YtnlembpmcbnpnaaGreatDoorW.PrintWords Go.Proofs.YtnlembpmcbnpnaaGreatDoorW.PrintLast Go.Proofs.YtnlembpmcbnpnaaGreatDoorW.PrintMore
set_option linter.unusedVariables false
set_option linter.unusedSimpArgs false
theorem z16_0_ {P : Prop} (h : P := by repeat (first | (with_reducible first | exact HB.out | apply below_alloc | apply pw_below_drewN | apply below_drew1 | refine below_set ?_ (IsS54.ge HI279.out) | refine below_set ?_ GE277.out | refine below_set ?_ GE278.out) | exact HB.out)) : P := h
theorem z16_1_ {P : Prop} (h : P := by (with_reducible repeat (first | refine blk_drewN ?_ _ | refine blk_drew ?_ | refine blk_alloc ?_ _)); refine blk_far ?_ NB277_278.out _; (with_reducible repeat (first | refine blk_drewN ?_ _ | refine blk_drew ?_ | refine blk_alloc ?_ _)); exact BK277.out) : P := h
theorem z16_2_ {P : Prop} (h : P := by (try simp only [List.map_toArray, List.map_cons, List.map_nil]); first | done | rfl | (simp only [List.length_drop, List.length_take]; rfl)) : P := h
theorem z16_3_ {P : Prop} (h : P := by first | exact Kd.R_nil _ _ _ _ _ | exact Kd.N_nil _ _ _ _ _ | exact Kd.V_nil _ _ _ _ _ | exact Kd.Q_nil _ _ _ _ _ | exact Kd.S_nil _ _ _ _ _) : P := h
theorem z16_4_ {P : Prop} (h : P := by repeat (first | (with_reducible first | exact HB.out | apply below_alloc | apply pw_below_drewN | apply below_drew1 | refine below_set ?_ GE277.out | refine below_set ?_ GE278.out) | exact HB.out)) : P := h
theorem z16_5_ {P : Prop} (h : P := by (with_reducible repeat (first | refine blk_drewN ?_ _ | refine blk_drew ?_ | refine blk_alloc ?_ _)); apply zp13; (with_reducible repeat (first | refine blk_drewN ?_ _ | refine blk_drew ?_ | refine blk_alloc ?_ _)); exact BK277.out) : P := h
theorem z16_6_ {P : Prop} (h : P := by (with_reducible repeat (first | apply Kd.R_alloc | apply Kd.R_drewN | apply Kd.R_drew)); exact HO_279004.out) : P := h
/-! ### spec_UnpackRecord: function 6 -/
mutual
noncomputable def spec_UnpackRecord.j1 : Nat → ByteArray → Int → Int → Int → ByteArray → List ByteArray → ByteArray → Int → Int → Int → Int → ByteArray → Int → Int → Option (Int × Int × Int × ByteArray × List ByteArray × ByteArray × Int × Int × Int × Int × ByteArray × Int × Int × Bool)
 | 0, _, _, _, _, _, _, _, _, _, _, _, _, _, _ => none
 | k + 1, x0, x279000, x279001, x279002, x279003, x279004, x279005, x279006, x279007, x279008, x279009, x279010, x279011, x279012 => if x0.toList = ([] : List UInt8) then (some (0, 0, 0, (⟨#[]⟩ : ByteArray), ([] : List ByteArray), (⟨#[]⟩ : ByteArray), 0, 0, 0, 0, (⟨#[]⟩ : ByteArray), 0, 0, false)) else ((spec_PackRecord.f k x279000 x279001 x279002 x279003 x279004 x279005 x279006 x279007 x279008 x279009 x279010 x279011 x279012).bind fun t321 => (if t321.toList = x0.toList then (some (x279000, x279001, x279002, x279003, x279004, x279005, x279006, x279007, x279008, x279009, x279010, x279011, x279012, true)) else (some (0, 0, 0, (⟨#[]⟩ : ByteArray), ([] : List ByteArray), (⟨#[]⟩ : ByteArray), 0, 0, 0, 0, (⟨#[]⟩ : ByteArray), 0, 0, false))))
noncomputable def spec_UnpackRecord.l0 : Nat → ByteArray → Int → Int → Int → Int → ByteArray → List ByteArray → ByteArray → Int → Int → Int → Int → ByteArray → Int → Int → ByteArray → Option (Int × Int × Int × ByteArray × List ByteArray × ByteArray × Int × Int × Int × Int × ByteArray × Int × Int × Bool)
 | 0, _, _, _, _, _, _, _, _, _, _, _, _, _, _, _, _ => none
 | k + 1, x0, x6, x279000, x279001, x279002, x279003, x279004, x279005, x279006, x279007, x279008, x279009, x279010, x279011, x279012, x280000 => if x6 > 0 then (if x6 ≤ 20 then ((spec_l6rd_str.f k x280000).bind fun bt290 => (if x279004.length < 8796093022208 then (spec_UnpackRecord.l0 k x0 (wrap64 (x6 - 1)) x279000 x279001 x279002 x279003 (x279004 ++ [bt290.1]) x279005 x279006 x279007 x279008 x279009 x279010 x279011 x279012 bt290.2) else (none))) else ((spec_l6rd_str.f k x280000).bind fun bt295 => (spec_UnpackRecord.j1 k x0 x279000 x279001 x279002 x279003 x279004 bt295.1 x279006 x279007 x279008 x279009 x279010 x279011 x279012))) else ((spec_l6rd_str.f k x280000).bind fun bt297 => (spec_UnpackRecord.j1 k x0 x279000 x279001 x279002 x279003 x279004 bt297.1 x279006 x279007 x279008 x279009 x279010 x279011 x279012))
end
noncomputable def spec_UnpackRecord.f (k : Nat) (a0 : ByteArray) : Option (Int × Int × Int × ByteArray × List ByteArray × ByteArray × Int × Int × Int × Int × ByteArray × Int × Int × Bool) := if (a0.size : Int) > 8000 then (some (0, 0, 0, (⟨#[]⟩ : ByteArray), ([] : List ByteArray), (⟨#[]⟩ : ByteArray), 0, 0, 0, 0, (⟨#[]⟩ : ByteArray), 0, 0, false)) else ((spec_l6rd_upTo.f k a0 32).bind fun bt280 => (if bt280.1.toList = ([77] : List UInt8) then ((spec_l6rd_num.f k bt280.2).bind fun bt282 => ((spec_l6rd_num.f k bt282.2).bind fun bt284 => ((spec_l6rd_num.f k bt284.2).bind fun bt286 => ((spec_l6rd_str.f k bt286.2).bind fun bt288 => (spec_UnpackRecord.l0 k a0 bt286.1 1 bt282.1 bt284.1 bt288.1 ([] : List ByteArray) (⟨#[]⟩ : ByteArray) 0 0 0 0 (⟨#[]⟩ : ByteArray) 0 0 bt288.2))))) else (if bt280.1.toList = ([86] : List UInt8) then ((spec_l6rd_num.f k bt280.2).bind fun bt299 => ((spec_l6rd_num.f k bt299.2).bind fun bt301 => ((spec_l6rd_num.f k bt301.2).bind fun bt303 => ((spec_l6rd_num.f k bt303.2).bind fun bt305 => ((spec_l6rd_str.f k bt305.2).bind fun bt307 => (spec_UnpackRecord.j1 k a0 2 0 0 (⟨#[]⟩ : ByteArray) ([] : List ByteArray) (⟨#[]⟩ : ByteArray) bt299.1 bt301.1 bt303.1 bt305.1 bt307.1 0 0)))))) else (if bt280.1.toList = ([84] : List UInt8) then ((spec_l6rd_num.f k bt280.2).bind fun bt309 => ((spec_l6rd_num.f k bt309.2).bind fun bt311 => ((spec_l6rd_num.f k bt311.2).bind fun bt313 => (spec_UnpackRecord.j1 k a0 3 0 0 (⟨#[]⟩ : ByteArray) ([] : List ByteArray) (⟨#[]⟩ : ByteArray) bt309.1 0 0 0 (⟨#[]⟩ : ByteArray) bt311.1 bt313.1)))) else (if bt280.1.toList = ([66] : List UInt8) then ((spec_l6rd_num.f k bt280.2).bind fun bt315 => (spec_UnpackRecord.j1 k a0 4 0 0 (⟨#[]⟩ : ByteArray) ([] : List ByteArray) (⟨#[]⟩ : ByteArray) bt315.1 0 0 0 (⟨#[]⟩ : ByteArray) 0 0)) else (if bt280.1.toList = ([68] : List UInt8) then ((spec_l6rd_num.f k bt280.2).bind fun bt317 => (spec_UnpackRecord.j1 k a0 5 0 0 (⟨#[]⟩ : ByteArray) ([] : List ByteArray) (⟨#[]⟩ : ByteArray) bt317.1 0 0 0 (⟨#[]⟩ : ByteArray) 0 0)) else (if bt280.1.toList = ([78] : List UInt8) then ((spec_l6rd_num.f k bt280.2).bind fun bt319 => (spec_UnpackRecord.j1 k a0 6 0 0 (⟨#[]⟩ : ByteArray) ([] : List ByteArray) (⟨#[]⟩ : ByteArray) bt319.1 0 0 0 (⟨#[]⟩ : ByteArray) 0 0)) else (spec_UnpackRecord.j1 k a0 0 0 0 (⟨#[]⟩ : ByteArray) ([] : List ByteArray) (⟨#[]⟩ : ByteArray) 0 0 0 0 (⟨#[]⟩ : ByteArray) 0 0))))))))
theorem spec_UnpackRecord.mono_l : ∀ k, (∀ y0 y1 y2 y3 y4 y5 y6 y7 y8 y9 y10 y11 y12 y13, LeO (spec_UnpackRecord.j1 k y0 y1 y2 y3 y4 y5 y6 y7 y8 y9 y10 y11 y12 y13) (spec_UnpackRecord.j1 (k + 1) y0 y1 y2 y3 y4 y5 y6 y7 y8 y9 y10 y11 y12 y13)) ∧ (∀ y0 y1 y2 y3 y4 y5 y6 y7 y8 y9 y10 y11 y12 y13 y14 y15, LeO (spec_UnpackRecord.l0 k y0 y1 y2 y3 y4 y5 y6 y7 y8 y9 y10 y11 y12 y13 y14 y15) (spec_UnpackRecord.l0 (k + 1) y0 y1 y2 y3 y4 y5 y6 y7 y8 y9 y10 y11 y12 y13 y14 y15))
 | 0 => ⟨fun _ _ _ _ _ _ _ _ _ _ _ _ _ _ r h => by simp [spec_UnpackRecord.j1] at h, fun _ _ _ _ _ _ _ _ _ _ _ _ _ _ _ _ r h => by simp [spec_UnpackRecord.l0] at h⟩
 | k + 1 => by
  obtain ⟨ih0, ih1⟩ := spec_UnpackRecord.mono_l k
  refine ⟨?_, ?_⟩
  ·intro y0 y1 y2 y3 y4 y5 y6 y7 y8 y9 y10 y11 y12 y13
   unfold spec_UnpackRecord.j1
   repeat' first
   | (with_reducible exact ih0 _ _ _ _ _ _ _ _ _ _ _ _ _ _)
   | (with_reducible exact ih1 _ _ _ _ _ _ _ _ _ _ _ _ _ _ _ _)
   | (with_reducible exact spec_PackRecord.mono _ _ _ _ _ _ _ _ _ _ _ _ _ _)
   | (with_reducible exact spec_l6rd_num.mono _ _)
   | (with_reducible exact spec_l6rd_str.mono _ _)
   | (with_reducible exact spec_l6rd_upTo.mono _ _ _)
   | (with_reducible exact LeO.refl _)
   | (with_reducible exact LeO.none _)
   | (with_reducible refine LeO.ite ?_ ?_)
   | (with_reducible refine LeO.bind ?_ (fun _ => ?_))
   | exact ih0 _ _ _ _ _ _ _ _ _ _ _ _ _ _
   | exact ih1 _ _ _ _ _ _ _ _ _ _ _ _ _ _ _ _
   | exact spec_PackRecord.mono _ _ _ _ _ _ _ _ _ _ _ _ _ _
   | exact spec_l6rd_num.mono _ _
   | exact spec_l6rd_str.mono _ _
   | exact spec_l6rd_upTo.mono _ _ _
   | exact LeO.none _
   | refine LeO.ite ?_ ?_
   | refine LeO.bind ?_ (fun _ => ?_)
  ·intro y0 y1 y2 y3 y4 y5 y6 y7 y8 y9 y10 y11 y12 y13 y14 y15
   unfold spec_UnpackRecord.l0
   repeat' first
   | (with_reducible exact ih0 _ _ _ _ _ _ _ _ _ _ _ _ _ _)
   | (with_reducible exact ih1 _ _ _ _ _ _ _ _ _ _ _ _ _ _ _ _)
   | (with_reducible exact spec_PackRecord.mono _ _ _ _ _ _ _ _ _ _ _ _ _ _)
   | (with_reducible exact spec_l6rd_num.mono _ _)
   | (with_reducible exact spec_l6rd_str.mono _ _)
   | (with_reducible exact spec_l6rd_upTo.mono _ _ _)
   | (with_reducible exact LeO.refl _)
   | (with_reducible exact LeO.none _)
   | (with_reducible refine LeO.ite ?_ ?_)
   | (with_reducible refine LeO.bind ?_ (fun _ => ?_))
   | exact ih0 _ _ _ _ _ _ _ _ _ _ _ _ _ _
   | exact ih1 _ _ _ _ _ _ _ _ _ _ _ _ _ _ _ _
   | exact spec_PackRecord.mono _ _ _ _ _ _ _ _ _ _ _ _ _ _
   | exact spec_l6rd_num.mono _ _
   | exact spec_l6rd_str.mono _ _
   | exact spec_l6rd_upTo.mono _ _ _
   | exact LeO.none _
   | refine LeO.ite ?_ ?_
   | refine LeO.bind ?_ (fun _ => ?_)
theorem spec_UnpackRecord.mono : ∀ a0 k, LeO (spec_UnpackRecord.f k a0) (spec_UnpackRecord.f (k + 1) a0) := by
 intro a0 k
 obtain ⟨ih0, ih1⟩ := spec_UnpackRecord.mono_l k
 unfold spec_UnpackRecord.f
 repeat' first
   | (with_reducible exact ih0 _ _ _ _ _ _ _ _ _ _ _ _ _ _)
   | (with_reducible exact ih1 _ _ _ _ _ _ _ _ _ _ _ _ _ _ _ _)
   | (with_reducible exact spec_PackRecord.mono _ _ _ _ _ _ _ _ _ _ _ _ _ _)
   | (with_reducible exact spec_l6rd_num.mono _ _)
   | (with_reducible exact spec_l6rd_str.mono _ _)
   | (with_reducible exact spec_l6rd_upTo.mono _ _ _)
   | (with_reducible exact LeO.refl _)
   | (with_reducible exact LeO.none _)
   | (with_reducible refine LeO.ite ?_ ?_)
   | (with_reducible refine LeO.bind ?_ (fun _ => ?_))
   | exact ih0 _ _ _ _ _ _ _ _ _ _ _ _ _ _
   | exact ih1 _ _ _ _ _ _ _ _ _ _ _ _ _ _ _ _
   | exact spec_PackRecord.mono _ _ _ _ _ _ _ _ _ _ _ _ _ _
   | exact spec_l6rd_num.mono _ _
   | exact spec_l6rd_str.mono _ _
   | exact spec_l6rd_upTo.mono _ _ _
   | exact LeO.none _
   | refine LeO.ite ?_ ?_
   | refine LeO.bind ?_ (fun _ => ?_)
def spec_UnpackRecord.T14 : Bool × List (List Nat × List Nat) := (true, [([], []), ([0], [0]), ([1], [1]), ([], []), ([3], [3]), ([4], [4]), ([2, 5, 4], [2, 5]), ([0, 1, 2, 3, 4, 5, 6], []), ([7, 0, 1, 2, 3, 4, 5, 6], [7]), ([8, 6, 6, 0, 1, 2, 3, 4, 5, 6], [6, 8])])
def spec_UnpackRecord.B14 : List Nat := [0, 1, 3, 0, 8, 24, 63, 127, 255, 511]
theorem spec_UnpackRecord.tab14 : rtab .any (opsOf Tryz.f6 14) = spec_UnpackRecord.T14 := by kernel_rfl
theorem spec_UnpackRecord.bits14 : waitsOk spec_UnpackRecord.T14.2 spec_UnpackRecord.B14 = true := by kernel_rfl
set_option maxHeartbeats 8000000 in
set_option maxRecDepth 100000 in
theorem spec_UnpackRecord.calls (k : Nat) (a0 : ByteArray) (r1 : Int) (r2 : Int) (r3 : Int) (r4 : ByteArray) (r5 : List ByteArray) (r6 : ByteArray) (r7 : Int) (r8 : Int) (r9 : Int) (r10 : Int) (r11 : ByteArray) (r12 : Int) (r13 : Int) (r14 : Bool) (w : World) (h : spec_UnpackRecord.f k a0 = some (r1, r2, r3, r4, r5, r6, r7, r8, r9, r10, r11, r12, r13, r14)) :
  Calls Tryz.prog 6 #[.string a0] w fun e w' => ∃ v4_ : Value, e = .returned (.tuple #[.agg #[.int .i64 r1, .int .i64 r2, .int .i64 r3, .string r4, v4_, .string r6, .int .i64 r7, .int .i64 r8, .int .i64 r9, .int .i64 r10, .string r11, .int .i64 r12, .int .i64 r13], .bool r14]) ∧ Kd.R Kd.string 9 w' w.heap.size (fun _ => True) v4_ r5 ∧ Below w.heap.size w w' := by
 have hu28 := Tryz.underlying28
 have hu54 := Tryz.underlying54
 have HB := Aside0.mk (Below.refl w.heap.size w)
 have H := h
 unfold spec_UnpackRecord.f at H
 clear h
 have HS2 := Aside0.mk H
 clear H
 go_enter Tryz.func6, Tryz.ntmps6
 go_upto_if 9 with (first | ((with_reducible refine gate_dst (N := 2) rfl ?_); refine box_event (by rfl) (N := 2) (by rfl) (cs := #[.int .i64 0, .int .i64 0, .int .i64 0, .string (⟨#[]⟩ : ByteArray), .slice none 0 0, .string (⟨#[]⟩ : ByteArray), .int .i64 0, .int .i64 0, .int .i64 0, .int .i64 0, .string (⟨#[]⟩ : ByteArray), .int .i64 0, .int .i64 0]) (t := 28) (by first | (go_simp; done) | (go_simp; rfl)) ?_; intro gb277 hg w3 hbox hb; have BK277 := Aside0.mk (hbox); have GW277 := Aside0.mk ((by rw [hg]; exact (below_size (bq_)) : w.heap.size ≤ gb277)); have GE277 := GW277; replace HB := Aside0.mk (below_step (bq_) hb); clear hb hbox hg))
 (try simp only [Act.put, List.setIfInBounds_toArray, List.set_cons_zero, List.set_cons_succ])
 have H := HS2.out
 clear HS2
 by_cases c4 : (a0.size : Int) > 8000
 ·rw [if_pos c4] at H
  have c4b0 : decide (8000 < (a0.size : Int)) = true := decide_eq_true c4
  have c4b1 : decide (8000 < a0.size) = true := decide_eq_true (by omega)
  clear c4
  (first | rw [c4b0] | (simp only [i64_w, i32_w]; rw [c4b0]) | rw [c4b1] | simp only [c4b2, decide_true, decide_false] | skip)
  simp only [Option.some.injEq, Prod.mk.injEq] at H
  obtain ⟨rfl, rfl, rfl, rfl, rfl, rfl, rfl, rfl, rfl, rfl, rfl, rfl, rfl, rfl⟩ := H
  obtain ⟨q5_0, q5_1, q5_2, q5_3, q5_4, q5_5, q5_6, q5_7, q5_8, q5_9, q5_10, q5_11, q5_12⟩ := zc13 BK277.out
  obtain ⟨f5_0, f5_1, f5_2, f5_3, f5_4, f5_5, f5_6, f5_7, f5_8, f5_9, f5_10, f5_11, f5_12⟩ := zf13 BK277.out
  (first | (go_wp21; show bodyPost _ _ _ _ _ _) | go_wp2)
  refine bodyPost_ret (results_ct rfl _ _ gb277 28 #[.int .i64 0, .int .i64 0, .int .i64 0, .string (⟨#[]⟩ : ByteArray), .slice none 0 0, .string (⟨#[]⟩ : ByteArray), .int .i64 0, .int .i64 0, .int .i64 0, .int .i64 0, .string (⟨#[]⟩ : ByteArray), .int .i64 0, .int .i64 0] (0, 0) _ rfl z16_5_ Tryz.underlying28 rfl (by kernel_rfl)) rfl ?_
  exact ⟨_, (by first | rfl | (simp [errW_none, errW_some] <;> rfl) | (simp [*, errW_none, errW_some] <;> rfl)), z16_3_, (by repeat (first | (with_reducible first | exact HB.out | apply below_alloc | apply pw_below_drewN | apply below_drew1 | refine below_set ?_ GE277.out) | exact HB.out))⟩
 ·rw [if_neg c4] at H
  have c4b0 : decide (8000 < (a0.size : Int)) = false := decide_eq_false c4
  have c4b1 : decide (8000 < a0.size) = false := decide_eq_false (by omega)
  clear c4
  (first | rw [c4b0] | (simp only [i64_w, i32_w]; rw [c4b0]) | rw [c4b1] | simp only [c4b2, decide_true, decide_false] | skip)
  obtain ⟨⟨t280, t281⟩, A6, H⟩ := zbi H
  try dsimp only at H
  have HC7 := Aside0.mk H
  clear H
  go_upto_block 0 with (first | ((with_reducible refine gate_dst (N := 4) rfl ?_); refine box_event (by rfl) (N := 4) (by rfl) (cs := #[.int .i64 0, .int .i64 0, .int .i64 0, .string (⟨#[]⟩ : ByteArray), .slice none 0 0, .string (⟨#[]⟩ : ByteArray), .int .i64 0, .int .i64 0, .int .i64 0, .int .i64 0, .string (⟨#[]⟩ : ByteArray), .int .i64 0, .int .i64 0]) (t := 28) (by first | (go_simp; done) | (go_simp; rfl)) ?_; intro gb278 hg w8 hbox hb; have BK278 := Aside0.mk (hbox); have GW278 := Aside0.mk ((by rw [hg]; exact (below_size (by repeat (first | (with_reducible first | exact HB.out | apply below_alloc | apply pw_below_drewN | apply below_drew1 | refine below_set ?_ GE277.out) | exact HB.out))) : w.heap.size ≤ gb278)); have GE278 := GW278; replace HB := Aside0.mk (below_step (by repeat (first | (with_reducible first | exact HB.out | apply below_alloc | apply pw_below_drewN | apply below_drew1 | refine below_set ?_ GE277.out) | exact HB.out)) hb); have NB277_278 := Aside0.mk ((by rw [hg]; exact Nat.ne_of_lt (blk_lt (g := gb277) (o := .cells #[.int .i64 0, .int .i64 0, .int .i64 0, .string (⟨#[]⟩ : ByteArray), .slice none 0 0, .string (⟨#[]⟩ : ByteArray), .int .i64 0, .int .i64 0, .int .i64 0, .int .i64 0, .string (⟨#[]⟩ : ByteArray), .int .i64 0, .int .i64 0] 28 (0, 0)) (by (with_reducible repeat (first | refine blk_drewN ?_ _ | refine blk_drew ?_ | refine blk_alloc ?_ _)); exact BK277.out)) : gb277 ≠ gb278)); have NB278_277 := Aside0.mk NB277_278.out.symm; replace BK277 := Aside0.mk (zbb BK277.out hb); clear hb hbox hg) | ((with_reducible refine gate_dst (N := 13) rfl ?_); refine box_event (by rfl) (N := 13) (by rfl) (cs := #[.string a0]) (t := 54) (by first | (go_simp; done) | (go_simp; rfl)) ?_; intro gb279 hg w9 hbox hb; have NB277_279 := Aside0.mk ((by rw [hg]; exact Nat.ne_of_lt (blk_lt (g := gb277) (o := .cells #[.int .i64 0, .int .i64 0, .int .i64 0, .string (⟨#[]⟩ : ByteArray), .slice none 0 0, .string (⟨#[]⟩ : ByteArray), .int .i64 0, .int .i64 0, .int .i64 0, .int .i64 0, .string (⟨#[]⟩ : ByteArray), .int .i64 0, .int .i64 0] 28 (0, 0)) (by (with_reducible repeat (first | refine blk_drewN ?_ _ | refine blk_drew ?_ | refine blk_alloc ?_ _)); exact BK277.out)) : gb277 ≠ gb279)); have NB279_277 := Aside0.mk NB277_279.out.symm; replace BK277 := Aside0.mk (zbb BK277.out hb); have NB278_279 := Aside0.mk ((by rw [hg]; exact Nat.ne_of_lt (blk_lt (g := gb278) (o := .cells #[.int .i64 0, .int .i64 0, .int .i64 0, .string (⟨#[]⟩ : ByteArray), .slice none 0 0, .string (⟨#[]⟩ : ByteArray), .int .i64 0, .int .i64 0, .int .i64 0, .int .i64 0, .string (⟨#[]⟩ : ByteArray), .int .i64 0, .int .i64 0] 28 (0, 0)) (by (with_reducible repeat (first | refine blk_drewN ?_ _ | refine blk_drew ?_ | refine blk_alloc ?_ _)); exact BK278.out)) : gb278 ≠ gb279)); have NB279_278 := Aside0.mk NB278_279.out.symm; replace BK278 := Aside0.mk (zbb BK278.out hb); have HI279 := Aside0.mk ((show IsS54 w w9 gb279 a0 from ⟨hbox, (by rw [hg]; exact (below_size z16_4_) : w.heap.size ≤ gb279)⟩)); replace HB := Aside0.mk (below_step z16_4_ hb); clear hb hbox hg) | ((with_reducible refine gate_callee (f := 24) rfl ?_); refine goesL_ (some 15) rfl rfl Tryz.func24 (by kernel_rfl) rfl #[.pointer (some ⟨gb279, 0, none⟩), .int .u8 32] rfl z16_2_ ?_; (with_reducible refine (spec_l6rd_upTo.calls k gb279 a0 32 t280 t281 w _ ?side1 ?side2 A6.out).mono ?_); (case side1 => exact (by repeat (first | (with_reducible first | exact HI279.out | apply IsS54.alloc | apply IsS54.drewN | apply IsS54.drew | apply IsS54.set_0 | refine IsS54.far ?_ NB279_277.out _ | refine IsS54.far ?_ NB279_278.out _) | exact HI279.out))); (case side2 => exact z16_0_); rintro e w10 ⟨rfl, hi, hb, hk⟩; refine ⟨_, rfl, ?_⟩; replace BK277 := Aside0.mk (zkb BK277.out hk NB277_279.out); replace BK278 := Aside0.mk (zkb BK278.out hk NB278_279.out); replace HB := Aside0.mk (hb); replace HI279 := Aside0.mk (hi); clear hb hk hi))
  (try simp only [Act.put, List.setIfInBounds_toArray, List.set_cons_zero, List.set_cons_succ])
  go_cut [] (fun wc => ∃ (kq : Nat) (x279000_6 : Int) (x279001_6 : Int) (x279002_6 : Int) (x279003_6 : ByteArray) (x279004_6 : List ByteArray) (x279005_6 : ByteArray) (x279006_6 : Int) (x279007_6 : Int) (x279008_6 : Int) (x279009_6 : Int) (x279010_6 : ByteArray) (x279011_6 : Int) (x279012_6 : Int) (u279004 : Value), Aside0 (spec_UnpackRecord.j1 kq a0 x279000_6 x279001_6 x279002_6 x279003_6 x279004_6 x279005_6 x279006_6 x279007_6 x279008_6 x279009_6 x279010_6 x279011_6 x279012_6 = some (r1, r2, r3, r4, r5, r6, r7, r8, r9, r10, r11, r12, r13, r14)) ∧ Aside0 (kq ≤ k) ∧ Aside0 (Kd.R Kd.string 9 wc w.heap.size (fun _ => True) u279004 x279004_6) ∧ Aside0 (wc.heap[gb277]? = some (.cells #[.int .i64 0, .int .i64 0, .int .i64 0, .string (⟨#[]⟩ : ByteArray), (.slice none 0 0), .string (⟨#[]⟩ : ByteArray), .int .i64 0, .int .i64 0, .int .i64 0, .int .i64 0, .string (⟨#[]⟩ : ByteArray), .int .i64 0, .int .i64 0] 28 (0, 0))) ∧ Aside0 (wc.heap[gb278]? = some (.cells #[.int .i64 x279000_6, .int .i64 x279001_6, .int .i64 x279002_6, .string x279003_6, u279004, .string x279005_6, .int .i64 x279006_6, .int .i64 x279007_6, .int .i64 x279008_6, .int .i64 x279009_6, .string x279010_6, .int .i64 x279011_6, .int .i64 x279012_6] 28 (0, 0))) ∧ Aside0 (Below w.heap.size w wc))
  case first =>
   have H := HC7.out
   clear HC7
   by_cases c11 : t280.toList = ([77] : List UInt8)
   ·rw [if_pos c11] at H
    have c11b0 : (t280.toList == ([77] : List UInt8)) = true := beq_iff_eq.mpr c11
    have c11b1 : (t280.toList != ([77] : List UInt8)) = false := bne_eq_false_iff_eq.mpr c11
    clear c11
    (first | rw [c11b0] | (simp only [i64_w, i32_w]; rw [c11b0]) | rw [c11b1] | simp only [c11b2, decide_true, decide_false] | skip)
    obtain ⟨⟨t282, t283⟩, A12, H⟩ := zbi H
    try dsimp only at H
    obtain ⟨⟨t284, t285⟩, A13, H⟩ := zbi H
    try dsimp only at H
    obtain ⟨⟨t286, t287⟩, A14, H⟩ := zbi H
    try dsimp only at H
    obtain ⟨⟨t288, t289⟩, A15, H⟩ := zbi H
    try dsimp only at H
    have H' := Aside0.mk H
    clear H
    have hnb16 := NB278_277.out
    have hnc16 := NB277_278.out
    have hnb17 := NB278_279.out
    have hnc17 := NB279_278.out
    obtain ⟨q18_0, q18_1, q18_2, q18_3, q18_4, q18_5, q18_6, q18_7, q18_8, q18_9, q18_10, q18_11, q18_12⟩ := zc13 BK278.out
    obtain ⟨f18_0, f18_1, f18_2, f18_3, f18_4, f18_5, f18_6, f18_7, f18_8, f18_9, f18_10, f18_11, f18_12⟩ := zf13 BK278.out
    go_wp2_with (first | ((with_reducible refine gate_callee (f := 25) rfl ?_); refine goesL_ (some 20) rfl rfl Tryz.func25 (by kernel_rfl) rfl #[.pointer (some ⟨gb279, 0, none⟩)] rfl z16_2_ ?_; (with_reducible refine (spec_l6rd_num.calls k gb279 t281 t282 t283 w _ ?side1 ?side2 A12.out).mono ?_); (case side1 => exact (by repeat (first | (with_reducible first | exact HI279.out | apply IsS54.alloc | apply IsS54.drewN | apply IsS54.drew | apply IsS54.set_0 | refine IsS54.far ?_ NB279_277.out _ | refine IsS54.far ?_ NB279_278.out _) | exact HI279.out))); (case side2 => exact z16_0_); rintro e w19 ⟨rfl, hi, hb, hk⟩; refine ⟨_, rfl, ?_⟩; replace BK277 := Aside0.mk (KeepBut.blk hk (g' := gb277) (o := .cells #[.int .i64 0, .int .i64 0, .int .i64 0, .string (⟨#[]⟩ : ByteArray), .slice none 0 0, .string (⟨#[]⟩ : ByteArray), .int .i64 0, .int .i64 0, .int .i64 0, .int .i64 0, .string (⟨#[]⟩ : ByteArray), .int .i64 0, .int .i64 0] 28 (0, 0)) z16_1_ NB277_279.out (by simp)); replace BK278 := Aside0.mk (KeepBut.blk hk (g' := gb278) (o := .cells #[.int .i64 1, .int .i64 0, .int .i64 0, .string (⟨#[]⟩ : ByteArray), .slice none 0 0, .string (⟨#[]⟩ : ByteArray), .int .i64 0, .int .i64 0, .int .i64 0, .int .i64 0, .string (⟨#[]⟩ : ByteArray), .int .i64 0, .int .i64 0] 28 (0, 0)) (by (with_reducible repeat (first | refine blk_drewN ?_ _ | refine blk_drew ?_ | refine blk_alloc ?_ _)); refine blk_put (cs := #[.int .i64 0, .int .i64 0, .int .i64 0, .string (⟨#[]⟩ : ByteArray), .slice none 0 0, .string (⟨#[]⟩ : ByteArray), .int .i64 0, .int .i64 0, .int .i64 0, .int .i64 0, .string (⟨#[]⟩ : ByteArray), .int .i64 0, .int .i64 0]) ?_ 0 _ rfl; (with_reducible repeat (first | refine blk_drewN ?_ _ | refine blk_drew ?_ | refine blk_alloc ?_ _)); exact BK278.out) NB278_279.out (by simp)); replace HB := Aside0.mk (hb); replace HI279 := Aside0.mk (hi); clear hb hk hi; obtain ⟨q20_0, q20_1, q20_2, q20_3, q20_4, q20_5, q20_6, q20_7, q20_8, q20_9, q20_10, q20_11, q20_12⟩ := zc13 BK278.out; obtain ⟨f20_0, f20_1, f20_2, f20_3, f20_4, f20_5, f20_6, f20_7, f20_8, f20_9, f20_10, f20_11, f20_12⟩ := zf13 BK278.out) | ((with_reducible refine gate_callee (f := 25) rfl ?_); refine goesL_ (some 24) rfl rfl Tryz.func25 (by kernel_rfl) rfl #[.pointer (some ⟨gb279, 0, none⟩)] rfl z16_2_ ?_; (with_reducible refine (spec_l6rd_num.calls k gb279 t283 t284 t285 w _ ?side1 ?side2 A13.out).mono ?_); (case side1 => exact (by repeat (first | (with_reducible first | exact HI279.out | apply IsS54.alloc | apply IsS54.drewN | apply IsS54.drew | apply IsS54.set_0 | refine IsS54.far ?_ NB279_277.out _ | refine IsS54.far ?_ NB279_278.out _) | exact HI279.out))); (case side2 => exact z16_0_); rintro e w21 ⟨rfl, hi, hb, hk⟩; refine ⟨_, rfl, ?_⟩; replace BK277 := Aside0.mk (KeepBut.blk hk (g' := gb277) (o := .cells #[.int .i64 0, .int .i64 0, .int .i64 0, .string (⟨#[]⟩ : ByteArray), .slice none 0 0, .string (⟨#[]⟩ : ByteArray), .int .i64 0, .int .i64 0, .int .i64 0, .int .i64 0, .string (⟨#[]⟩ : ByteArray), .int .i64 0, .int .i64 0] 28 (0, 0)) z16_1_ NB277_279.out (by simp)); replace BK278 := Aside0.mk (KeepBut.blk hk (g' := gb278) (o := .cells #[.int .i64 1, .int .i64 t282, .int .i64 0, .string (⟨#[]⟩ : ByteArray), .slice none 0 0, .string (⟨#[]⟩ : ByteArray), .int .i64 0, .int .i64 0, .int .i64 0, .int .i64 0, .string (⟨#[]⟩ : ByteArray), .int .i64 0, .int .i64 0] 28 (0, 0)) (by (with_reducible repeat (first | refine blk_drewN ?_ _ | refine blk_drew ?_ | refine blk_alloc ?_ _)); refine blk_put (cs := #[.int .i64 1, .int .i64 0, .int .i64 0, .string (⟨#[]⟩ : ByteArray), .slice none 0 0, .string (⟨#[]⟩ : ByteArray), .int .i64 0, .int .i64 0, .int .i64 0, .int .i64 0, .string (⟨#[]⟩ : ByteArray), .int .i64 0, .int .i64 0]) ?_ 1 _ rfl; (with_reducible repeat (first | refine blk_drewN ?_ _ | refine blk_drew ?_ | refine blk_alloc ?_ _)); exact BK278.out) NB278_279.out (by simp)); replace HB := Aside0.mk (hb); replace HI279 := Aside0.mk (hi); clear hb hk hi; obtain ⟨q22_0, q22_1, q22_2, q22_3, q22_4, q22_5, q22_6, q22_7, q22_8, q22_9, q22_10, q22_11, q22_12⟩ := zc13 BK278.out; obtain ⟨f22_0, f22_1, f22_2, f22_3, f22_4, f22_5, f22_6, f22_7, f22_8, f22_9, f22_10, f22_11, f22_12⟩ := zf13 BK278.out) | ((with_reducible refine gate_callee (f := 25) rfl ?_); refine goesL_ (some 28) rfl rfl Tryz.func25 (by kernel_rfl) rfl #[.pointer (some ⟨gb279, 0, none⟩)] rfl z16_2_ ?_; (with_reducible refine (spec_l6rd_num.calls k gb279 t285 t286 t287 w _ ?side1 ?side2 A14.out).mono ?_); (case side1 => exact (by repeat (first | (with_reducible first | exact HI279.out | apply IsS54.alloc | apply IsS54.drewN | apply IsS54.drew | apply IsS54.set_0 | refine IsS54.far ?_ NB279_277.out _ | refine IsS54.far ?_ NB279_278.out _) | exact HI279.out))); (case side2 => exact z16_0_); rintro e w23 ⟨rfl, hi, hb, hk⟩; refine ⟨_, rfl, ?_⟩; replace BK277 := Aside0.mk (KeepBut.blk hk (g' := gb277) (o := .cells #[.int .i64 0, .int .i64 0, .int .i64 0, .string (⟨#[]⟩ : ByteArray), .slice none 0 0, .string (⟨#[]⟩ : ByteArray), .int .i64 0, .int .i64 0, .int .i64 0, .int .i64 0, .string (⟨#[]⟩ : ByteArray), .int .i64 0, .int .i64 0] 28 (0, 0)) z16_1_ NB277_279.out (by simp)); replace BK278 := Aside0.mk (KeepBut.blk hk (g' := gb278) (o := .cells #[.int .i64 1, .int .i64 t282, .int .i64 t284, .string (⟨#[]⟩ : ByteArray), .slice none 0 0, .string (⟨#[]⟩ : ByteArray), .int .i64 0, .int .i64 0, .int .i64 0, .int .i64 0, .string (⟨#[]⟩ : ByteArray), .int .i64 0, .int .i64 0] 28 (0, 0)) (by (with_reducible repeat (first | refine blk_drewN ?_ _ | refine blk_drew ?_ | refine blk_alloc ?_ _)); refine blk_put (cs := #[.int .i64 1, .int .i64 t282, .int .i64 0, .string (⟨#[]⟩ : ByteArray), .slice none 0 0, .string (⟨#[]⟩ : ByteArray), .int .i64 0, .int .i64 0, .int .i64 0, .int .i64 0, .string (⟨#[]⟩ : ByteArray), .int .i64 0, .int .i64 0]) ?_ 2 _ rfl; (with_reducible repeat (first | refine blk_drewN ?_ _ | refine blk_drew ?_ | refine blk_alloc ?_ _)); exact BK278.out) NB278_279.out (by simp)); replace HB := Aside0.mk (hb); replace HI279 := Aside0.mk (hi); clear hb hk hi) | ((with_reducible refine gate_callee (f := 26) rfl ?_); refine goesL_ (some 30) rfl rfl Tryz.func26 (by kernel_rfl) rfl #[.pointer (some ⟨gb279, 0, none⟩)] rfl z16_2_ ?_; (with_reducible refine (spec_l6rd_str.calls k gb279 t287 t288 t289 w _ ?side1 ?side2 A15.out).mono ?_); (case side1 => exact (by repeat (first | (with_reducible first | exact HI279.out | apply IsS54.alloc | apply IsS54.drewN | apply IsS54.drew | apply IsS54.set_0 | refine IsS54.far ?_ NB279_277.out _ | refine IsS54.far ?_ NB279_278.out _) | exact HI279.out))); (case side2 => exact z16_0_); rintro e w24 ⟨rfl, hi, hb, hk⟩; refine ⟨_, rfl, ?_⟩; replace BK277 := Aside0.mk (zkb BK277.out hk NB277_279.out); replace BK278 := Aside0.mk (zkb BK278.out hk NB278_279.out); replace HB := Aside0.mk (hb); replace HI279 := Aside0.mk (hi); clear hb hk hi; obtain ⟨q25_0, q25_1, q25_2, q25_3, q25_4, q25_5, q25_6, q25_7, q25_8, q25_9, q25_10, q25_11, q25_12⟩ := zc13 BK278.out; obtain ⟨f25_0, f25_1, f25_2, f25_3, f25_4, f25_5, f25_6, f25_7, f25_8, f25_9, f25_10, f25_11, f25_12⟩ := zf13 BK278.out))
    go_loopg [6] k (fun kq v6 w' => ∃ (x6_1 : Int) (x279004_1 : List ByteArray) (x280000_1 : ByteArray) (u279004 : Value), v6 = .int .i64 x6_1 ∧ Aside0 (spec_UnpackRecord.l0 kq a0 x6_1 1 t282 t284 t288 x279004_1 (⟨#[]⟩ : ByteArray) 0 0 0 0 (⟨#[]⟩ : ByteArray) 0 0 x280000_1 = some (r1, r2, r3, r4, r5, r6, r7, r8, r9, r10, r11, r12, r13, r14)) ∧ Aside0 (kq ≤ k) ∧ Aside0 (Kd.R Kd.string 9 w' w.heap.size (fun _ => True) u279004 x279004_1) ∧ Aside0 (w'.heap[gb277]? = some (.cells #[.int .i64 0, .int .i64 0, .int .i64 0, .string (⟨#[]⟩ : ByteArray), (.slice none 0 0), .string (⟨#[]⟩ : ByteArray), .int .i64 0, .int .i64 0, .int .i64 0, .int .i64 0, .string (⟨#[]⟩ : ByteArray), .int .i64 0, .int .i64 0] 28 (0, 0))) ∧ Aside0 (w'.heap[gb278]? = some (.cells #[.int .i64 1, .int .i64 t282, .int .i64 t284, .string t288, u279004, .string (⟨#[]⟩ : ByteArray), .int .i64 0, .int .i64 0, .int .i64 0, .int .i64 0, .string (⟨#[]⟩ : ByteArray), .int .i64 0, .int .i64 0] 28 (0, 0))) ∧ Aside0 (IsS54 w w' gb279 x280000_1) ∧ Aside0 (Below w.heap.size w w'))
    case atStart => exact ⟨(t286), (([] : List ByteArray)), (t289), (.slice none 0 0), (by first | rfl | (simp; done) | (simp [*]; done)), H', ⟨Nat.le_refl _⟩, ⟨z16_3_⟩, ⟨z16_1_⟩, ⟨(by (with_reducible repeat (first | refine blk_drewN ?_ _ | refine blk_drew ?_ | refine blk_alloc ?_ _)); refine blk_put (cs := #[.int .i64 1, .int .i64 t282, .int .i64 t284, .string (⟨#[]⟩ : ByteArray), .slice none 0 0, .string (⟨#[]⟩ : ByteArray), .int .i64 0, .int .i64 0, .int .i64 0, .int .i64 0, .string (⟨#[]⟩ : ByteArray), .int .i64 0, .int .i64 0]) ?_ 3 _ rfl; (with_reducible repeat (first | refine blk_drewN ?_ _ | refine blk_drew ?_ | refine blk_alloc ?_ _)); exact BK278.out)⟩, ⟨(by repeat (first | (with_reducible first | exact HI279.out | apply IsS54.alloc | apply IsS54.drewN | apply IsS54.drew | apply IsS54.set_0 | refine IsS54.far ?_ NB279_277.out _ | refine IsS54.far ?_ NB279_278.out _) | exact HI279.out))⟩, ⟨z16_0_⟩⟩
    case round =>
     clear H'
     try clear c1
     try clear c2
     try clear p2
     try clear c4
     try clear c4b0
     try clear c4b1
     try clear c6
     try clear c11
     try clear c11b0
     try clear c11b1
     try clear c16
     try clear c17
     try clear c24
     try clear c25
     try clear q18_0 q18_1 q18_10 q18_11 q18_12 q18_2 q18_3 q18_4 q18_5 q18_6 q18_7 q18_8 q18_9
     try clear q20_0 q20_1 q20_10 q20_11 q20_12 q20_2 q20_3 q20_4 q20_5 q20_6 q20_7 q20_8 q20_9
     try clear q22_0 q22_1 q22_10 q22_11 q22_12 q22_2 q22_3 q22_4 q22_5 q22_6 q22_7 q22_8 q22_9
     try clear q25_0 q25_1 q25_10 q25_11 q25_12 q25_2 q25_3 q25_4 q25_5 q25_6 q25_7 q25_8 q25_9
     try clear q5_0 q5_1 q5_10 q5_11 q5_12 q5_2 q5_3 q5_4 q5_5 q5_6 q5_7 q5_8 q5_9
     try clear f18_0 f18_1 f18_10 f18_11 f18_12 f18_2 f18_3 f18_4 f18_5 f18_6 f18_7 f18_8 f18_9
     try clear f20_0 f20_1 f20_10 f20_11 f20_12 f20_2 f20_3 f20_4 f20_5 f20_6 f20_7 f20_8 f20_9
     try clear f22_0 f22_1 f22_10 f22_11 f22_12 f22_2 f22_3 f22_4 f22_5 f22_6 f22_7 f22_8 f22_9
     try clear f25_0 f25_1 f25_10 f25_11 f25_12 f25_2 f25_3 f25_4 f25_5 f25_6 f25_7 f25_8 f25_9
     try clear f5_0 f5_1 f5_10 f5_11 f5_12 f5_2 f5_3 f5_4 f5_5 f5_6 f5_7 f5_8 f5_9
     obtain ⟨x6_1, x279004_1, x280000_1, u279004, rfl, HA, HK1, HO_279004, BK277, BK278, HI279, HB⟩ := hrel
     cases gk with
     | zero => exact absurd HA.out (by simp [spec_UnpackRecord.l0])
     | succ k1 =>
      have H := HA.out
      clear HA
      simp only [spec_UnpackRecord.l0] at H
      by_cases c26 : x6_1 > 0
      ·rw [if_pos c26] at H
       have c26b0 : decide (0 < x6_1) = true := decide_eq_true c26
       clear c26
       by_cases c27 : x6_1 ≤ 20
       ·rw [if_pos c27] at H
        have c27b0 : decide (x6_1 ≤ 20) = true := decide_eq_true c27
        clear c27
        obtain ⟨⟨t290, t291⟩, A28, H⟩ := zbi H
        try dsimp only at H
        by_cases c29 : x279004_1.length < 8796093022208
        ·rw [if_pos c29] at H
         have LMc29 := Aside0.mk c29
         clear c29
         obtain ⟨y292, hy292⟩ : ∃ y_ : List ByteArray, y_ = (x279004_1 ++ [t290]) := ⟨_, rfl⟩
         replace H : (spec_UnpackRecord.l0 k1 a0 (wrap64 (x6_1 - 1)) 1 t282 t284 t288 y292 (⟨#[]⟩ : ByteArray) 0 0 0 0 (⟨#[]⟩ : ByteArray) 0 0 t291) = some (r1, r2, r3, r4, r5, r6, r7, r8, r9, r10, r11, r12, r13, r14) := by first | (rw [hy292]; with_reducible exact H) | (have H2_ := (Option.bind_some _ _).symm.trans H; rw [hy292]; with_reducible exact H2_) | (have H2_ := (Option.bind_some _ _).symm.trans H; with_reducible exact H2_) | with_reducible exact H | (rw [hy292]; exact H) | exact H
         have Ny292 := Aside0.mk hy292
         clear hy292
         have H' := Aside0.mk H
         clear H
         try go_wp2
         replace HO_279004 := Aside0.mk (Kd.R_drew HO_279004.out)
         replace BK277 := Aside0.mk (blk_drew BK277.out)
         replace BK278 := Aside0.mk (blk_drew BK278.out)
         replace HI279 := Aside0.mk (IsS54.drew HI279.out)
         replace HB := Aside0.mk (below_drew1 HB.out)
         refine start_ (n := 10) (S := fun w' => w'.cell? ⟨gb278, 0, none⟩ = some (.int .i64 1) ∧ w'.cell? ⟨gb278, 1, none⟩ = some (.int .i64 t282) ∧ w'.cell? ⟨gb278, 2, none⟩ = some (.int .i64 t284) ∧ w'.cell? ⟨gb278, 3, none⟩ = some (.string t288) ∧ w'.cell? ⟨gb278, 4, none⟩ = some (u279004) ∧ w'.cell? ⟨gb278, 5, none⟩ = some (.string (⟨#[]⟩ : ByteArray)) ∧ w'.cell? ⟨gb278, 6, none⟩ = some (.int .i64 0) ∧ w'.cell? ⟨gb278, 7, none⟩ = some (.int .i64 0) ∧ w'.cell? ⟨gb278, 8, none⟩ = some (.int .i64 0) ∧ w'.cell? ⟨gb278, 9, none⟩ = some (.int .i64 0) ∧ w'.cell? ⟨gb278, 10, none⟩ = some (.string (⟨#[]⟩ : ByteArray)) ∧ w'.cell? ⟨gb278, 11, none⟩ = some (.int .i64 0) ∧ w'.cell? ⟨gb278, 12, none⟩ = some (.int .i64 0)) (ds := [9]) #[false, false, false, false, false, false, false, false, false, false] (by kernel_rfl) rfl rfl ⟨(blk_cell BK278.out 0).trans rfl, (blk_cell BK278.out 1).trans rfl, (blk_cell BK278.out 2).trans rfl, (blk_cell BK278.out 3).trans rfl, (blk_cell BK278.out 4).trans rfl, (blk_cell BK278.out 5).trans rfl, (blk_cell BK278.out 6).trans rfl, (blk_cell BK278.out 7).trans rfl, (blk_cell BK278.out 8).trans rfl, (blk_cell BK278.out 9).trans rfl, (blk_cell BK278.out 10).trans rfl, (blk_cell BK278.out 11).trans rfl, (blk_cell BK278.out 12).trans rfl⟩ (fun hHeld => ?_); refine with_tabW spec_UnpackRecord.tab14 spec_UnpackRecord.bits14 (fun HT_ HW_ => ?_)
         generalize wr.drew = w30 at HO_279004 BK277 BK278 HI279 HB hHeld ⊢
         refine zpu 0 41 (zfl 10 [0]) HT_ ?_
         refine zpu 1 42 (zfl 10 [0, 1]) HT_ ?_
         refine zpu 3 44 (zfl 10 [0, 1, 3]) HT_ ?_
         refine ztk 2 43 (zfl 10 [0, 1, 2, 3]) HT_ HW_ hHeld ?_
         refine zon 4 45 (zfl 10 [0, 1, 2, 3, 4]) HT_ (fun K hK => ?_)
         refine goes_ Tryz.func26 (by kernel_rfl) rfl #[.pointer (some ⟨gb279, 0, none⟩)] (by rfl) rfl rfl z16_2_ ?_
         with_reducible refine (spec_l6rd_str.calls k1 gb279 x280000_1 t290 t291 w _ ?side1 ?side2 A28.out).mono ?_
         (case side1 => exact (by repeat (first | (with_reducible first | exact HI279.out | apply IsS54.alloc | apply IsS54.drewN | apply IsS54.drew | apply IsS54.set_0 | refine IsS54.far ?_ NB279_277.out _ | refine IsS54.far ?_ NB279_278.out _) | exact HI279.out)))
         (case side2 => exact z16_0_)
         rintro e w31 ⟨rfl, hi, hb, hk⟩
         refine ⟨_, rfl, ?_⟩
         replace HO_279004 := Aside0.mk (Kd.R_mono (Kd.R_keep (IsS54.apart (show IsS54 w _ gb279 x280000_1 from by repeat (first | (with_reducible first | exact HI279.out | apply IsS54.alloc | apply IsS54.drewN | apply IsS54.drew | apply IsS54.set_0 | refine IsS54.far ?_ NB279_277.out _ | refine IsS54.far ?_ NB279_278.out _) | exact HI279.out)) z16_6_ (by decide)) hk (fun _ h => h.2)) (fun _ h => h.1))
         replace BK277 := Aside0.mk (zkb BK277.out hk NB277_279.out)
         replace BK278 := Aside0.mk (zkb BK278.out hk NB278_279.out)
         replace HB := Aside0.mk (hb)
         replace HI279 := Aside0.mk (hi)
         (try clear hb)
         (try clear hb2)
         (try clear hk)
         (try clear hi)
         refine hK.out _ _ ⟨(blk_cell BK278.out 0).trans rfl, (blk_cell BK278.out 1).trans rfl, (blk_cell BK278.out 2).trans rfl, (blk_cell BK278.out 3).trans rfl, (blk_cell BK278.out 4).trans rfl, (blk_cell BK278.out 5).trans rfl, (blk_cell BK278.out 6).trans rfl, (blk_cell BK278.out 7).trans rfl, (blk_cell BK278.out 8).trans rfl, (blk_cell BK278.out 9).trans rfl, (blk_cell BK278.out 10).trans rfl, (blk_cell BK278.out 11).trans rfl, (blk_cell BK278.out 12).trans rfl⟩ (fun hHeld => ?_)
         clear hK K
         refine znm ?_
         refine zon 5 46 (zfl 10 [0, 1, 2, 3, 4, 5]) HT_ (fun K hK => ?_)
         refine value_ (w1 := ?_) (v := ?_) (by rfl) rfl ?_ ?_
         rotate_left 2
         ·go_simp
          constructor
          ·rfl
          ·rfl
         refine hK.out _ _ ⟨(blk_cell (blk_alloc BK278.out _) 0).trans rfl, (blk_cell (blk_alloc BK278.out _) 1).trans rfl, (blk_cell (blk_alloc BK278.out _) 2).trans rfl, (blk_cell (blk_alloc BK278.out _) 3).trans rfl, (blk_cell (blk_alloc BK278.out _) 4).trans rfl, (blk_cell (blk_alloc BK278.out _) 5).trans rfl, (blk_cell (blk_alloc BK278.out _) 6).trans rfl, (blk_cell (blk_alloc BK278.out _) 7).trans rfl, (blk_cell (blk_alloc BK278.out _) 8).trans rfl, (blk_cell (blk_alloc BK278.out _) 9).trans rfl, (blk_cell (blk_alloc BK278.out _) 10).trans rfl, (blk_cell (blk_alloc BK278.out _) 11).trans rfl, (blk_cell (blk_alloc BK278.out _) 12).trans rfl⟩ (fun hHeld => ?_)
         clear hK K
         refine znm ?_
         refine zon 6 47 (zfl 10 [0, 1, 2, 3, 4, 5, 6]) HT_ (fun K hK => ?_)
         refine Kd.R_append_step Kd.string (w0 := w) w.heap.size (by rfl) (.tmp 43) (.tmp 46) 22 9 (.string ⟨#[]⟩) 16 rfl Tryz.underlying22 info9 rfl (by decide) (by omega) u279004 x279004_1 t290 [.string t290] (fun _ => True) (fun _ => False) rfl rfl ?aP (fun _ hk => hk.elim) ?aF ?aO ?aB ?aS ?aL ?_
         (case aP => exact rfl)
         (case aB => exact z16_0_)
         (case aF => exact (fun _ _ => trivial))
         (case aO => exact z16_6_)
         (case aS => exact (below_size z16_0_))
         (case aL => have := LMc29.out; omega)
         intro v293 w32 ho hb hg hat
         rw [← Ny292.out] at ho
         have n0_ := Aside0.mk (blk_grown (g := gb277) (o := .cells #[.int .i64 0, .int .i64 0, .int .i64 0, .string (⟨#[]⟩ : ByteArray), .slice none 0 0, .string (⟨#[]⟩ : ByteArray), .int .i64 0, .int .i64 0, .int .i64 0, .int .i64 0, .string (⟨#[]⟩ : ByteArray), .int .i64 0, .int .i64 0] 28 (0, 0)) (by (with_reducible repeat (first | refine blk_drewN ?_ _ | refine blk_drew ?_ | refine blk_alloc ?_ _)); exact BK277.out) hg (Kd.R_ne HO_279004.out BK277.out (by decide)))
         have n1_ := Aside0.mk (blk_grown (g := gb278) (o := .cells #[.int .i64 1, .int .i64 t282, .int .i64 t284, .string t288, u279004, .string (⟨#[]⟩ : ByteArray), .int .i64 0, .int .i64 0, .int .i64 0, .int .i64 0, .string (⟨#[]⟩ : ByteArray), .int .i64 0, .int .i64 0] 28 (0, 0)) (by (with_reducible repeat (first | refine blk_drewN ?_ _ | refine blk_drew ?_ | refine blk_alloc ?_ _)); exact BK278.out) hg (Kd.R_ne HO_279004.out BK278.out (by decide)))
         have n2_ := Aside0.mk (IsS54.grown (by repeat (first | (with_reducible first | exact HI279.out | apply IsS54.alloc | apply IsS54.drewN | apply IsS54.drew | apply IsS54.set_0 | refine IsS54.far ?_ NB279_277.out _ | refine IsS54.far ?_ NB279_278.out _) | exact HI279.out)) hg (IsS54.own_ne HI279.out HO_279004.out (by decide)))
         have n3_ := Aside0.mk (hb)
         have n4_ := Aside0.mk (ho)
         clear BK277
         clear BK278
         clear HI279
         clear HB
         clear HO_279004
         have BK277 := n0_
         have BK278 := n1_
         have HI279 := n2_
         have HB := n3_
         have HO294 := n4_
         clear n0_ n1_ n2_ n3_ n4_
         clear ho hb hg hat
         obtain ⟨Ao33, co33, eo33⟩ := Kd.R_slice HO294.out
         (first | subst eo33 | (injection eo33 with f1_ f2_ f3_; have f4_ := f1_.symm; have f5_ := f3_.symm; clear f1_ f2_ f3_; subst f4_; subst f5_))
         refine hK.out _ _ ⟨(blk_cell BK278.out 0).trans rfl, (blk_cell BK278.out 1).trans rfl, (blk_cell BK278.out 2).trans rfl, (blk_cell BK278.out 3).trans rfl, (blk_cell BK278.out 4).trans rfl, (blk_cell BK278.out 5).trans rfl, (blk_cell BK278.out 6).trans rfl, (blk_cell BK278.out 7).trans rfl, (blk_cell BK278.out 8).trans rfl, (blk_cell BK278.out 9).trans rfl, (blk_cell BK278.out 10).trans rfl, (blk_cell BK278.out 11).trans rfl, (blk_cell BK278.out 12).trans rfl⟩ (fun hHeld => ?_)
         clear hK K
         refine znm ?_
         refine zpu 7 48 (zfl 10 [0, 1, 2, 3, 4, 5, 6, 7]) HT_ ?_
         refine zpu 8 49 (zfl 10 [0, 1, 2, 3, 4, 5, 6, 7, 8]) HT_ ?_
         refine last_ (i := 9) (N := none) #[true, true, true, true, true, true, true, true, true, true] rfl rfl (one_of HT_.out (by kernel_rfl)) (by decide) (fun K hK => ?_)
         have hs34 : w32.cell? ⟨gb278, 4, none⟩ = some (u279004) := (blk_cell BK278.out 4).trans rfl
         have hfs34 := blk_frozen BK278.out 4
         have hns34_0 := NB277_278.out
         have hms34_0 := NB278_277.out
         refine skip_ (w1 := ?_) (by rfl) rfl ?_ ?_
         rotate_left
         ·go_simp
          rfl
         refine hK.out _ _ ?_
         clear hK K
         refine done_ (done_of HT_.out (by kernel_rfl)) ?_
         try go_wp2
         go_roundg k1
         case measure => have := HK1.out; omega
         case rel => exact ⟨(wrap64 (x6_1 - 1)), (y292), (t291), (.slice Ao33 y292.length co33), (by first | rfl | (simp; done) | (simp [*]; done)), H', ⟨(by have := HK1.out; omega)⟩, ⟨(by (with_reducible repeat (first | apply Kd.R_alloc | apply Kd.R_drewN | apply Kd.R_drew)); exact Kd.R_mono (Kd.R_far (p := ⟨gb278, 4, none⟩) (Kd.R_types HO294.out BK278.out (by decide)) (fun _ hk => hk.2) (.slice Ao33 y292.length co33)) (fun _ hk => trivial))⟩, ⟨z16_1_⟩, ⟨(by (with_reducible repeat (first | refine blk_drewN ?_ _ | refine blk_drew ?_ | refine blk_alloc ?_ _)); refine blk_put (cs := #[.int .i64 1, .int .i64 t282, .int .i64 t284, .string t288, u279004, .string (⟨#[]⟩ : ByteArray), .int .i64 0, .int .i64 0, .int .i64 0, .int .i64 0, .string (⟨#[]⟩ : ByteArray), .int .i64 0, .int .i64 0]) ?_ 4 _ rfl; (with_reducible repeat (first | refine blk_drewN ?_ _ | refine blk_drew ?_ | refine blk_alloc ?_ _)); exact BK278.out)⟩, ⟨(by repeat (first | (with_reducible first | exact HI279.out | apply IsS54.alloc | apply IsS54.drewN | apply IsS54.drew | apply IsS54.set_0 | refine IsS54.far ?_ NB279_277.out _ | refine IsS54.far ?_ NB279_278.out _) | exact HI279.out))⟩, ⟨z16_0_⟩⟩
        ·rw [if_neg c29] at H
         exact absurd H (by simp)
       ·rw [if_neg c27] at H
        have c27b0 : decide (x6_1 ≤ 20) = false := decide_eq_false c27
        clear c27
        obtain ⟨⟨t295, t296⟩, A35, H⟩ := zbi H
        try dsimp only at H
        have H' := Aside0.mk H
        clear H
        go_wp2_with (first | ((with_reducible refine gate_callee (f := 26) rfl ?_); refine goesL_ (some 51) rfl rfl Tryz.func26 (by kernel_rfl) rfl #[.pointer (some ⟨gb279, 0, none⟩)] rfl z16_2_ ?_; (with_reducible refine (spec_l6rd_str.calls k1 gb279 x280000_1 t295 t296 w _ ?side1 ?side2 A35.out).mono ?_); (case side1 => exact (by repeat (first | (with_reducible first | exact HI279.out | apply IsS54.alloc | apply IsS54.drewN | apply IsS54.drew | apply IsS54.set_0 | refine IsS54.far ?_ NB279_277.out _ | refine IsS54.far ?_ NB279_278.out _) | exact HI279.out))); (case side2 => exact z16_0_); rintro e w36 ⟨rfl, hi, hb, hk⟩; refine ⟨_, rfl, ?_⟩; replace HO_279004 := Aside0.mk (Kd.R_mono (Kd.R_keep (IsS54.apart (show IsS54 w _ gb279 x280000_1 from by repeat (first | (with_reducible first | exact HI279.out | apply IsS54.alloc | apply IsS54.drewN | apply IsS54.drew | apply IsS54.set_0 | refine IsS54.far ?_ NB279_277.out _ | refine IsS54.far ?_ NB279_278.out _) | exact HI279.out)) z16_6_ (by decide)) hk (fun _ h => h.2)) (fun _ h => h.1)); replace BK277 := Aside0.mk (zkb BK277.out hk NB277_279.out); replace BK278 := Aside0.mk (zkb BK278.out hk NB278_279.out); replace HB := Aside0.mk (hb); replace HI279 := Aside0.mk (hi); clear hb hk hi; have hnb37 := NB278_277.out; have hnc37 := NB277_278.out; have hnb38 := NB278_279.out; have hnc38 := NB279_278.out; obtain ⟨q39_0, q39_1, q39_2, q39_3, q39_4, q39_5, q39_6, q39_7, q39_8, q39_9, q39_10, q39_11, q39_12⟩ := zc13 BK278.out; obtain ⟨f39_0, f39_1, f39_2, f39_3, f39_4, f39_5, f39_6, f39_7, f39_8, f39_9, f39_10, f39_11, f39_12⟩ := zf13 BK278.out))
        go_meet
        case rel => exact ⟨_, (1), (t282), (t284), (t288), (x279004_1), (t295), (0), (0), (0), (0), ((⟨#[]⟩ : ByteArray)), (0), (0), (u279004), H', ⟨(by have := HK1.out; first | omega | exact Nat.le_refl _)⟩, ⟨(by (with_reducible repeat (first | apply Kd.R_alloc | apply Kd.R_drewN | apply Kd.R_drew)); exact Kd.R_mono (Kd.R_far (p := ⟨gb278, 5, none⟩) (Kd.R_types HO_279004.out BK278.out (by decide)) (fun _ hk => hk.2) (.string t295)) (fun _ hk => trivial))⟩, ⟨z16_1_⟩, ⟨(by (with_reducible repeat (first | refine blk_drewN ?_ _ | refine blk_drew ?_ | refine blk_alloc ?_ _)); refine blk_put (cs := #[.int .i64 1, .int .i64 t282, .int .i64 t284, .string t288, u279004, .string (⟨#[]⟩ : ByteArray), .int .i64 0, .int .i64 0, .int .i64 0, .int .i64 0, .string (⟨#[]⟩ : ByteArray), .int .i64 0, .int .i64 0]) ?_ 5 _ rfl; (with_reducible repeat (first | refine blk_drewN ?_ _ | refine blk_drew ?_ | refine blk_alloc ?_ _)); exact BK278.out)⟩, ⟨z16_0_⟩⟩
      ·rw [if_neg c26] at H
       have c26b0 : decide (0 < x6_1) = false := decide_eq_false c26
       clear c26
       obtain ⟨⟨t297, t298⟩, A40, H⟩ := zbi H
       try dsimp only at H
       have H' := Aside0.mk H
       clear H
       go_wp2_with (first | ((with_reducible refine gate_callee (f := 26) rfl ?_); refine goesL_ (some 51) rfl rfl Tryz.func26 (by kernel_rfl) rfl #[.pointer (some ⟨gb279, 0, none⟩)] rfl z16_2_ ?_; (with_reducible refine (spec_l6rd_str.calls k1 gb279 x280000_1 t297 t298 w _ ?side1 ?side2 A40.out).mono ?_); (case side1 => exact (by repeat (first | (with_reducible first | exact HI279.out | apply IsS54.alloc | apply IsS54.drewN | apply IsS54.drew | apply IsS54.set_0 | refine IsS54.far ?_ NB279_277.out _ | refine IsS54.far ?_ NB279_278.out _) | exact HI279.out))); (case side2 => exact z16_0_); rintro e w41 ⟨rfl, hi, hb, hk⟩; refine ⟨_, rfl, ?_⟩; replace HO_279004 := Aside0.mk (Kd.R_mono (Kd.R_keep (IsS54.apart (show IsS54 w _ gb279 x280000_1 from by repeat (first | (with_reducible first | exact HI279.out | apply IsS54.alloc | apply IsS54.drewN | apply IsS54.drew | apply IsS54.set_0 | refine IsS54.far ?_ NB279_277.out _ | refine IsS54.far ?_ NB279_278.out _) | exact HI279.out)) z16_6_ (by decide)) hk (fun _ h => h.2)) (fun _ h => h.1)); replace BK277 := Aside0.mk (zkb BK277.out hk NB277_279.out); replace BK278 := Aside0.mk (zkb BK278.out hk NB278_279.out); replace HB := Aside0.mk (hb); replace HI279 := Aside0.mk (hi); clear hb hk hi; have hnb42 := NB278_277.out; have hnc42 := NB277_278.out; have hnb43 := NB278_279.out; have hnc43 := NB279_278.out; obtain ⟨q44_0, q44_1, q44_2, q44_3, q44_4, q44_5, q44_6, q44_7, q44_8, q44_9, q44_10, q44_11, q44_12⟩ := zc13 BK278.out; obtain ⟨f44_0, f44_1, f44_2, f44_3, f44_4, f44_5, f44_6, f44_7, f44_8, f44_9, f44_10, f44_11, f44_12⟩ := zf13 BK278.out))
       go_meet
       case rel => exact ⟨_, (1), (t282), (t284), (t288), (x279004_1), (t297), (0), (0), (0), (0), ((⟨#[]⟩ : ByteArray)), (0), (0), (u279004), H', ⟨(by have := HK1.out; first | omega | exact Nat.le_refl _)⟩, ⟨(by (with_reducible repeat (first | apply Kd.R_alloc | apply Kd.R_drewN | apply Kd.R_drew)); exact Kd.R_mono (Kd.R_far (p := ⟨gb278, 5, none⟩) (Kd.R_types HO_279004.out BK278.out (by decide)) (fun _ hk => hk.2) (.string t297)) (fun _ hk => trivial))⟩, ⟨z16_1_⟩, ⟨(by (with_reducible repeat (first | refine blk_drewN ?_ _ | refine blk_drew ?_ | refine blk_alloc ?_ _)); refine blk_put (cs := #[.int .i64 1, .int .i64 t282, .int .i64 t284, .string t288, u279004, .string (⟨#[]⟩ : ByteArray), .int .i64 0, .int .i64 0, .int .i64 0, .int .i64 0, .string (⟨#[]⟩ : ByteArray), .int .i64 0, .int .i64 0]) ?_ 5 _ rfl; (with_reducible repeat (first | refine blk_drewN ?_ _ | refine blk_drew ?_ | refine blk_alloc ?_ _)); exact BK278.out)⟩, ⟨z16_0_⟩⟩
   ·rw [if_neg c11] at H
    have c11b0 : (t280.toList == ([77] : List UInt8)) = false := beq_eq_false_iff_ne.mpr c11
    have c11b1 : (t280.toList != ([77] : List UInt8)) = true := bne_iff_ne.mpr c11
    (first | rw [c11b0] | (simp only [i64_w, i32_w]; rw [c11b0]) | rw [c11b1] | simp only [c11b2, decide_true, decide_false] | skip)
    by_cases c45 : t280.toList = ([86] : List UInt8)
    ·rw [if_pos c45] at H
     have c45b0 : (t280.toList == ([86] : List UInt8)) = true := beq_iff_eq.mpr c45
     have c45b1 : (t280.toList != ([86] : List UInt8)) = false := bne_eq_false_iff_eq.mpr c45
     clear c45
     obtain ⟨⟨t299, t300⟩, A46, H⟩ := zbi H
     try dsimp only at H
     obtain ⟨⟨t301, t302⟩, A47, H⟩ := zbi H
     try dsimp only at H
     obtain ⟨⟨t303, t304⟩, A48, H⟩ := zbi H
     try dsimp only at H
     obtain ⟨⟨t305, t306⟩, A49, H⟩ := zbi H
     try dsimp only at H
     obtain ⟨⟨t307, t308⟩, A50, H⟩ := zbi H
     try dsimp only at H
     have H' := Aside0.mk H
     clear H
     have hnb51 := NB278_277.out
     have hnc51 := NB277_278.out
     have hnb52 := NB278_279.out
     have hnc52 := NB279_278.out
     obtain ⟨q53_0, q53_1, q53_2, q53_3, q53_4, q53_5, q53_6, q53_7, q53_8, q53_9, q53_10, q53_11, q53_12⟩ := zc13 BK278.out
     obtain ⟨f53_0, f53_1, f53_2, f53_3, f53_4, f53_5, f53_6, f53_7, f53_8, f53_9, f53_10, f53_11, f53_12⟩ := zf13 BK278.out
     go_wp2_with (first | ((with_reducible refine gate_callee (f := 25) rfl ?_); refine goesL_ (some 58) rfl rfl Tryz.func25 (by kernel_rfl) rfl #[.pointer (some ⟨gb279, 0, none⟩)] rfl z16_2_ ?_; (with_reducible refine (spec_l6rd_num.calls k gb279 t281 t299 t300 w _ ?side1 ?side2 A46.out).mono ?_); (case side1 => exact (by repeat (first | (with_reducible first | exact HI279.out | apply IsS54.alloc | apply IsS54.drewN | apply IsS54.drew | apply IsS54.set_0 | refine IsS54.far ?_ NB279_277.out _ | refine IsS54.far ?_ NB279_278.out _) | exact HI279.out))); (case side2 => exact z16_0_); rintro e w54 ⟨rfl, hi, hb, hk⟩; refine ⟨_, rfl, ?_⟩; replace BK277 := Aside0.mk (KeepBut.blk hk (g' := gb277) (o := .cells #[.int .i64 0, .int .i64 0, .int .i64 0, .string (⟨#[]⟩ : ByteArray), .slice none 0 0, .string (⟨#[]⟩ : ByteArray), .int .i64 0, .int .i64 0, .int .i64 0, .int .i64 0, .string (⟨#[]⟩ : ByteArray), .int .i64 0, .int .i64 0] 28 (0, 0)) z16_1_ NB277_279.out (by simp)); replace BK278 := Aside0.mk (KeepBut.blk hk (g' := gb278) (o := .cells #[.int .i64 2, .int .i64 0, .int .i64 0, .string (⟨#[]⟩ : ByteArray), .slice none 0 0, .string (⟨#[]⟩ : ByteArray), .int .i64 0, .int .i64 0, .int .i64 0, .int .i64 0, .string (⟨#[]⟩ : ByteArray), .int .i64 0, .int .i64 0] 28 (0, 0)) (by (with_reducible repeat (first | refine blk_drewN ?_ _ | refine blk_drew ?_ | refine blk_alloc ?_ _)); refine blk_put (cs := #[.int .i64 0, .int .i64 0, .int .i64 0, .string (⟨#[]⟩ : ByteArray), .slice none 0 0, .string (⟨#[]⟩ : ByteArray), .int .i64 0, .int .i64 0, .int .i64 0, .int .i64 0, .string (⟨#[]⟩ : ByteArray), .int .i64 0, .int .i64 0]) ?_ 0 _ rfl; (with_reducible repeat (first | refine blk_drewN ?_ _ | refine blk_drew ?_ | refine blk_alloc ?_ _)); exact BK278.out) NB278_279.out (by simp)); replace HB := Aside0.mk (hb); replace HI279 := Aside0.mk (hi); clear hb hk hi; obtain ⟨q55_0, q55_1, q55_2, q55_3, q55_4, q55_5, q55_6, q55_7, q55_8, q55_9, q55_10, q55_11, q55_12⟩ := zc13 BK278.out; obtain ⟨f55_0, f55_1, f55_2, f55_3, f55_4, f55_5, f55_6, f55_7, f55_8, f55_9, f55_10, f55_11, f55_12⟩ := zf13 BK278.out) | ((with_reducible refine gate_callee (f := 25) rfl ?_); refine goesL_ (some 61) rfl rfl Tryz.func25 (by kernel_rfl) rfl #[.pointer (some ⟨gb279, 0, none⟩)] rfl z16_2_ ?_; (with_reducible refine (spec_l6rd_num.calls k gb279 t300 t301 t302 w _ ?side1 ?side2 A47.out).mono ?_); (case side1 => exact (by repeat (first | (with_reducible first | exact HI279.out | apply IsS54.alloc | apply IsS54.drewN | apply IsS54.drew | apply IsS54.set_0 | refine IsS54.far ?_ NB279_277.out _ | refine IsS54.far ?_ NB279_278.out _) | exact HI279.out))); (case side2 => exact z16_0_); rintro e w56 ⟨rfl, hi, hb, hk⟩; refine ⟨_, rfl, ?_⟩; replace BK277 := Aside0.mk (KeepBut.blk hk (g' := gb277) (o := .cells #[.int .i64 0, .int .i64 0, .int .i64 0, .string (⟨#[]⟩ : ByteArray), .slice none 0 0, .string (⟨#[]⟩ : ByteArray), .int .i64 0, .int .i64 0, .int .i64 0, .int .i64 0, .string (⟨#[]⟩ : ByteArray), .int .i64 0, .int .i64 0] 28 (0, 0)) z16_1_ NB277_279.out (by simp)); replace BK278 := Aside0.mk (KeepBut.blk hk (g' := gb278) (o := .cells #[.int .i64 2, .int .i64 0, .int .i64 0, .string (⟨#[]⟩ : ByteArray), .slice none 0 0, .string (⟨#[]⟩ : ByteArray), .int .i64 t299, .int .i64 0, .int .i64 0, .int .i64 0, .string (⟨#[]⟩ : ByteArray), .int .i64 0, .int .i64 0] 28 (0, 0)) (by (with_reducible repeat (first | refine blk_drewN ?_ _ | refine blk_drew ?_ | refine blk_alloc ?_ _)); refine blk_put (cs := #[.int .i64 2, .int .i64 0, .int .i64 0, .string (⟨#[]⟩ : ByteArray), .slice none 0 0, .string (⟨#[]⟩ : ByteArray), .int .i64 0, .int .i64 0, .int .i64 0, .int .i64 0, .string (⟨#[]⟩ : ByteArray), .int .i64 0, .int .i64 0]) ?_ 6 _ rfl; (with_reducible repeat (first | refine blk_drewN ?_ _ | refine blk_drew ?_ | refine blk_alloc ?_ _)); exact BK278.out) NB278_279.out (by simp)); replace HB := Aside0.mk (hb); replace HI279 := Aside0.mk (hi); clear hb hk hi; obtain ⟨q57_0, q57_1, q57_2, q57_3, q57_4, q57_5, q57_6, q57_7, q57_8, q57_9, q57_10, q57_11, q57_12⟩ := zc13 BK278.out; obtain ⟨f57_0, f57_1, f57_2, f57_3, f57_4, f57_5, f57_6, f57_7, f57_8, f57_9, f57_10, f57_11, f57_12⟩ := zf13 BK278.out) | ((with_reducible refine gate_callee (f := 25) rfl ?_); refine goesL_ (some 64) rfl rfl Tryz.func25 (by kernel_rfl) rfl #[.pointer (some ⟨gb279, 0, none⟩)] rfl z16_2_ ?_; (with_reducible refine (spec_l6rd_num.calls k gb279 t302 t303 t304 w _ ?side1 ?side2 A48.out).mono ?_); (case side1 => exact (by repeat (first | (with_reducible first | exact HI279.out | apply IsS54.alloc | apply IsS54.drewN | apply IsS54.drew | apply IsS54.set_0 | refine IsS54.far ?_ NB279_277.out _ | refine IsS54.far ?_ NB279_278.out _) | exact HI279.out))); (case side2 => exact z16_0_); rintro e w58 ⟨rfl, hi, hb, hk⟩; refine ⟨_, rfl, ?_⟩; replace BK277 := Aside0.mk (KeepBut.blk hk (g' := gb277) (o := .cells #[.int .i64 0, .int .i64 0, .int .i64 0, .string (⟨#[]⟩ : ByteArray), .slice none 0 0, .string (⟨#[]⟩ : ByteArray), .int .i64 0, .int .i64 0, .int .i64 0, .int .i64 0, .string (⟨#[]⟩ : ByteArray), .int .i64 0, .int .i64 0] 28 (0, 0)) z16_1_ NB277_279.out (by simp)); replace BK278 := Aside0.mk (KeepBut.blk hk (g' := gb278) (o := .cells #[.int .i64 2, .int .i64 0, .int .i64 0, .string (⟨#[]⟩ : ByteArray), .slice none 0 0, .string (⟨#[]⟩ : ByteArray), .int .i64 t299, .int .i64 t301, .int .i64 0, .int .i64 0, .string (⟨#[]⟩ : ByteArray), .int .i64 0, .int .i64 0] 28 (0, 0)) (by (with_reducible repeat (first | refine blk_drewN ?_ _ | refine blk_drew ?_ | refine blk_alloc ?_ _)); refine blk_put (cs := #[.int .i64 2, .int .i64 0, .int .i64 0, .string (⟨#[]⟩ : ByteArray), .slice none 0 0, .string (⟨#[]⟩ : ByteArray), .int .i64 t299, .int .i64 0, .int .i64 0, .int .i64 0, .string (⟨#[]⟩ : ByteArray), .int .i64 0, .int .i64 0]) ?_ 7 _ rfl; (with_reducible repeat (first | refine blk_drewN ?_ _ | refine blk_drew ?_ | refine blk_alloc ?_ _)); exact BK278.out) NB278_279.out (by simp)); replace HB := Aside0.mk (hb); replace HI279 := Aside0.mk (hi); clear hb hk hi; obtain ⟨q59_0, q59_1, q59_2, q59_3, q59_4, q59_5, q59_6, q59_7, q59_8, q59_9, q59_10, q59_11, q59_12⟩ := zc13 BK278.out; obtain ⟨f59_0, f59_1, f59_2, f59_3, f59_4, f59_5, f59_6, f59_7, f59_8, f59_9, f59_10, f59_11, f59_12⟩ := zf13 BK278.out) | ((with_reducible refine gate_callee (f := 25) rfl ?_); refine goesL_ (some 68) rfl rfl Tryz.func25 (by kernel_rfl) rfl #[.pointer (some ⟨gb279, 0, none⟩)] rfl z16_2_ ?_; (with_reducible refine (spec_l6rd_num.calls k gb279 t304 t305 t306 w _ ?side1 ?side2 A49.out).mono ?_); (case side1 => exact (by repeat (first | (with_reducible first | exact HI279.out | apply IsS54.alloc | apply IsS54.drewN | apply IsS54.drew | apply IsS54.set_0 | refine IsS54.far ?_ NB279_277.out _ | refine IsS54.far ?_ NB279_278.out _) | exact HI279.out))); (case side2 => exact z16_0_); rintro e w60 ⟨rfl, hi, hb, hk⟩; refine ⟨_, rfl, ?_⟩; replace BK277 := Aside0.mk (KeepBut.blk hk (g' := gb277) (o := .cells #[.int .i64 0, .int .i64 0, .int .i64 0, .string (⟨#[]⟩ : ByteArray), .slice none 0 0, .string (⟨#[]⟩ : ByteArray), .int .i64 0, .int .i64 0, .int .i64 0, .int .i64 0, .string (⟨#[]⟩ : ByteArray), .int .i64 0, .int .i64 0] 28 (0, 0)) z16_1_ NB277_279.out (by simp)); replace BK278 := Aside0.mk (KeepBut.blk hk (g' := gb278) (o := .cells #[.int .i64 2, .int .i64 0, .int .i64 0, .string (⟨#[]⟩ : ByteArray), .slice none 0 0, .string (⟨#[]⟩ : ByteArray), .int .i64 t299, .int .i64 t301, .int .i64 t303, .int .i64 0, .string (⟨#[]⟩ : ByteArray), .int .i64 0, .int .i64 0] 28 (0, 0)) (by (with_reducible repeat (first | refine blk_drewN ?_ _ | refine blk_drew ?_ | refine blk_alloc ?_ _)); refine blk_put (cs := #[.int .i64 2, .int .i64 0, .int .i64 0, .string (⟨#[]⟩ : ByteArray), .slice none 0 0, .string (⟨#[]⟩ : ByteArray), .int .i64 t299, .int .i64 t301, .int .i64 0, .int .i64 0, .string (⟨#[]⟩ : ByteArray), .int .i64 0, .int .i64 0]) ?_ 8 _ rfl; (with_reducible repeat (first | refine blk_drewN ?_ _ | refine blk_drew ?_ | refine blk_alloc ?_ _)); exact BK278.out) NB278_279.out (by simp)); replace HB := Aside0.mk (hb); replace HI279 := Aside0.mk (hi); clear hb hk hi; obtain ⟨q61_0, q61_1, q61_2, q61_3, q61_4, q61_5, q61_6, q61_7, q61_8, q61_9, q61_10, q61_11, q61_12⟩ := zc13 BK278.out; obtain ⟨f61_0, f61_1, f61_2, f61_3, f61_4, f61_5, f61_6, f61_7, f61_8, f61_9, f61_10, f61_11, f61_12⟩ := zf13 BK278.out) | ((with_reducible refine gate_callee (f := 26) rfl ?_); refine goesL_ (some 72) rfl rfl Tryz.func26 (by kernel_rfl) rfl #[.pointer (some ⟨gb279, 0, none⟩)] rfl z16_2_ ?_; (with_reducible refine (spec_l6rd_str.calls k gb279 t306 t307 t308 w _ ?side1 ?side2 A50.out).mono ?_); (case side1 => exact (by repeat (first | (with_reducible first | exact HI279.out | apply IsS54.alloc | apply IsS54.drewN | apply IsS54.drew | apply IsS54.set_0 | refine IsS54.far ?_ NB279_277.out _ | refine IsS54.far ?_ NB279_278.out _) | exact HI279.out))); (case side2 => exact z16_0_); rintro e w62 ⟨rfl, hi, hb, hk⟩; refine ⟨_, rfl, ?_⟩; replace BK277 := Aside0.mk (KeepBut.blk hk (g' := gb277) (o := .cells #[.int .i64 0, .int .i64 0, .int .i64 0, .string (⟨#[]⟩ : ByteArray), .slice none 0 0, .string (⟨#[]⟩ : ByteArray), .int .i64 0, .int .i64 0, .int .i64 0, .int .i64 0, .string (⟨#[]⟩ : ByteArray), .int .i64 0, .int .i64 0] 28 (0, 0)) z16_1_ NB277_279.out (by simp)); replace BK278 := Aside0.mk (KeepBut.blk hk (g' := gb278) (o := .cells #[.int .i64 2, .int .i64 0, .int .i64 0, .string (⟨#[]⟩ : ByteArray), .slice none 0 0, .string (⟨#[]⟩ : ByteArray), .int .i64 t299, .int .i64 t301, .int .i64 t303, .int .i64 t305, .string (⟨#[]⟩ : ByteArray), .int .i64 0, .int .i64 0] 28 (0, 0)) (by (with_reducible repeat (first | refine blk_drewN ?_ _ | refine blk_drew ?_ | refine blk_alloc ?_ _)); refine blk_put (cs := #[.int .i64 2, .int .i64 0, .int .i64 0, .string (⟨#[]⟩ : ByteArray), .slice none 0 0, .string (⟨#[]⟩ : ByteArray), .int .i64 t299, .int .i64 t301, .int .i64 t303, .int .i64 0, .string (⟨#[]⟩ : ByteArray), .int .i64 0, .int .i64 0]) ?_ 9 _ rfl; (with_reducible repeat (first | refine blk_drewN ?_ _ | refine blk_drew ?_ | refine blk_alloc ?_ _)); exact BK278.out) NB278_279.out (by simp)); replace HB := Aside0.mk (hb); replace HI279 := Aside0.mk (hi); clear hb hk hi; obtain ⟨q63_0, q63_1, q63_2, q63_3, q63_4, q63_5, q63_6, q63_7, q63_8, q63_9, q63_10, q63_11, q63_12⟩ := zc13 BK278.out; obtain ⟨f63_0, f63_1, f63_2, f63_3, f63_4, f63_5, f63_6, f63_7, f63_8, f63_9, f63_10, f63_11, f63_12⟩ := zf13 BK278.out))
     go_meet
     case rel => exact ⟨_, (2), (0), (0), ((⟨#[]⟩ : ByteArray)), (([] : List ByteArray)), ((⟨#[]⟩ : ByteArray)), (t299), (t301), (t303), (t305), (t307), (0), (0), (.slice none 0 0), H', ⟨(by first | omega | exact Nat.le_refl _)⟩, ⟨z16_3_⟩, ⟨z16_1_⟩, ⟨(by (with_reducible repeat (first | refine blk_drewN ?_ _ | refine blk_drew ?_ | refine blk_alloc ?_ _)); refine blk_put (cs := #[.int .i64 2, .int .i64 0, .int .i64 0, .string (⟨#[]⟩ : ByteArray), .slice none 0 0, .string (⟨#[]⟩ : ByteArray), .int .i64 t299, .int .i64 t301, .int .i64 t303, .int .i64 t305, .string (⟨#[]⟩ : ByteArray), .int .i64 0, .int .i64 0]) ?_ 10 _ rfl; (with_reducible repeat (first | refine blk_drewN ?_ _ | refine blk_drew ?_ | refine blk_alloc ?_ _)); exact BK278.out)⟩, ⟨z16_0_⟩⟩
    ·rw [if_neg c45] at H
     have c45b0 : (t280.toList == ([86] : List UInt8)) = false := beq_eq_false_iff_ne.mpr c45
     have c45b1 : (t280.toList != ([86] : List UInt8)) = true := bne_iff_ne.mpr c45
     by_cases c64 : t280.toList = ([84] : List UInt8)
     ·rw [if_pos c64] at H
      have c64b0 : (t280.toList == ([84] : List UInt8)) = true := beq_iff_eq.mpr c64
      have c64b1 : (t280.toList != ([84] : List UInt8)) = false := bne_eq_false_iff_eq.mpr c64
      clear c64
      obtain ⟨⟨t309, t310⟩, A65, H⟩ := zbi H
      try dsimp only at H
      obtain ⟨⟨t311, t312⟩, A66, H⟩ := zbi H
      try dsimp only at H
      obtain ⟨⟨t313, t314⟩, A67, H⟩ := zbi H
      try dsimp only at H
      have H' := Aside0.mk H
      clear H
      have hnb68 := NB278_277.out
      have hnc68 := NB277_278.out
      have hnb69 := NB278_279.out
      have hnc69 := NB279_278.out
      obtain ⟨q70_0, q70_1, q70_2, q70_3, q70_4, q70_5, q70_6, q70_7, q70_8, q70_9, q70_10, q70_11, q70_12⟩ := zc13 BK278.out
      obtain ⟨f70_0, f70_1, f70_2, f70_3, f70_4, f70_5, f70_6, f70_7, f70_8, f70_9, f70_10, f70_11, f70_12⟩ := zf13 BK278.out
      go_wp2_with (first | ((with_reducible refine gate_callee (f := 25) rfl ?_); refine goesL_ (some 79) rfl rfl Tryz.func25 (by kernel_rfl) rfl #[.pointer (some ⟨gb279, 0, none⟩)] rfl z16_2_ ?_; (with_reducible refine (spec_l6rd_num.calls k gb279 t281 t309 t310 w _ ?side1 ?side2 A65.out).mono ?_); (case side1 => exact (by repeat (first | (with_reducible first | exact HI279.out | apply IsS54.alloc | apply IsS54.drewN | apply IsS54.drew | apply IsS54.set_0 | refine IsS54.far ?_ NB279_277.out _ | refine IsS54.far ?_ NB279_278.out _) | exact HI279.out))); (case side2 => exact z16_0_); rintro e w71 ⟨rfl, hi, hb, hk⟩; refine ⟨_, rfl, ?_⟩; replace BK277 := Aside0.mk (KeepBut.blk hk (g' := gb277) (o := .cells #[.int .i64 0, .int .i64 0, .int .i64 0, .string (⟨#[]⟩ : ByteArray), .slice none 0 0, .string (⟨#[]⟩ : ByteArray), .int .i64 0, .int .i64 0, .int .i64 0, .int .i64 0, .string (⟨#[]⟩ : ByteArray), .int .i64 0, .int .i64 0] 28 (0, 0)) z16_1_ NB277_279.out (by simp)); replace BK278 := Aside0.mk (KeepBut.blk hk (g' := gb278) (o := .cells #[.int .i64 3, .int .i64 0, .int .i64 0, .string (⟨#[]⟩ : ByteArray), .slice none 0 0, .string (⟨#[]⟩ : ByteArray), .int .i64 0, .int .i64 0, .int .i64 0, .int .i64 0, .string (⟨#[]⟩ : ByteArray), .int .i64 0, .int .i64 0] 28 (0, 0)) (by (with_reducible repeat (first | refine blk_drewN ?_ _ | refine blk_drew ?_ | refine blk_alloc ?_ _)); refine blk_put (cs := #[.int .i64 0, .int .i64 0, .int .i64 0, .string (⟨#[]⟩ : ByteArray), .slice none 0 0, .string (⟨#[]⟩ : ByteArray), .int .i64 0, .int .i64 0, .int .i64 0, .int .i64 0, .string (⟨#[]⟩ : ByteArray), .int .i64 0, .int .i64 0]) ?_ 0 _ rfl; (with_reducible repeat (first | refine blk_drewN ?_ _ | refine blk_drew ?_ | refine blk_alloc ?_ _)); exact BK278.out) NB278_279.out (by simp)); replace HB := Aside0.mk (hb); replace HI279 := Aside0.mk (hi); clear hb hk hi; obtain ⟨q72_0, q72_1, q72_2, q72_3, q72_4, q72_5, q72_6, q72_7, q72_8, q72_9, q72_10, q72_11, q72_12⟩ := zc13 BK278.out; obtain ⟨f72_0, f72_1, f72_2, f72_3, f72_4, f72_5, f72_6, f72_7, f72_8, f72_9, f72_10, f72_11, f72_12⟩ := zf13 BK278.out) | ((with_reducible refine gate_callee (f := 25) rfl ?_); refine goesL_ (some 82) rfl rfl Tryz.func25 (by kernel_rfl) rfl #[.pointer (some ⟨gb279, 0, none⟩)] rfl z16_2_ ?_; (with_reducible refine (spec_l6rd_num.calls k gb279 t310 t311 t312 w _ ?side1 ?side2 A66.out).mono ?_); (case side1 => exact (by repeat (first | (with_reducible first | exact HI279.out | apply IsS54.alloc | apply IsS54.drewN | apply IsS54.drew | apply IsS54.set_0 | refine IsS54.far ?_ NB279_277.out _ | refine IsS54.far ?_ NB279_278.out _) | exact HI279.out))); (case side2 => exact z16_0_); rintro e w73 ⟨rfl, hi, hb, hk⟩; refine ⟨_, rfl, ?_⟩; replace BK277 := Aside0.mk (KeepBut.blk hk (g' := gb277) (o := .cells #[.int .i64 0, .int .i64 0, .int .i64 0, .string (⟨#[]⟩ : ByteArray), .slice none 0 0, .string (⟨#[]⟩ : ByteArray), .int .i64 0, .int .i64 0, .int .i64 0, .int .i64 0, .string (⟨#[]⟩ : ByteArray), .int .i64 0, .int .i64 0] 28 (0, 0)) z16_1_ NB277_279.out (by simp)); replace BK278 := Aside0.mk (KeepBut.blk hk (g' := gb278) (o := .cells #[.int .i64 3, .int .i64 0, .int .i64 0, .string (⟨#[]⟩ : ByteArray), .slice none 0 0, .string (⟨#[]⟩ : ByteArray), .int .i64 t309, .int .i64 0, .int .i64 0, .int .i64 0, .string (⟨#[]⟩ : ByteArray), .int .i64 0, .int .i64 0] 28 (0, 0)) (by (with_reducible repeat (first | refine blk_drewN ?_ _ | refine blk_drew ?_ | refine blk_alloc ?_ _)); refine blk_put (cs := #[.int .i64 3, .int .i64 0, .int .i64 0, .string (⟨#[]⟩ : ByteArray), .slice none 0 0, .string (⟨#[]⟩ : ByteArray), .int .i64 0, .int .i64 0, .int .i64 0, .int .i64 0, .string (⟨#[]⟩ : ByteArray), .int .i64 0, .int .i64 0]) ?_ 6 _ rfl; (with_reducible repeat (first | refine blk_drewN ?_ _ | refine blk_drew ?_ | refine blk_alloc ?_ _)); exact BK278.out) NB278_279.out (by simp)); replace HB := Aside0.mk (hb); replace HI279 := Aside0.mk (hi); clear hb hk hi; obtain ⟨q74_0, q74_1, q74_2, q74_3, q74_4, q74_5, q74_6, q74_7, q74_8, q74_9, q74_10, q74_11, q74_12⟩ := zc13 BK278.out; obtain ⟨f74_0, f74_1, f74_2, f74_3, f74_4, f74_5, f74_6, f74_7, f74_8, f74_9, f74_10, f74_11, f74_12⟩ := zf13 BK278.out) | ((with_reducible refine gate_callee (f := 25) rfl ?_); refine goesL_ (some 85) rfl rfl Tryz.func25 (by kernel_rfl) rfl #[.pointer (some ⟨gb279, 0, none⟩)] rfl z16_2_ ?_; (with_reducible refine (spec_l6rd_num.calls k gb279 t312 t313 t314 w _ ?side1 ?side2 A67.out).mono ?_); (case side1 => exact (by repeat (first | (with_reducible first | exact HI279.out | apply IsS54.alloc | apply IsS54.drewN | apply IsS54.drew | apply IsS54.set_0 | refine IsS54.far ?_ NB279_277.out _ | refine IsS54.far ?_ NB279_278.out _) | exact HI279.out))); (case side2 => exact z16_0_); rintro e w75 ⟨rfl, hi, hb, hk⟩; refine ⟨_, rfl, ?_⟩; replace BK277 := Aside0.mk (KeepBut.blk hk (g' := gb277) (o := .cells #[.int .i64 0, .int .i64 0, .int .i64 0, .string (⟨#[]⟩ : ByteArray), .slice none 0 0, .string (⟨#[]⟩ : ByteArray), .int .i64 0, .int .i64 0, .int .i64 0, .int .i64 0, .string (⟨#[]⟩ : ByteArray), .int .i64 0, .int .i64 0] 28 (0, 0)) z16_1_ NB277_279.out (by simp)); replace BK278 := Aside0.mk (KeepBut.blk hk (g' := gb278) (o := .cells #[.int .i64 3, .int .i64 0, .int .i64 0, .string (⟨#[]⟩ : ByteArray), .slice none 0 0, .string (⟨#[]⟩ : ByteArray), .int .i64 t309, .int .i64 0, .int .i64 0, .int .i64 0, .string (⟨#[]⟩ : ByteArray), .int .i64 t311, .int .i64 0] 28 (0, 0)) (by (with_reducible repeat (first | refine blk_drewN ?_ _ | refine blk_drew ?_ | refine blk_alloc ?_ _)); refine blk_put (cs := #[.int .i64 3, .int .i64 0, .int .i64 0, .string (⟨#[]⟩ : ByteArray), .slice none 0 0, .string (⟨#[]⟩ : ByteArray), .int .i64 t309, .int .i64 0, .int .i64 0, .int .i64 0, .string (⟨#[]⟩ : ByteArray), .int .i64 0, .int .i64 0]) ?_ 11 _ rfl; (with_reducible repeat (first | refine blk_drewN ?_ _ | refine blk_drew ?_ | refine blk_alloc ?_ _)); exact BK278.out) NB278_279.out (by simp)); replace HB := Aside0.mk (hb); replace HI279 := Aside0.mk (hi); clear hb hk hi; obtain ⟨q76_0, q76_1, q76_2, q76_3, q76_4, q76_5, q76_6, q76_7, q76_8, q76_9, q76_10, q76_11, q76_12⟩ := zc13 BK278.out; obtain ⟨f76_0, f76_1, f76_2, f76_3, f76_4, f76_5, f76_6, f76_7, f76_8, f76_9, f76_10, f76_11, f76_12⟩ := zf13 BK278.out))
      go_meet
      case rel => exact ⟨_, (3), (0), (0), ((⟨#[]⟩ : ByteArray)), (([] : List ByteArray)), ((⟨#[]⟩ : ByteArray)), (t309), (0), (0), (0), ((⟨#[]⟩ : ByteArray)), (t311), (t313), (.slice none 0 0), H', ⟨(by first | omega | exact Nat.le_refl _)⟩, ⟨z16_3_⟩, ⟨z16_1_⟩, ⟨(by (with_reducible repeat (first | refine blk_drewN ?_ _ | refine blk_drew ?_ | refine blk_alloc ?_ _)); refine blk_put (cs := #[.int .i64 3, .int .i64 0, .int .i64 0, .string (⟨#[]⟩ : ByteArray), .slice none 0 0, .string (⟨#[]⟩ : ByteArray), .int .i64 t309, .int .i64 0, .int .i64 0, .int .i64 0, .string (⟨#[]⟩ : ByteArray), .int .i64 t311, .int .i64 0]) ?_ 12 _ rfl; (with_reducible repeat (first | refine blk_drewN ?_ _ | refine blk_drew ?_ | refine blk_alloc ?_ _)); exact BK278.out)⟩, ⟨z16_0_⟩⟩
     ·rw [if_neg c64] at H
      have c64b0 : (t280.toList == ([84] : List UInt8)) = false := beq_eq_false_iff_ne.mpr c64
      have c64b1 : (t280.toList != ([84] : List UInt8)) = true := bne_iff_ne.mpr c64
      by_cases c77 : t280.toList = ([66] : List UInt8)
      ·rw [if_pos c77] at H
       have c77b0 : (t280.toList == ([66] : List UInt8)) = true := beq_iff_eq.mpr c77
       have c77b1 : (t280.toList != ([66] : List UInt8)) = false := bne_eq_false_iff_eq.mpr c77
       clear c77
       obtain ⟨⟨t315, t316⟩, A78, H⟩ := zbi H
       try dsimp only at H
       have H' := Aside0.mk H
       clear H
       have hnb79 := NB278_277.out
       have hnc79 := NB277_278.out
       have hnb80 := NB278_279.out
       have hnc80 := NB279_278.out
       obtain ⟨q81_0, q81_1, q81_2, q81_3, q81_4, q81_5, q81_6, q81_7, q81_8, q81_9, q81_10, q81_11, q81_12⟩ := zc13 BK278.out
       obtain ⟨f81_0, f81_1, f81_2, f81_3, f81_4, f81_5, f81_6, f81_7, f81_8, f81_9, f81_10, f81_11, f81_12⟩ := zf13 BK278.out
       go_wp2_with (first | ((with_reducible refine gate_callee (f := 25) rfl ?_); refine goesL_ (some 91) rfl rfl Tryz.func25 (by kernel_rfl) rfl #[.pointer (some ⟨gb279, 0, none⟩)] rfl z16_2_ ?_; (with_reducible refine (spec_l6rd_num.calls k gb279 t281 t315 t316 w _ ?side1 ?side2 A78.out).mono ?_); (case side1 => exact (by repeat (first | (with_reducible first | exact HI279.out | apply IsS54.alloc | apply IsS54.drewN | apply IsS54.drew | apply IsS54.set_0 | refine IsS54.far ?_ NB279_277.out _ | refine IsS54.far ?_ NB279_278.out _) | exact HI279.out))); (case side2 => exact z16_0_); rintro e w82 ⟨rfl, hi, hb, hk⟩; refine ⟨_, rfl, ?_⟩; replace BK277 := Aside0.mk (KeepBut.blk hk (g' := gb277) (o := .cells #[.int .i64 0, .int .i64 0, .int .i64 0, .string (⟨#[]⟩ : ByteArray), .slice none 0 0, .string (⟨#[]⟩ : ByteArray), .int .i64 0, .int .i64 0, .int .i64 0, .int .i64 0, .string (⟨#[]⟩ : ByteArray), .int .i64 0, .int .i64 0] 28 (0, 0)) z16_1_ NB277_279.out (by simp)); replace BK278 := Aside0.mk (KeepBut.blk hk (g' := gb278) (o := .cells #[.int .i64 4, .int .i64 0, .int .i64 0, .string (⟨#[]⟩ : ByteArray), .slice none 0 0, .string (⟨#[]⟩ : ByteArray), .int .i64 0, .int .i64 0, .int .i64 0, .int .i64 0, .string (⟨#[]⟩ : ByteArray), .int .i64 0, .int .i64 0] 28 (0, 0)) (by (with_reducible repeat (first | refine blk_drewN ?_ _ | refine blk_drew ?_ | refine blk_alloc ?_ _)); refine blk_put (cs := #[.int .i64 0, .int .i64 0, .int .i64 0, .string (⟨#[]⟩ : ByteArray), .slice none 0 0, .string (⟨#[]⟩ : ByteArray), .int .i64 0, .int .i64 0, .int .i64 0, .int .i64 0, .string (⟨#[]⟩ : ByteArray), .int .i64 0, .int .i64 0]) ?_ 0 _ rfl; (with_reducible repeat (first | refine blk_drewN ?_ _ | refine blk_drew ?_ | refine blk_alloc ?_ _)); exact BK278.out) NB278_279.out (by simp)); replace HB := Aside0.mk (hb); replace HI279 := Aside0.mk (hi); clear hb hk hi; obtain ⟨q83_0, q83_1, q83_2, q83_3, q83_4, q83_5, q83_6, q83_7, q83_8, q83_9, q83_10, q83_11, q83_12⟩ := zc13 BK278.out; obtain ⟨f83_0, f83_1, f83_2, f83_3, f83_4, f83_5, f83_6, f83_7, f83_8, f83_9, f83_10, f83_11, f83_12⟩ := zf13 BK278.out))
       go_meet
       case rel => exact ⟨_, (4), (0), (0), ((⟨#[]⟩ : ByteArray)), (([] : List ByteArray)), ((⟨#[]⟩ : ByteArray)), (t315), (0), (0), (0), ((⟨#[]⟩ : ByteArray)), (0), (0), (.slice none 0 0), H', ⟨(by first | omega | exact Nat.le_refl _)⟩, ⟨z16_3_⟩, ⟨z16_1_⟩, ⟨(by (with_reducible repeat (first | refine blk_drewN ?_ _ | refine blk_drew ?_ | refine blk_alloc ?_ _)); refine blk_put (cs := #[.int .i64 4, .int .i64 0, .int .i64 0, .string (⟨#[]⟩ : ByteArray), .slice none 0 0, .string (⟨#[]⟩ : ByteArray), .int .i64 0, .int .i64 0, .int .i64 0, .int .i64 0, .string (⟨#[]⟩ : ByteArray), .int .i64 0, .int .i64 0]) ?_ 6 _ rfl; (with_reducible repeat (first | refine blk_drewN ?_ _ | refine blk_drew ?_ | refine blk_alloc ?_ _)); exact BK278.out)⟩, ⟨z16_0_⟩⟩
      ·rw [if_neg c77] at H
       have c77b0 : (t280.toList == ([66] : List UInt8)) = false := beq_eq_false_iff_ne.mpr c77
       have c77b1 : (t280.toList != ([66] : List UInt8)) = true := bne_iff_ne.mpr c77
       by_cases c84 : t280.toList = ([68] : List UInt8)
       ·rw [if_pos c84] at H
        have c84b0 : (t280.toList == ([68] : List UInt8)) = true := beq_iff_eq.mpr c84
        have c84b1 : (t280.toList != ([68] : List UInt8)) = false := bne_eq_false_iff_eq.mpr c84
        clear c84
        obtain ⟨⟨t317, t318⟩, A85, H⟩ := zbi H
        try dsimp only at H
        have H' := Aside0.mk H
        clear H
        have hnb86 := NB278_277.out
        have hnc86 := NB277_278.out
        have hnb87 := NB278_279.out
        have hnc87 := NB279_278.out
        obtain ⟨q88_0, q88_1, q88_2, q88_3, q88_4, q88_5, q88_6, q88_7, q88_8, q88_9, q88_10, q88_11, q88_12⟩ := zc13 BK278.out
        obtain ⟨f88_0, f88_1, f88_2, f88_3, f88_4, f88_5, f88_6, f88_7, f88_8, f88_9, f88_10, f88_11, f88_12⟩ := zf13 BK278.out
        go_wp2_with (first | ((with_reducible refine gate_callee (f := 25) rfl ?_); refine goesL_ (some 97) rfl rfl Tryz.func25 (by kernel_rfl) rfl #[.pointer (some ⟨gb279, 0, none⟩)] rfl z16_2_ ?_; (with_reducible refine (spec_l6rd_num.calls k gb279 t281 t317 t318 w _ ?side1 ?side2 A85.out).mono ?_); (case side1 => exact (by repeat (first | (with_reducible first | exact HI279.out | apply IsS54.alloc | apply IsS54.drewN | apply IsS54.drew | apply IsS54.set_0 | refine IsS54.far ?_ NB279_277.out _ | refine IsS54.far ?_ NB279_278.out _) | exact HI279.out))); (case side2 => exact z16_0_); rintro e w89 ⟨rfl, hi, hb, hk⟩; refine ⟨_, rfl, ?_⟩; replace BK277 := Aside0.mk (KeepBut.blk hk (g' := gb277) (o := .cells #[.int .i64 0, .int .i64 0, .int .i64 0, .string (⟨#[]⟩ : ByteArray), .slice none 0 0, .string (⟨#[]⟩ : ByteArray), .int .i64 0, .int .i64 0, .int .i64 0, .int .i64 0, .string (⟨#[]⟩ : ByteArray), .int .i64 0, .int .i64 0] 28 (0, 0)) z16_1_ NB277_279.out (by simp)); replace BK278 := Aside0.mk (KeepBut.blk hk (g' := gb278) (o := .cells #[.int .i64 5, .int .i64 0, .int .i64 0, .string (⟨#[]⟩ : ByteArray), .slice none 0 0, .string (⟨#[]⟩ : ByteArray), .int .i64 0, .int .i64 0, .int .i64 0, .int .i64 0, .string (⟨#[]⟩ : ByteArray), .int .i64 0, .int .i64 0] 28 (0, 0)) (by (with_reducible repeat (first | refine blk_drewN ?_ _ | refine blk_drew ?_ | refine blk_alloc ?_ _)); refine blk_put (cs := #[.int .i64 0, .int .i64 0, .int .i64 0, .string (⟨#[]⟩ : ByteArray), .slice none 0 0, .string (⟨#[]⟩ : ByteArray), .int .i64 0, .int .i64 0, .int .i64 0, .int .i64 0, .string (⟨#[]⟩ : ByteArray), .int .i64 0, .int .i64 0]) ?_ 0 _ rfl; (with_reducible repeat (first | refine blk_drewN ?_ _ | refine blk_drew ?_ | refine blk_alloc ?_ _)); exact BK278.out) NB278_279.out (by simp)); replace HB := Aside0.mk (hb); replace HI279 := Aside0.mk (hi); clear hb hk hi; obtain ⟨q90_0, q90_1, q90_2, q90_3, q90_4, q90_5, q90_6, q90_7, q90_8, q90_9, q90_10, q90_11, q90_12⟩ := zc13 BK278.out; obtain ⟨f90_0, f90_1, f90_2, f90_3, f90_4, f90_5, f90_6, f90_7, f90_8, f90_9, f90_10, f90_11, f90_12⟩ := zf13 BK278.out))
        go_meet
        case rel => exact ⟨_, (5), (0), (0), ((⟨#[]⟩ : ByteArray)), (([] : List ByteArray)), ((⟨#[]⟩ : ByteArray)), (t317), (0), (0), (0), ((⟨#[]⟩ : ByteArray)), (0), (0), (.slice none 0 0), H', ⟨(by first | omega | exact Nat.le_refl _)⟩, ⟨z16_3_⟩, ⟨z16_1_⟩, ⟨(by (with_reducible repeat (first | refine blk_drewN ?_ _ | refine blk_drew ?_ | refine blk_alloc ?_ _)); refine blk_put (cs := #[.int .i64 5, .int .i64 0, .int .i64 0, .string (⟨#[]⟩ : ByteArray), .slice none 0 0, .string (⟨#[]⟩ : ByteArray), .int .i64 0, .int .i64 0, .int .i64 0, .int .i64 0, .string (⟨#[]⟩ : ByteArray), .int .i64 0, .int .i64 0]) ?_ 6 _ rfl; (with_reducible repeat (first | refine blk_drewN ?_ _ | refine blk_drew ?_ | refine blk_alloc ?_ _)); exact BK278.out)⟩, ⟨z16_0_⟩⟩
       ·rw [if_neg c84] at H
        have c84b0 : (t280.toList == ([68] : List UInt8)) = false := beq_eq_false_iff_ne.mpr c84
        have c84b1 : (t280.toList != ([68] : List UInt8)) = true := bne_iff_ne.mpr c84
        by_cases c91 : t280.toList = ([78] : List UInt8)
        ·rw [if_pos c91] at H
         have c91b0 : (t280.toList == ([78] : List UInt8)) = true := beq_iff_eq.mpr c91
         have c91b1 : (t280.toList != ([78] : List UInt8)) = false := bne_eq_false_iff_eq.mpr c91
         clear c91
         obtain ⟨⟨t319, t320⟩, A92, H⟩ := zbi H
         try dsimp only at H
         have H' := Aside0.mk H
         clear H
         have hnb93 := NB278_277.out
         have hnc93 := NB277_278.out
         have hnb94 := NB278_279.out
         have hnc94 := NB279_278.out
         obtain ⟨q95_0, q95_1, q95_2, q95_3, q95_4, q95_5, q95_6, q95_7, q95_8, q95_9, q95_10, q95_11, q95_12⟩ := zc13 BK278.out
         obtain ⟨f95_0, f95_1, f95_2, f95_3, f95_4, f95_5, f95_6, f95_7, f95_8, f95_9, f95_10, f95_11, f95_12⟩ := zf13 BK278.out
         go_wp2_with (first | ((with_reducible refine gate_callee (f := 25) rfl ?_); refine goesL_ (some 103) rfl rfl Tryz.func25 (by kernel_rfl) rfl #[.pointer (some ⟨gb279, 0, none⟩)] rfl z16_2_ ?_; (with_reducible refine (spec_l6rd_num.calls k gb279 t281 t319 t320 w _ ?side1 ?side2 A92.out).mono ?_); (case side1 => exact (by repeat (first | (with_reducible first | exact HI279.out | apply IsS54.alloc | apply IsS54.drewN | apply IsS54.drew | apply IsS54.set_0 | refine IsS54.far ?_ NB279_277.out _ | refine IsS54.far ?_ NB279_278.out _) | exact HI279.out))); (case side2 => exact z16_0_); rintro e w96 ⟨rfl, hi, hb, hk⟩; refine ⟨_, rfl, ?_⟩; replace BK277 := Aside0.mk (KeepBut.blk hk (g' := gb277) (o := .cells #[.int .i64 0, .int .i64 0, .int .i64 0, .string (⟨#[]⟩ : ByteArray), .slice none 0 0, .string (⟨#[]⟩ : ByteArray), .int .i64 0, .int .i64 0, .int .i64 0, .int .i64 0, .string (⟨#[]⟩ : ByteArray), .int .i64 0, .int .i64 0] 28 (0, 0)) z16_1_ NB277_279.out (by simp)); replace BK278 := Aside0.mk (KeepBut.blk hk (g' := gb278) (o := .cells #[.int .i64 6, .int .i64 0, .int .i64 0, .string (⟨#[]⟩ : ByteArray), .slice none 0 0, .string (⟨#[]⟩ : ByteArray), .int .i64 0, .int .i64 0, .int .i64 0, .int .i64 0, .string (⟨#[]⟩ : ByteArray), .int .i64 0, .int .i64 0] 28 (0, 0)) (by (with_reducible repeat (first | refine blk_drewN ?_ _ | refine blk_drew ?_ | refine blk_alloc ?_ _)); refine blk_put (cs := #[.int .i64 0, .int .i64 0, .int .i64 0, .string (⟨#[]⟩ : ByteArray), .slice none 0 0, .string (⟨#[]⟩ : ByteArray), .int .i64 0, .int .i64 0, .int .i64 0, .int .i64 0, .string (⟨#[]⟩ : ByteArray), .int .i64 0, .int .i64 0]) ?_ 0 _ rfl; (with_reducible repeat (first | refine blk_drewN ?_ _ | refine blk_drew ?_ | refine blk_alloc ?_ _)); exact BK278.out) NB278_279.out (by simp)); replace HB := Aside0.mk (hb); replace HI279 := Aside0.mk (hi); clear hb hk hi; obtain ⟨q97_0, q97_1, q97_2, q97_3, q97_4, q97_5, q97_6, q97_7, q97_8, q97_9, q97_10, q97_11, q97_12⟩ := zc13 BK278.out; obtain ⟨f97_0, f97_1, f97_2, f97_3, f97_4, f97_5, f97_6, f97_7, f97_8, f97_9, f97_10, f97_11, f97_12⟩ := zf13 BK278.out))
         go_meet
         case rel => exact ⟨_, (6), (0), (0), ((⟨#[]⟩ : ByteArray)), (([] : List ByteArray)), ((⟨#[]⟩ : ByteArray)), (t319), (0), (0), (0), ((⟨#[]⟩ : ByteArray)), (0), (0), (.slice none 0 0), H', ⟨(by first | omega | exact Nat.le_refl _)⟩, ⟨z16_3_⟩, ⟨z16_1_⟩, ⟨(by (with_reducible repeat (first | refine blk_drewN ?_ _ | refine blk_drew ?_ | refine blk_alloc ?_ _)); refine blk_put (cs := #[.int .i64 6, .int .i64 0, .int .i64 0, .string (⟨#[]⟩ : ByteArray), .slice none 0 0, .string (⟨#[]⟩ : ByteArray), .int .i64 0, .int .i64 0, .int .i64 0, .int .i64 0, .string (⟨#[]⟩ : ByteArray), .int .i64 0, .int .i64 0]) ?_ 6 _ rfl; (with_reducible repeat (first | refine blk_drewN ?_ _ | refine blk_drew ?_ | refine blk_alloc ?_ _)); exact BK278.out)⟩, ⟨z16_0_⟩⟩
        ·rw [if_neg c91] at H
         have c91b0 : (t280.toList == ([78] : List UInt8)) = false := beq_eq_false_iff_ne.mpr c91
         have c91b1 : (t280.toList != ([78] : List UInt8)) = true := bne_iff_ne.mpr c91
         have H' := Aside0.mk H
         clear H
         go_wp2
         go_meet
         case rel => exact ⟨_, (0), (0), (0), ((⟨#[]⟩ : ByteArray)), (([] : List ByteArray)), ((⟨#[]⟩ : ByteArray)), (0), (0), (0), (0), ((⟨#[]⟩ : ByteArray)), (0), (0), (.slice none 0 0), H', ⟨(by first | omega | exact Nat.le_refl _)⟩, ⟨z16_3_⟩, ⟨(by (with_reducible repeat (first | refine blk_drewN ?_ _ | refine blk_drew ?_ | refine blk_alloc ?_ _)); exact BK277.out)⟩, ⟨(by (with_reducible repeat (first | refine blk_drewN ?_ _ | refine blk_drew ?_ | refine blk_alloc ?_ _)); exact BK278.out)⟩, ⟨z16_0_⟩⟩
  case rest =>
   clear HC7
   try clear c1
   try clear c2
   try clear p2
   try clear c3
   try clear c4
   try clear c5
   try clear c6
   try clear p6
   try clear c7
   try clear c8
   try clear c9
   try clear c11
   try clear c11b0
   try clear c11b1
   try clear c25
   try clear c26
   try clear c26b0
   try clear c27
   try clear c27b0
   try clear c29
   try clear c37
   try clear c38
   try clear c42
   try clear c43
   try clear c45
   try clear c45b0
   try clear c45b1
   try clear c51
   try clear c52
   try clear c64
   try clear c64b0
   try clear c64b1
   try clear p64
   try clear c68
   try clear c69
   try clear c77
   try clear c77b0
   try clear c77b1
   try clear c79
   try clear c80
   try clear c84
   try clear c84b0
   try clear c84b1
   try clear c86
   try clear c87
   try clear c91
   try clear c91b0
   try clear c91b1
   try clear c93
   try clear c94
   try clear q22_7 q22_8 q22_9
   try clear q25_0 q25_1 q25_10 q25_11 q25_12 q25_2 q25_3 q25_4 q25_5 q25_6 q25_7 q25_8 q25_9
   try clear q39_0 q39_1 q39_10 q39_11 q39_12 q39_2 q39_3 q39_4 q39_5 q39_6 q39_7 q39_8 q39_9
   try clear q44_0 q44_1 q44_10 q44_11 q44_12 q44_2 q44_3 q44_4 q44_5 q44_6 q44_7 q44_8 q44_9
   try clear q53_0 q53_1 q53_10 q53_11 q53_12 q53_2 q53_3 q53_4 q53_5 q53_6 q53_7 q53_8 q53_9
   try clear q55_0 q55_1 q55_10 q55_11 q55_12 q55_2 q55_3 q55_4 q55_5 q55_6 q55_7 q55_8 q55_9
   try clear q57_0 q57_1 q57_10 q57_11 q57_12 q57_2 q57_3 q57_4 q57_5 q57_6 q57_7 q57_8 q57_9
   try clear q59_0 q59_1 q59_10 q59_11 q59_12 q59_2 q59_3 q59_4 q59_5 q59_6 q59_7 q59_8 q59_9
   try clear q5_0 q5_1 q5_10 q5_11 q5_12 q5_2 q5_3 q5_4 q5_5 q5_6 q5_7 q5_8 q5_9
   try clear q61_0 q61_1 q61_10 q61_11 q61_12 q61_2 q61_3 q61_4 q61_5 q61_6 q61_7 q61_8 q61_9
   try clear q63_0 q63_1 q63_10 q63_11 q63_12 q63_2 q63_3 q63_4 q63_5 q63_6 q63_7 q63_8 q63_9
   try clear q70_0 q70_1 q70_10 q70_11 q70_12 q70_2 q70_3 q70_4 q70_5 q70_6 q70_7 q70_8 q70_9
   try clear q72_0 q72_1 q72_10 q72_11 q72_12 q72_2 q72_3 q72_4 q72_5 q72_6 q72_7 q72_8 q72_9
   try clear q74_0 q74_1 q74_10 q74_11 q74_12 q74_2 q74_3 q74_4 q74_5 q74_6 q74_7 q74_8 q74_9
   try clear q76_0 q76_1 q76_10 q76_11 q76_12 q76_2 q76_3 q76_4 q76_5 q76_6 q76_7 q76_8 q76_9
   try clear q81_0 q81_1 q81_10 q81_11 q81_12 q81_2 q81_3 q81_4 q81_5 q81_6 q81_7 q81_8 q81_9
   try clear q83_0 q83_1 q83_10 q83_11 q83_12 q83_2 q83_3 q83_4 q83_5 q83_6 q83_7 q83_8 q83_9
   try clear q88_0 q88_1 q88_10 q88_11 q88_12 q88_2 q88_3 q88_4 q88_5 q88_6 q88_7 q88_8 q88_9
   try clear q90_0 q90_1 q90_10 q90_11 q90_12 q90_2 q90_3 q90_4 q90_5 q90_6 q90_7 q90_8 q90_9
   try clear q95_0 q95_1 q95_10 q95_11 q95_12 q95_2 q95_3 q95_4 q95_5 q95_6 q95_7 q95_8 q95_9
   try clear q97_0 q97_1 q97_10 q97_11 q97_12 q97_2 q97_3 q97_4 q97_5 q97_6 q97_7 q97_8 q97_9
   try clear f18_0 f18_1 f18_10 f18_11 f18_12 f18_2 f18_3 f18_4 f18_5 f18_6 f18_7 f18_8 f18_9
   try clear f20_0 f20_1 f20_10 f20_11 f20_12 f20_2 f20_3 f20_4 f20_5 f20_6 f20_7 f20_8 f20_9
   try clear f22_0 f22_1 f22_10 f22_11 f22_12 f22_2 f22_3 f22_4 f22_5 f22_6 f22_7 f22_8 f22_9
   try clear f25_0 f25_1 f25_10 f25_11 f25_12 f25_2 f25_3 f25_4 f25_5 f25_6 f25_7 f25_8 f25_9
   try clear f39_0 f39_1 f39_10 f39_11 f39_12 f39_2 f39_3 f39_4 f39_5 f39_6 f39_7 f39_8 f39_9
   try clear f44_0 f44_1 f44_10 f44_11 f44_12 f44_2 f44_3 f44_4 f44_5 f44_6 f44_7 f44_8 f44_9
   try clear f53_0 f53_1 f53_10 f53_11 f53_12 f53_2 f53_3 f53_4 f53_5 f53_6 f53_7 f53_8 f53_9
   try clear f55_0 f55_1 f55_10 f55_11 f55_12 f55_2 f55_3 f55_4 f55_5 f55_6 f55_7 f55_8 f55_9
   try clear f57_0 f57_1 f57_10 f57_11 f57_12 f57_2 f57_3 f57_4 f57_5 f57_6 f57_7 f57_8 f57_9
   try clear f59_0 f59_1 f59_10 f59_11 f59_12 f59_2 f59_3 f59_4 f59_5 f59_6 f59_7 f59_8 f59_9
   try clear f5_0 f5_1 f5_10 f5_11 f5_12 f5_2 f5_3 f5_4 f5_5 f5_6 f5_7 f5_8 f5_9
   try clear f61_0 f61_1 f61_10 f61_11 f61_12 f61_2 f61_3 f61_4 f61_5 f61_6 f61_7 f61_8 f61_9
   try clear f63_0 f63_1 f63_10 f63_11 f63_12 f63_2 f63_3 f63_4 f63_5 f63_6 f63_7 f63_8 f63_9
   try clear f70_0 f70_1 f70_10 f70_11 f70_12 f70_2 f70_3 f70_4 f70_5 f70_6 f70_7 f70_8 f70_9
   try clear f72_0 f72_1 f72_10 f72_11 f72_12 f72_2 f72_3 f72_4 f72_5 f72_6 f72_7 f72_8 f72_9
   try clear f74_0 f74_1 f74_10 f74_11 f74_12 f74_2 f74_3 f74_4 f74_5 f74_6 f74_7 f74_8 f74_9
   try clear f76_0 f76_1 f76_10 f76_11 f76_12 f76_2 f76_3 f76_4 f76_5 f76_6 f76_7 f76_8 f76_9
   try clear f81_0 f81_1 f81_10 f81_11 f81_12 f81_2 f81_3 f81_4 f81_5 f81_6 f81_7 f81_8 f81_9
   try clear f83_0 f83_1 f83_10 f83_11 f83_12 f83_2 f83_3 f83_4 f83_5 f83_6 f83_7 f83_8 f83_9
   try clear f88_0 f88_1 f88_10 f88_11 f88_12 f88_2 f88_3 f88_4 f88_5 f88_6 f88_7 f88_8 f88_9
   try clear f90_0 f90_1 f90_10 f90_11 f90_12 f90_2 f90_3 f90_4 f90_5 f90_6 f90_7 f90_8 f90_9
   try clear f95_0 f95_1 f95_10 f95_11 f95_12 f95_2 f95_3 f95_4 f95_5 f95_6 f95_7 f95_8 f95_9
   try clear f97_0 f97_1 f97_10 f97_11 f97_12 f97_2 f97_3 f97_4 f97_5 f97_6 f97_7 f97_8 f97_9
   obtain ⟨kq, x279000_6, x279001_6, x279002_6, x279003_6, x279004_6, x279005_6, x279006_6, x279007_6, x279008_6, x279009_6, x279010_6, x279011_6, x279012_6, u279004, HA, HJ6, HO_279004, BK277, BK278, HB⟩ := hcut
   cases kq with
   | zero => exact absurd HA.out (by simp [spec_UnpackRecord.j1])
   | succ kj6 =>
    have H := HA.out
    clear HA
    simp only [spec_UnpackRecord.j1] at H
    by_cases c98 : a0.toList = ([] : List UInt8)
    ·rw [if_pos c98] at H
     have c98b0 : (a0.toList == ([] : List UInt8)) = true := beq_iff_eq.mpr c98
     have c98b7 : a0.toList.isEmpty = true := by rw [c98]; rfl
     have c98b1 : (a0.toList != ([] : List UInt8)) = false := bne_eq_false_iff_eq.mpr c98
     clear c98
     simp only [Option.some.injEq, Prod.mk.injEq] at H
     obtain ⟨rfl, rfl, rfl, rfl, rfl, rfl, rfl, rfl, rfl, rfl, rfl, rfl, rfl, rfl⟩ := H
     have hnb99 := NB277_278.out
     have hnc99 := NB278_277.out
     obtain ⟨q100_0, q100_1, q100_2, q100_3, q100_4, q100_5, q100_6, q100_7, q100_8, q100_9, q100_10, q100_11, q100_12⟩ := zc13 BK277.out
     obtain ⟨f100_0, f100_1, f100_2, f100_3, f100_4, f100_5, f100_6, f100_7, f100_8, f100_9, f100_10, f100_11, f100_12⟩ := zf13 BK277.out
     (first | (go_wp21; show bodyPost _ _ _ _ _ _) | go_wp2)
     refine bodyPost_ret (results_ct rfl _ _ gb277 28 #[.int .i64 0, .int .i64 0, .int .i64 0, .string (⟨#[]⟩ : ByteArray), .slice none 0 0, .string (⟨#[]⟩ : ByteArray), .int .i64 0, .int .i64 0, .int .i64 0, .int .i64 0, .string (⟨#[]⟩ : ByteArray), .int .i64 0, .int .i64 0] (0, 0) _ rfl z16_5_ Tryz.underlying28 rfl (by kernel_rfl)) rfl ?_
     exact ⟨_, (by first | rfl | (simp [errW_none, errW_some] <;> rfl) | (simp [*, errW_none, errW_some] <;> rfl)), z16_3_, z16_4_⟩
    ·rw [if_neg c98] at H
     have c98b0 : (a0.toList == ([] : List UInt8)) = false := beq_eq_false_iff_ne.mpr c98
     have c98b7 : a0.toList.isEmpty = false := by simpa using c98
     have c98b1 : (a0.toList != ([] : List UInt8)) = true := bne_iff_ne.mpr c98
     obtain ⟨t321, A101, H⟩ := zbi H
     have HS102 := Aside0.mk H
     clear H
     have hnb103 := NB278_277.out
     have hnc103 := NB277_278.out
     obtain ⟨q104_0, q104_1, q104_2, q104_3, q104_4, q104_5, q104_6, q104_7, q104_8, q104_9, q104_10, q104_11, q104_12⟩ := zc13 BK278.out
     obtain ⟨f104_0, f104_1, f104_2, f104_3, f104_4, f104_5, f104_6, f104_7, f104_8, f104_9, f104_10, f104_11, f104_12⟩ := zf13 BK278.out
     obtain ⟨Ao105, co105, eo105⟩ := Kd.R_slice HO_279004.out
     subst eo105
     go_upto_if 112 with (first | (go_at_call 27; (with_reducible refine (spec_PackRecord.calls kj6 x279000_6 x279001_6 x279002_6 x279003_6 _ _ x279004_6 x279005_6 x279006_6 x279007_6 x279008_6 x279009_6 x279010_6 x279011_6 x279012_6 t321 _ ?side1 ?side2 A101.out).mono ?_); (case side1 => exact (by repeat (first | exact (Kd.R_reads' HO_279004.out).2.2 | (with_reducible refine Kd.C_alloc ?_ _) | (with_reducible refine Kd.C_drewN ?_ _) | (with_reducible refine Kd.C_drew ?_)))); (case side2 => exact (Kd.R_reads' HO_279004.out).2.1); rintro e w106 ⟨rfl, hb⟩; replace HO_279004 := Aside0.mk (Kd.R_below z16_6_ hb); replace BK277 := Aside0.mk (zbb BK277.out hb); replace BK278 := Aside0.mk (zbb BK278.out hb); replace HB := Aside0.mk (below_step z16_4_ hb); clear hb))
     (try simp only [Act.put, List.setIfInBounds_toArray, List.set_cons_zero, List.set_cons_succ])
     have H := HS102.out
     clear HS102
     by_cases c107 : t321.toList = a0.toList
     ·rw [if_pos c107] at H
      have c107b0 : (t321.toList == a0.toList) = true := beq_iff_eq.mpr c107
      have c107b1 : (t321.toList != a0.toList) = false := bne_eq_false_iff_eq.mpr c107
      clear c107
      (first | rw [c107b0] | (simp only [i64_w, i32_w]; rw [c107b0]) | rw [c107b1] | simp only [c107b2, decide_true, decide_false] | skip)
      simp only [Option.some.injEq, Prod.mk.injEq] at H
      obtain ⟨rfl, rfl, rfl, rfl, rfl, rfl, rfl, rfl, rfl, rfl, rfl, rfl, rfl, rfl⟩ := H
      have hnb108 := NB278_277.out
      have hnc108 := NB277_278.out
      obtain ⟨q109_0, q109_1, q109_2, q109_3, q109_4, q109_5, q109_6, q109_7, q109_8, q109_9, q109_10, q109_11, q109_12⟩ := zc13 BK278.out
      obtain ⟨f109_0, f109_1, f109_2, f109_3, f109_4, f109_5, f109_6, f109_7, f109_8, f109_9, f109_10, f109_11, f109_12⟩ := zf13 BK278.out
      obtain ⟨q110_0, q110_1, q110_2, q110_3, q110_4, q110_5, q110_6, q110_7, q110_8, q110_9, q110_10, q110_11, q110_12⟩ := zc13 BK277.out
      obtain ⟨f110_0, f110_1, f110_2, f110_3, f110_4, f110_5, f110_6, f110_7, f110_8, f110_9, f110_10, f110_11, f110_12⟩ := zf13 BK277.out
      (first | (go_wp21; show bodyPost _ _ _ _ _ _) | go_wp2)
      refine bodyPost_ret (results_ct rfl _ _ gb277 28 #[.int .i64 x279000_6, .int .i64 x279001_6, .int .i64 x279002_6, .string x279003_6, .slice Ao105 x279004_6.length co105, .string x279005_6, .int .i64 x279006_6, .int .i64 x279007_6, .int .i64 x279008_6, .int .i64 x279009_6, .string x279010_6, .int .i64 x279011_6, .int .i64 x279012_6] (0, 0) _ rfl z16_5_ Tryz.underlying28 rfl (by kernel_rfl)) rfl ?_
      exact ⟨_, (by first | rfl | (simp [errW_none, errW_some] <;> rfl) | (simp [*, errW_none, errW_some] <;> rfl)), (by (with_reducible repeat (first | apply Kd.R_alloc | apply Kd.R_drewN | apply Kd.R_drew)); exact Kd.R_mono (Kd.R_far (p := ⟨gb277, 12, none⟩) (Kd.R_far (p := ⟨gb277, 11, none⟩) (Kd.R_far (p := ⟨gb277, 10, none⟩) (Kd.R_far (p := ⟨gb277, 9, none⟩) (Kd.R_far (p := ⟨gb277, 8, none⟩) (Kd.R_far (p := ⟨gb277, 7, none⟩) (Kd.R_far (p := ⟨gb277, 6, none⟩) (Kd.R_far (p := ⟨gb277, 5, none⟩) (Kd.R_far (p := ⟨gb277, 4, none⟩) (Kd.R_far (p := ⟨gb277, 3, none⟩) (Kd.R_far (p := ⟨gb277, 2, none⟩) (Kd.R_far (p := ⟨gb277, 1, none⟩) (Kd.R_far (p := ⟨gb277, 0, none⟩) (Kd.R_types HO_279004.out BK277.out (by decide)) (fun _ hk => hk.2) (.int .i64 x279000_6)) (fun _ hk => hk.2) (.int .i64 x279001_6)) (fun _ hk => hk.2) (.int .i64 x279002_6)) (fun _ hk => hk.2) (.string x279003_6)) (fun _ hk => hk.2) (.slice Ao105 x279004_6.length co105)) (fun _ hk => hk.2) (.string x279005_6)) (fun _ hk => hk.2) (.int .i64 x279006_6)) (fun _ hk => hk.2) (.int .i64 x279007_6)) (fun _ hk => hk.2) (.int .i64 x279008_6)) (fun _ hk => hk.2) (.int .i64 x279009_6)) (fun _ hk => hk.2) (.string x279010_6)) (fun _ hk => hk.2) (.int .i64 x279011_6)) (fun _ hk => hk.2) (.int .i64 x279012_6)) (fun _ hk => trivial)), z16_4_⟩
     ·rw [if_neg c107] at H
      have c107b0 : (t321.toList == a0.toList) = false := beq_eq_false_iff_ne.mpr c107
      have c107b1 : (t321.toList != a0.toList) = true := bne_iff_ne.mpr c107
      (first | rw [c107b0] | (simp only [i64_w, i32_w]; rw [c107b0]) | rw [c107b1] | simp only [c107b2, decide_true, decide_false] | skip)
      simp only [Option.some.injEq, Prod.mk.injEq] at H
      obtain ⟨rfl, rfl, rfl, rfl, rfl, rfl, rfl, rfl, rfl, rfl, rfl, rfl, rfl, rfl⟩ := H
      have hnb111 := NB277_278.out
      have hnc111 := NB278_277.out
      obtain ⟨q112_0, q112_1, q112_2, q112_3, q112_4, q112_5, q112_6, q112_7, q112_8, q112_9, q112_10, q112_11, q112_12⟩ := zc13 BK277.out
      obtain ⟨f112_0, f112_1, f112_2, f112_3, f112_4, f112_5, f112_6, f112_7, f112_8, f112_9, f112_10, f112_11, f112_12⟩ := zf13 BK277.out
      (first | (go_wp21; show bodyPost _ _ _ _ _ _) | go_wp2)
      refine bodyPost_ret (results_ct rfl _ _ gb277 28 #[.int .i64 0, .int .i64 0, .int .i64 0, .string (⟨#[]⟩ : ByteArray), .slice none 0 0, .string (⟨#[]⟩ : ByteArray), .int .i64 0, .int .i64 0, .int .i64 0, .int .i64 0, .string (⟨#[]⟩ : ByteArray), .int .i64 0, .int .i64 0] (0, 0) _ rfl z16_5_ Tryz.underlying28 rfl (by kernel_rfl)) rfl ?_
      exact ⟨_, (by first | rfl | (simp [errW_none, errW_some] <;> rfl) | (simp [*, errW_none, errW_some] <;> rfl)), z16_3_, z16_4_⟩
end Go.Proofs.YtnlembpmcbnpnaaGreatDoor.X
