-- Written by a program of this session (wip/tools/xprint.py, over the kit's printer) out of the translation.
import Derived.Test.YtnhhbdhkhdbanaaDoorOX0
import Derived.Test.YtnhhbdhkhdbanaaDoorOX1
namespace Go.Proofs.YtnhhbdhkhdbanaaDoor.X
open Go.RowKit Go.Proofs.YtnhhbdhkhdbanaaDoorW.PrintWords Go.Proofs.YtnhhbdhkhdbanaaDoorW.PrintLast Go.Proofs.YtnhhbdhkhdbanaaDoorW.PrintMore
attribute [local go_sem] max2_int min2_int max_two min_two max_three min_three max_four min_four   -- for this text's walks alone
set_option linter.unusedVariables false
set_option linter.unusedSimpArgs false

/-! ### spec_ValidAddress: function 107 -/
mutual
def spec_ValidAddress.j0 : Nat → List ByteArray → Bool → Option (Bool)
  | 0, _, _ => none
  | k + 1, x3, x28 => if x28 = true then (some false) else (if 0 < (x3.length : Int) then ((spec_l2split.f k (rdOf ByteArray.empty x3 0) (⟨#[46]⟩ : ByteArray)).bind fun t128 => (spec_ValidAddress.l0 k t128 (t128.length : Int) 0)) else (none))
def spec_ValidAddress.l0 : Nat → List ByteArray → Int → Int → Option (Bool)
  | 0, _, _, _ => none
  | k + 1, x32, x33, x34 => if x34 < x33 then (if 0 ≤ x34 then (if x34 < (x32.length : Int) then (if (rdOf ByteArray.empty x32 x34).toList = ([] : List UInt8) then (some false) else (spec_ValidAddress.l1 k (rdOf ByteArray.empty x32 x34) 0 x32 x33 x34)) else (none)) else (none)) else (some true)
def spec_ValidAddress.l1 : Nat → ByteArray → Int → List ByteArray → Int → Int → Option (Bool)
  | 0, _, _, _, _, _ => none
  | k + 1, x5, x6, x32, x33, x34 => if x6 < (x5.size : Int) then (if 0 ≤ x6 then ((spec_l2letter.f (bt x5 x6)).bind fun t132 => (if t132 = true then (spec_ValidAddress.l1 k x5 (wrap64 (x6 + 1)) x32 x33 x34) else ((spec_l2has.f k (⟨#[43, 95, 45]⟩ : ByteArray) (bt x5 x6)).bind fun t133 => (if t133 = true then (spec_ValidAddress.l1 k x5 (wrap64 (x6 + 1)) x32 x33 x34) else (some false))))) else (none)) else (spec_ValidAddress.l0 k x32 x33 (wrap64 (x34 + 1)))
end
def spec_ValidAddress.f (k : Nat) (a0 : ByteArray) : Option (Bool) := if (a0.size : Int) > 160 then (some false) else ((spec_l2split.f k a0 (⟨#[64]⟩ : ByteArray)).bind fun t121 => (if (t121.length : Int) = 2 then (if 0 < (t121.length : Int) then (if ((rdOf ByteArray.empty t121 0).size : Int) > 64 then (spec_ValidAddress.j0 k t121 true) else (if 1 < (t121.length : Int) then ((spec_ValidDomain.f k (rdOf ByteArray.empty t121 1)).bind fun t126 => (spec_ValidAddress.j0 k t121 (!t126))) else (none))) else (none)) else (spec_ValidAddress.j0 k t121 true)))
theorem spec_ValidAddress.mono_l : ∀ k, (∀ y0 y1, LeO (spec_ValidAddress.j0 k y0 y1) (spec_ValidAddress.j0 (k + 1) y0 y1)) ∧ (∀ y0 y1 y2, LeO (spec_ValidAddress.l0 k y0 y1 y2) (spec_ValidAddress.l0 (k + 1) y0 y1 y2)) ∧ (∀ y0 y1 y2 y3 y4, LeO (spec_ValidAddress.l1 k y0 y1 y2 y3 y4) (spec_ValidAddress.l1 (k + 1) y0 y1 y2 y3 y4))
  | 0 => ⟨fun _ _ r h => by simp [spec_ValidAddress.j0] at h, fun _ _ _ r h => by simp [spec_ValidAddress.l0] at h, fun _ _ _ _ _ r h => by simp [spec_ValidAddress.l1] at h⟩
  | k + 1 => by
    obtain ⟨ih0, ih1, ih2⟩ := spec_ValidAddress.mono_l k
    refine ⟨?_, ?_, ?_⟩
    · intro y0 y1
      unfold spec_ValidAddress.j0
      repeat' first
      | (with_reducible exact ih0 _ _)
      | (with_reducible exact ih1 _ _ _)
      | (with_reducible exact ih2 _ _ _ _ _)
      | (with_reducible exact spec_ValidDomain.mono _ _)
      | (with_reducible exact spec_l2has.mono _ _ _)
      | (with_reducible exact spec_l2split.mono _ _ _)
      | (with_reducible exact LeO.refl _)
      | (with_reducible exact LeO.none _)
      | (with_reducible refine LeO.ite ?_ ?_)
      | (with_reducible refine LeO.bind ?_ (fun _ => ?_))
      | exact ih0 _ _
      | exact ih1 _ _ _
      | exact ih2 _ _ _ _ _
      | exact spec_ValidDomain.mono _ _
      | exact spec_l2has.mono _ _ _
      | exact spec_l2split.mono _ _ _
      | exact LeO.none _
      | refine LeO.ite ?_ ?_
      | refine LeO.bind ?_ (fun _ => ?_)
    · intro y0 y1 y2
      unfold spec_ValidAddress.l0
      repeat' first
      | (with_reducible exact ih0 _ _)
      | (with_reducible exact ih1 _ _ _)
      | (with_reducible exact ih2 _ _ _ _ _)
      | (with_reducible exact spec_ValidDomain.mono _ _)
      | (with_reducible exact spec_l2has.mono _ _ _)
      | (with_reducible exact spec_l2split.mono _ _ _)
      | (with_reducible exact LeO.refl _)
      | (with_reducible exact LeO.none _)
      | (with_reducible refine LeO.ite ?_ ?_)
      | (with_reducible refine LeO.bind ?_ (fun _ => ?_))
      | exact ih0 _ _
      | exact ih1 _ _ _
      | exact ih2 _ _ _ _ _
      | exact spec_ValidDomain.mono _ _
      | exact spec_l2has.mono _ _ _
      | exact spec_l2split.mono _ _ _
      | exact LeO.none _
      | refine LeO.ite ?_ ?_
      | refine LeO.bind ?_ (fun _ => ?_)
    · intro y0 y1 y2 y3 y4
      unfold spec_ValidAddress.l1
      repeat' first
      | (with_reducible exact ih0 _ _)
      | (with_reducible exact ih1 _ _ _)
      | (with_reducible exact ih2 _ _ _ _ _)
      | (with_reducible exact spec_ValidDomain.mono _ _)
      | (with_reducible exact spec_l2has.mono _ _ _)
      | (with_reducible exact spec_l2split.mono _ _ _)
      | (with_reducible exact LeO.refl _)
      | (with_reducible exact LeO.none _)
      | (with_reducible refine LeO.ite ?_ ?_)
      | (with_reducible refine LeO.bind ?_ (fun _ => ?_))
      | exact ih0 _ _
      | exact ih1 _ _ _
      | exact ih2 _ _ _ _ _
      | exact spec_ValidDomain.mono _ _
      | exact spec_l2has.mono _ _ _
      | exact spec_l2split.mono _ _ _
      | exact LeO.none _
      | refine LeO.ite ?_ ?_
      | refine LeO.bind ?_ (fun _ => ?_)
theorem spec_ValidAddress.mono : ∀ a0 k, LeO (spec_ValidAddress.f k a0) (spec_ValidAddress.f (k + 1) a0) := by
  intro a0 k
  obtain ⟨ih0, ih1, ih2⟩ := spec_ValidAddress.mono_l k
  unfold spec_ValidAddress.f
  repeat' first
      | (with_reducible exact ih0 _ _)
      | (with_reducible exact ih1 _ _ _)
      | (with_reducible exact ih2 _ _ _ _ _)
      | (with_reducible exact spec_ValidDomain.mono _ _)
      | (with_reducible exact spec_l2has.mono _ _ _)
      | (with_reducible exact spec_l2split.mono _ _ _)
      | (with_reducible exact LeO.refl _)
      | (with_reducible exact LeO.none _)
      | (with_reducible refine LeO.ite ?_ ?_)
      | (with_reducible refine LeO.bind ?_ (fun _ => ?_))
      | exact ih0 _ _
      | exact ih1 _ _ _
      | exact ih2 _ _ _ _ _
      | exact spec_ValidDomain.mono _ _
      | exact spec_l2has.mono _ _ _
      | exact spec_l2split.mono _ _ _
      | exact LeO.none _
      | refine LeO.ite ?_ ?_
      | refine LeO.bind ?_ (fun _ => ?_)
set_option maxHeartbeats 8000000 in
set_option maxRecDepth 100000 in
theorem spec_ValidAddress.calls (k : Nat) (a0 : ByteArray) (r : Bool) (w : World) (h : spec_ValidAddress.f k a0 = some r) :
    Calls Tryd.prog 107 #[.string a0] w fun e w' => e = .returned (.bool r) ∧ Below w.heap.size w w' := by
  have HB := Aside0.mk (Below.refl w.heap.size w)
  have H : (if (a0.size : Int) > 160 then (some false) else ((spec_l2split.f k a0 (⟨#[64]⟩ : ByteArray)).bind fun t121 => (if (t121.length : Int) = 2 then (if 0 < (t121.length : Int) then (if ((rdOf ByteArray.empty t121 0).size : Int) > 64 then (spec_ValidAddress.j0 k t121 true) else (if 1 < (t121.length : Int) then ((spec_ValidDomain.f k (rdOf ByteArray.empty t121 1)).bind fun t126 => (spec_ValidAddress.j0 k t121 (!t126))) else (none))) else (none)) else (spec_ValidAddress.j0 k t121 true)))) = some r := h
  clear h
  by_cases c2 : (a0.size : Int) > 160
  · rw [if_pos c2] at H
    have c2b0 : decide (160 < (a0.size : Int)) = true := decide_eq_true c2
    have c2b1 : decide (160 < a0.size) = true := decide_eq_true (by omega)
    clear c2
    obtain rfl := Option.some.inj H
    go_enter Tryd.func107, Tryd.ntmps107
    go_wp2
    go_ret
    exact ⟨by first | rfl | (simp [errW_none, errW_some] <;> rfl) | (simp [*, errW_none, errW_some] <;> rfl), bq_⟩
  · rw [if_neg c2] at H
    have c2b0 : decide (160 < (a0.size : Int)) = false := decide_eq_false c2
    have c2b1 : decide (160 < a0.size) = false := decide_eq_false (by omega)
    clear c2
    replace H := Option.bind_eq_some_iff.mp H
    obtain ⟨t121, A30, H⟩ := H
    replace H : (if (t121.length : Int) = 2 then (if 0 < (t121.length : Int) then (if ((rdOf ByteArray.empty t121 0).size : Int) > 64 then (spec_ValidAddress.j0 k t121 true) else (if 1 < (t121.length : Int) then ((spec_ValidDomain.f k (rdOf ByteArray.empty t121 1)).bind fun t126 => (spec_ValidAddress.j0 k t121 (!t126))) else (none))) else (none)) else (spec_ValidAddress.j0 k t121 true)) = some r := H
    have A3 := Aside0.mk A30
    clear A30
    have HC4 := Aside0.mk H
    clear H
    go_enter Tryd.func107, Tryd.ntmps107
    go_upto_region 4 with (first | ((with_reducible refine gate_callee (f := 54) rfl ?_); refine goesL_ (some 11) rfl rfl Tryd.func54 (by kernel_rfl) rfl #[.string a0, .string (⟨#[64]⟩ : ByteArray)] rfl (by (try simp only [List.map_toArray, List.map_cons, List.map_nil]); first | done | rfl | (simp only [List.length_drop, List.length_take]; rfl)) ?_; (with_reducible refine (spec_l2split.calls k a0 (⟨#[64]⟩ : ByteArray) t121 _ A3.out).mono ?_); rintro e w5 ⟨v122, rfl, ho0, hb⟩; refine ⟨_, rfl, ?_⟩; have n0_ := Aside0.mk (Kd.R_lower ho0 (below_size (bq_))); have n1_ := Aside0.mk (below_step (bq_) hb); clear HB; have HO123 := n0_; have HB := n1_; clear n0_ n1_; (try clear hb); (try clear hb2); (try clear hk); (try clear hi); (try clear ho0)))
    (try simp only [Act.put, List.setIfInBounds_toArray, List.set_cons_zero, List.set_cons_succ])
    go_cut [28] (fun v28 wc => ∃ (kq : Nat) (x28_3 : Bool), v28 = .bool x28_3 ∧ Aside0 (spec_ValidAddress.j0 kq t121 x28_3 = some r) ∧ Aside0 (kq ≤ k) ∧ Aside0 (Kd.R Kd.string 9 wc w.heap.size (fun _ => True) v122 t121) ∧ Aside0 (Below w.heap.size w wc))
    case first =>
      have H := HC4.out
      clear HC4
      by_cases c6 : (t121.length : Int) = 2
      · rw [if_pos c6] at H
        have c6b0 : ((t121.length : Int) == 2) = true := beq_iff_eq.mpr c6
        have c6b1 : ((t121.length : Int) != 2) = false := bne_eq_false_iff_eq.mpr c6
        clear c6
        (first | rw [c6b0] | (simp only [i64_w, i32_w]; rw [c6b0]) | skip)
        by_cases c7 : 0 < (t121.length : Int)
        · rw [if_pos c7] at H
          have c7b0 : decide (0 < (t121.length : Int)) = true := decide_eq_true c7
          have c7b1 : decide (0 < t121.length) = true := decide_eq_true (by omega)
          clear c7
          by_cases c8 : ((rdOf ByteArray.empty t121 0).size : Int) > 64
          · rw [if_pos c8] at H
            have c8b0 : decide (64 < ((rdOf ByteArray.empty t121 0).size : Int)) = true := decide_eq_true c8
            have c8b1 : decide (64 < (rdOf ByteArray.empty t121 0).size) = true := decide_eq_true (by omega)
            clear c8
            have H' := Aside0.mk H
            clear H
            obtain ⟨Ao9, co9, eo9⟩ := Kd.R_slice HO123.out
            subst eo9
            have p124 : 0 ≤ (0 : Int) := (by omega)
            have q124 : 0 < (t121.length : Int) := of_decide_eq_true (by first | (with_reducible assumption) | assumption)
            obtain ⟨ad124, e124, hx124_0⟩ := Kd.at_string (Kd.R_reads' HO123.out).2.2 0 p124 q124
            cases e124
            have qi124 : (0 < t121.length) = True := eq_true (by omega)
            (try rw [show ((0 : Int)).toNat = 0 from rfl] at hx124_0)
            (try rw [Addr.add_zero'] at hx124_0)
            replace p124 := eq_true p124
            replace q124 := eq_true q124
            go_wp2
            go_meet
            case rel => exact ⟨_, (true), (by first | rfl | (simp; done) | (simp [*]; done)), H', ⟨by first | omega | exact Nat.le_refl _⟩, ⟨by (with_reducible repeat (first | apply Kd.R_alloc | apply Kd.R_drewN | apply Kd.R_drew)); exact HO123.out⟩, ⟨bq_⟩⟩
          · rw [if_neg c8] at H
            have c8b0 : decide (64 < ((rdOf ByteArray.empty t121 0).size : Int)) = false := decide_eq_false c8
            have c8b1 : decide (64 < (rdOf ByteArray.empty t121 0).size) = false := decide_eq_false (by omega)
            clear c8
            by_cases c10 : 1 < (t121.length : Int)
            · rw [if_pos c10] at H
              have c10b0 : decide (1 < (t121.length : Int)) = true := decide_eq_true c10
              have c10b1 : decide (1 < t121.length) = true := decide_eq_true (by omega)
              clear c10
              replace H := Option.bind_eq_some_iff.mp H
              obtain ⟨t126, A110, H⟩ := H
              replace H : (spec_ValidAddress.j0 k t121 (!t126)) = some r := H
              have A11 := Aside0.mk A110
              clear A110
              have H' := Aside0.mk H
              clear H
              obtain ⟨Ao12, co12, eo12⟩ := Kd.R_slice HO123.out
              subst eo12
              have p124 : 0 ≤ (0 : Int) := (by omega)
              have q124 : 0 < (t121.length : Int) := of_decide_eq_true (by first | (with_reducible assumption) | assumption)
              obtain ⟨ad124, e124, hx124_0⟩ := Kd.at_string (Kd.R_reads' HO123.out).2.2 0 p124 q124
              cases e124
              have qi124 : (0 < t121.length) = True := eq_true (by omega)
              (try rw [show ((0 : Int)).toNat = 0 from rfl] at hx124_0)
              (try rw [Addr.add_zero'] at hx124_0)
              replace p124 := eq_true p124
              replace q124 := eq_true q124
              have p125 : 0 ≤ (1 : Int) := (by omega)
              have q125 : 1 < (t121.length : Int) := of_decide_eq_true (by first | (with_reducible assumption) | assumption)
              obtain ⟨ad125, e125, hx125_0⟩ := Kd.at_string (Kd.R_reads' HO123.out).2.2 1 p125 q125
              obtain rfl : ad124 = ad125 := (by injection e125)
              (try simp only [show (1 : Int).toNat = 1 from rfl, Nat.reduceMul, Nat.reduceEqDiff, Go.Addr.add, ↓reduceIte] at hx125_0)
              have qi125 : (1 < t121.length) = True := eq_true (by omega)
              (try rw [show ((1 : Int)).toNat = 1 from rfl] at hx125_0)
              replace p125 := eq_true p125
              replace q125 := eq_true q125
              go_wp2_with (first | (go_at_call 61; (with_reducible refine (spec_ValidDomain.calls k (rdOf ByteArray.empty t121 1) t126 _ A11.out).mono ?_); rintro e w13 ⟨rfl, hb⟩; have n0_ := Aside0.mk (Kd.R_below (by (with_reducible repeat (first | apply Kd.R_alloc | apply Kd.R_drewN | apply Kd.R_drew)); exact HO123.out) hb); have n1_ := Aside0.mk (below_step (bq_) hb); clear HO123; clear HB; have HO123 := n0_; have HB := n1_; clear n0_ n1_; (try clear hb); (try clear hb2); (try clear hk); (try clear hi)))
              go_meet
              case rel => exact ⟨_, (!t126), (by first | rfl | (simp; done) | (simp [*]; done)), H', ⟨by first | omega | exact Nat.le_refl _⟩, ⟨by (with_reducible repeat (first | apply Kd.R_alloc | apply Kd.R_drewN | apply Kd.R_drew)); exact HO123.out⟩, ⟨bq_⟩⟩
            · rw [if_neg c10] at H
              exact absurd H (by simp)
        · rw [if_neg c7] at H
          exact absurd H (by simp)
      · rw [if_neg c6] at H
        have c6b0 : ((t121.length : Int) == 2) = false := beq_eq_false_iff_ne.mpr c6
        have c6b1 : ((t121.length : Int) != 2) = true := bne_iff_ne.mpr c6
        (first | rw [c6b0] | (simp only [i64_w, i32_w]; rw [c6b0]) | skip)
        have H' := Aside0.mk H
        clear H
        obtain ⟨Ao14, co14, eo14⟩ := Kd.R_slice HO123.out
        subst eo14
        go_wp2
        go_meet
        case rel => exact ⟨_, (true), (by first | rfl | (simp; done) | (simp [*]; done)), H', ⟨by first | omega | exact Nat.le_refl _⟩, ⟨by (with_reducible repeat (first | apply Kd.R_alloc | apply Kd.R_drewN | apply Kd.R_drew)); exact HO123.out⟩, ⟨bq_⟩⟩
    case rest =>
      clear HC4
      try clear c1
      try clear p1
      try clear q1
      try clear hx1
      try clear qi1
      try clear c2
      try clear c2b0
      try clear c2b1
      try clear p2
      try clear c5
      try clear c6
      try clear c6b0
      try clear c6b1
      try clear c7
      try clear c7b0
      try clear c7b1
      try clear c8
      try clear c8b0
      try clear c8b1
      try clear c10
      try clear c10b0
      try clear c10b1
      try clear p12
      try clear q12
      try clear hx12
      try clear qi12
      try clear hx124_0
      try clear hx125_0
      try clear p124
      try clear p125
      try clear q124
      try clear q125
      obtain ⟨kq, x28_3, rfl, HA, HJ3, HO_3, HB⟩ := hcut
      cases kq with
      | zero => exact absurd HA.out (by simp [spec_ValidAddress.j0])
      | succ kj3 =>
        have H := HA.out
        clear HA
        simp only [spec_ValidAddress.j0] at H
        by_cases c15 : x28_3 = true
        · subst c15
          have H1 : (some false) = some r := by rw [if_pos rfl] at H; exact H
          clear H
          have H := H1
          clear H1
          obtain rfl := Option.some.inj H
          go_wp2
          go_ret
          exact ⟨by first | rfl | (simp [errW_none, errW_some] <;> rfl) | (simp [*, errW_none, errW_some] <;> rfl), bq_⟩
        · replace c15 := Bool.eq_false_iff.mpr c15
          subst c15
          have H1 : (if 0 < (t121.length : Int) then ((spec_l2split.f kj3 (rdOf ByteArray.empty t121 0) (⟨#[46]⟩ : ByteArray)).bind fun t128 => (spec_ValidAddress.l0 kj3 t128 (t128.length : Int) 0)) else (none)) = some r := by rw [if_neg (show ¬ (false = true) by decide)] at H; exact H
          clear H
          have H := H1
          clear H1
          by_cases c16 : 0 < (t121.length : Int)
          · rw [if_pos c16] at H
            have c16b0 : decide (0 < (t121.length : Int)) = true := decide_eq_true c16
            have c16b1 : decide (0 < t121.length) = true := decide_eq_true (by omega)
            clear c16
            replace H := Option.bind_eq_some_iff.mp H
            obtain ⟨t128, A170, H⟩ := H
            replace H : (spec_ValidAddress.l0 kj3 t128 (t128.length : Int) 0) = some r := H
            have A17 := Aside0.mk A170
            clear A170
            have H' := Aside0.mk H
            clear H
            obtain ⟨Ao18, co18, eo18⟩ := Kd.R_slice HO_3.out
            subst eo18
            have p127 : 0 ≤ (0 : Int) := (by omega)
            have q127 : 0 < (t121.length : Int) := of_decide_eq_true (by first | (with_reducible assumption) | assumption)
            obtain ⟨ad127, e127, hx127_0⟩ := Kd.at_string (Kd.R_reads' HO_3.out).2.2 0 p127 q127
            cases e127
            have qi127 : (0 < t121.length) = True := eq_true (by omega)
            (try rw [show ((0 : Int)).toNat = 0 from rfl] at hx127_0)
            (try rw [Addr.add_zero'] at hx127_0)
            replace p127 := eq_true p127
            replace q127 := eq_true q127
            go_wp2_with (first | ((with_reducible refine gate_callee (f := 54) rfl ?_); refine goesL_ (some 32) rfl rfl Tryd.func54 (by kernel_rfl) rfl #[.string (rdOf ByteArray.empty t121 0), .string (⟨#[46]⟩ : ByteArray)] rfl (by (try simp only [List.map_toArray, List.map_cons, List.map_nil]); first | done | rfl | (simp only [List.length_drop, List.length_take]; rfl)) ?_; (with_reducible refine (spec_l2split.calls kj3 (rdOf ByteArray.empty t121 0) (⟨#[46]⟩ : ByteArray) t128 _ A17.out).mono ?_); rintro e w19 ⟨v129, rfl, ho0, hb⟩; refine ⟨_, rfl, ?_⟩; have n0_ := Aside0.mk (Kd.R_elder' (by (with_reducible repeat (first | apply Kd.R_alloc | apply Kd.R_drewN | apply Kd.R_drew)); exact HO_3.out) (Kd.R_base ho0) hb); have n1_ := Aside0.mk (Kd.R_lower (Kd.R_new' ho0 (Kd.R_lt (by (with_reducible repeat (first | apply Kd.R_alloc | apply Kd.R_drewN | apply Kd.R_drew)); exact HO_3.out))) (below_size (bq_))); have n2_ := Aside0.mk (below_step (bq_) hb); clear HO_3; clear HB; have HO_3 := n0_; have HO130 := n1_; have HB := n2_; clear n0_ n1_ n2_; (try clear hb); (try clear hb2); (try clear hk); (try clear hi); (try clear ho0); obtain ⟨Ao20, co20, eo20⟩ := Kd.R_slice HO130.out; subst eo20))
            go_loopg [34] kj3 (fun kq v34 w' => ∃ (x34_2 : Int), v34 = .int .i64 x34_2 ∧ Aside0 (spec_ValidAddress.l0 kq t128 (t128.length : Int) x34_2 = some r) ∧ Aside0 (kq ≤ kj3) ∧ Aside0 (Kd.R Kd.string 9 w' w.heap.size (fun _ => True) (.slice Ao20 t128.length co20) t128) ∧ Aside0 (Below w.heap.size w w'))
            case atStart => exact ⟨(0), (by first | rfl | (simp; done) | (simp [*]; done)), H', ⟨Nat.le_refl _⟩, ⟨by (with_reducible repeat (first | apply Kd.R_alloc | apply Kd.R_drewN | apply Kd.R_drew)); exact Kd.R_mono HO130.out (fun _ hk => trivial)⟩, ⟨bq_⟩⟩
            case round =>
              clear H'
              try clear c1
              try clear p1
              try clear q1
              try clear hx1
              try clear qi1
              try clear c2
              try clear c2b0
              try clear c2b1
              try clear p2
              try clear c5
              try clear c6
              try clear c6b0
              try clear c6b1
              try clear c7
              try clear c7b0
              try clear c7b1
              try clear c8
              try clear c8b0
              try clear c8b1
              try clear c10
              try clear c10b0
              try clear c10b1
              try clear p12
              try clear q12
              try clear hx12
              try clear qi12
              try clear c15
              try clear c16
              try clear c16b0
              try clear c16b1
              try clear hx124_0
              try clear hx125_0
              try clear hx127_0
              try clear p1
              try clear p12
              try clear p124
              try clear p125
              try clear p127
              try clear p2
              try clear q1
              try clear q12
              try clear q124
              try clear q125
              try clear q127
              obtain ⟨x34_2, rfl, HA, HK2, HO_32, HB⟩ := hrel
              cases gk with
              | zero => exact absurd HA.out (by simp [spec_ValidAddress.l0])
              | succ k2 =>
                have H := HA.out
                clear HA
                simp only [spec_ValidAddress.l0] at H
                by_cases c21 : x34_2 < (t128.length : Int)
                · rw [if_pos c21] at H
                  have c21b0 : decide (x34_2 < (t128.length : Int)) = true := decide_eq_true c21
                  clear c21
                  by_cases c22 : 0 ≤ x34_2
                  · rw [if_pos c22] at H
                    have c22b0 : decide (0 ≤ x34_2) = true := decide_eq_true c22
                    clear c22
                    by_cases c23 : x34_2 < (t128.length : Int)
                    · rw [if_pos c23] at H
                      have c23b0 : decide (x34_2 < (t128.length : Int)) = true := decide_eq_true c23
                      clear c23
                      by_cases c24 : (rdOf ByteArray.empty t128 x34_2).toList = ([] : List UInt8)
                      · rw [if_pos c24] at H
                        have c24b0 : ((rdOf ByteArray.empty t128 x34_2).toList == ([] : List UInt8)) = true := beq_iff_eq.mpr c24
                        have c24b1 : ((rdOf ByteArray.empty t128 x34_2).toList != ([] : List UInt8)) = false := bne_eq_false_iff_eq.mpr c24
                        clear c24
                        obtain rfl := Option.some.inj H
                        have p131 : 0 ≤ (x34_2 : Int) := of_decide_eq_true (by first | (with_reducible assumption) | assumption)
                        have q131 : x34_2 < (t128.length : Int) := of_decide_eq_true (by first | (with_reducible assumption) | assumption)
                        obtain ⟨ad131, e131, hx131_0⟩ := Kd.at_string (Kd.R_reads' HO_32.out).2.2 x34_2 p131 q131
                        cases e131
                        replace p131 := eq_true p131
                        replace q131 := eq_true q131
                        go_wp2
                        go_ret
                        exact ⟨by first | rfl | (simp [errW_none, errW_some] <;> rfl) | (simp [*, errW_none, errW_some] <;> rfl), bq_⟩
                      · rw [if_neg c24] at H
                        have c24b0 : ((rdOf ByteArray.empty t128 x34_2).toList == ([] : List UInt8)) = false := beq_eq_false_iff_ne.mpr c24
                        have c24b1 : ((rdOf ByteArray.empty t128 x34_2).toList != ([] : List UInt8)) = true := bne_iff_ne.mpr c24
                        have H' := Aside0.mk H
                        clear H
                        have p131 : 0 ≤ (x34_2 : Int) := of_decide_eq_true (by first | (with_reducible assumption) | assumption)
                        have q131 : x34_2 < (t128.length : Int) := of_decide_eq_true (by first | (with_reducible assumption) | assumption)
                        obtain ⟨ad131, e131, hx131_0⟩ := Kd.at_string (Kd.R_reads' HO_32.out).2.2 x34_2 p131 q131
                        cases e131
                        replace p131 := eq_true p131
                        replace q131 := eq_true q131
                        go_wp2
                        go_loopg [6] k2 (fun kq v6 w' => ∃ (x6_3 : Int), v6 = .int .i64 x6_3 ∧ Aside0 (spec_ValidAddress.l1 kq (rdOf ByteArray.empty t128 x34_2) x6_3 t128 (t128.length : Int) x34_2 = some r) ∧ Aside0 (kq ≤ k2) ∧ Aside0 (Kd.R Kd.string 9 w' w.heap.size (fun _ => True) (.slice (some ad131) t128.length co20) t128) ∧ Aside0 (Below w.heap.size w w'))
                        case atStart => exact ⟨(0), (by first | rfl | (simp; done) | (simp [*]; done)), H', ⟨Nat.le_refl _⟩, ⟨by (with_reducible repeat (first | apply Kd.R_alloc | apply Kd.R_drewN | apply Kd.R_drew)); exact HO_32.out⟩, ⟨bq_⟩⟩
                        case round =>
                          clear H'
                          try clear c1
                          try clear p1
                          try clear q1
                          try clear hx1
                          try clear qi1
                          try clear c2
                          try clear c2b0
                          try clear c2b1
                          try clear p2
                          try clear c5
                          try clear c6
                          try clear c6b0
                          try clear c6b1
                          try clear c7
                          try clear c7b0
                          try clear c7b1
                          try clear c8
                          try clear c8b0
                          try clear c8b1
                          try clear c10
                          try clear c10b0
                          try clear c10b1
                          try clear p12
                          try clear q12
                          try clear hx12
                          try clear qi12
                          try clear p13
                          try clear q13
                          try clear hx13
                          try clear c15
                          try clear c16
                          try clear c16b0
                          try clear c16b1
                          try clear c21
                          try clear c21b0
                          try clear c22
                          try clear c22b0
                          try clear c23
                          try clear c23b0
                          try clear c24
                          try clear c24b0
                          try clear c24b1
                          try clear hx124_0
                          try clear hx125_0
                          try clear hx127_0
                          try clear hx131_0
                          try clear p1
                          try clear p12
                          try clear p124
                          try clear p125
                          try clear p127
                          try clear p131
                          try clear p2
                          try clear q1
                          try clear q12
                          try clear q124
                          try clear q125
                          try clear q127
                          try clear q131
                          obtain ⟨x6_3, rfl, HA, HK3, HO_32, HB⟩ := hrel
                          cases gk with
                          | zero => exact absurd HA.out (by simp [spec_ValidAddress.l1])
                          | succ k3 =>
                            have H := HA.out
                            clear HA
                            simp only [spec_ValidAddress.l1] at H
                            by_cases c25 : x6_3 < ((rdOf ByteArray.empty t128 x34_2).size : Int)
                            · rw [if_pos c25] at H
                              have c25b0 : decide (x6_3 < ((rdOf ByteArray.empty t128 x34_2).size : Int)) = true := decide_eq_true c25
                              clear c25
                              by_cases c26 : 0 ≤ x6_3
                              · rw [if_pos c26] at H
                                have c26b0 : decide (0 ≤ x6_3) = true := decide_eq_true c26
                                clear c26
                                replace H := Option.bind_eq_some_iff.mp H
                                obtain ⟨t132, A280, H⟩ := H
                                replace H : (if t132 = true then (spec_ValidAddress.l1 k3 (rdOf ByteArray.empty t128 x34_2) (wrap64 (x6_3 + 1)) t128 (t128.length : Int) x34_2) else ((spec_l2has.f k3 (⟨#[43, 95, 45]⟩ : ByteArray) (bt (rdOf ByteArray.empty t128 x34_2) x6_3)).bind fun t133 => (if t133 = true then (spec_ValidAddress.l1 k3 (rdOf ByteArray.empty t128 x34_2) (wrap64 (x6_3 + 1)) t128 (t128.length : Int) x34_2) else (some false)))) = some r := H
                                have A28 := Aside0.mk A280
                                clear A280
                                by_cases c29 : t132 = true
                                · subst c29
                                  have H1 : (spec_ValidAddress.l1 k3 (rdOf ByteArray.empty t128 x34_2) (wrap64 (x6_3 + 1)) t128 (t128.length : Int) x34_2) = some r := by rw [if_pos rfl] at H; exact H
                                  clear H
                                  have H := H1
                                  clear H1
                                  have H' := Aside0.mk H
                                  clear H
                                  have p27 : 0 ≤ (x6_3 : Int) := of_decide_eq_true (by first | (with_reducible assumption) | assumption)
                                  have q27 : x6_3 < ((rdOf ByteArray.empty t128 x34_2).size : Int) := of_decide_eq_true (by first | (with_reducible assumption) | assumption)
                                  have hx27 := bt_at (rdOf ByteArray.empty t128 x34_2) x6_3
                                  replace p27 := eq_true p27
                                  replace q27 := eq_true q27
                                  go_wp2_with (first | ((with_reducible refine gate_callee (f := 140) rfl ?_); refine goesL_ (some 49) rfl rfl Tryd.func140 (by kernel_rfl) rfl #[.int .u8 (bt (rdOf ByteArray.empty t128 x34_2) x6_3)] rfl (by (try simp only [List.map_toArray, List.map_cons, List.map_nil]); first | done | rfl | (simp only [List.length_drop, List.length_take]; rfl)) ?_; (with_reducible refine (spec_l2letter.calls (bt (rdOf ByteArray.empty t128 x34_2) x6_3) true _ A28.out).mono ?_); rintro e w' ⟨rfl, ⟨nd, rfl⟩⟩; refine ⟨_, rfl, ?_⟩))
                                  go_roundg k3
                                  case measure => have := HJ3.out; have := HK2.out; have := HK3.out; omega
                                  case rel => exact ⟨(wrap64 (x6_3 + 1)), (by first | rfl | (simp; done) | (simp [*]; done)), H', ⟨by have := HJ3.out; have := HK2.out; have := HK3.out; omega⟩, ⟨by (with_reducible repeat (first | apply Kd.R_alloc | apply Kd.R_drewN | apply Kd.R_drew)); exact HO_32.out⟩, ⟨bq_⟩⟩
                                · replace c29 := Bool.eq_false_iff.mpr c29
                                  subst c29
                                  have H1 : ((spec_l2has.f k3 (⟨#[43, 95, 45]⟩ : ByteArray) (bt (rdOf ByteArray.empty t128 x34_2) x6_3)).bind fun t133 => (if t133 = true then (spec_ValidAddress.l1 k3 (rdOf ByteArray.empty t128 x34_2) (wrap64 (x6_3 + 1)) t128 (t128.length : Int) x34_2) else (some false))) = some r := by rw [if_neg (show ¬ (false = true) by decide)] at H; exact H
                                  clear H
                                  have H := H1
                                  clear H1
                                  replace H := Option.bind_eq_some_iff.mp H
                                  obtain ⟨t133, A310, H⟩ := H
                                  replace H : (if t133 = true then (spec_ValidAddress.l1 k3 (rdOf ByteArray.empty t128 x34_2) (wrap64 (x6_3 + 1)) t128 (t128.length : Int) x34_2) else (some false)) = some r := H
                                  have A31 := Aside0.mk A310
                                  clear A310
                                  by_cases c32 : t133 = true
                                  · subst c32
                                    have H1 : (spec_ValidAddress.l1 k3 (rdOf ByteArray.empty t128 x34_2) (wrap64 (x6_3 + 1)) t128 (t128.length : Int) x34_2) = some r := by rw [if_pos rfl] at H; exact H
                                    clear H
                                    have H := H1
                                    clear H1
                                    have H' := Aside0.mk H
                                    clear H
                                    have p27 : 0 ≤ (x6_3 : Int) := of_decide_eq_true (by first | (with_reducible assumption) | assumption)
                                    have q27 : x6_3 < ((rdOf ByteArray.empty t128 x34_2).size : Int) := of_decide_eq_true (by first | (with_reducible assumption) | assumption)
                                    have hx27 := bt_at (rdOf ByteArray.empty t128 x34_2) x6_3
                                    replace p27 := eq_true p27
                                    replace q27 := eq_true q27
                                    go_wp2_with (first | ((with_reducible refine gate_callee (f := 140) rfl ?_); refine goesL_ (some 49) rfl rfl Tryd.func140 (by kernel_rfl) rfl #[.int .u8 (bt (rdOf ByteArray.empty t128 x34_2) x6_3)] rfl (by (try simp only [List.map_toArray, List.map_cons, List.map_nil]); first | done | rfl | (simp only [List.length_drop, List.length_take]; rfl)) ?_; (with_reducible refine (spec_l2letter.calls (bt (rdOf ByteArray.empty t128 x34_2) x6_3) false _ A28.out).mono ?_); rintro e w' ⟨rfl, ⟨nd, rfl⟩⟩; refine ⟨_, rfl, ?_⟩; have p30 : 0 ≤ (x6_3 : Int) := of_decide_eq_true (by first | (with_reducible assumption) | assumption); have q30 : x6_3 < ((rdOf ByteArray.empty t128 x34_2).size : Int) := of_decide_eq_true (by first | (with_reducible assumption) | assumption); have hx30 := bt_at (rdOf ByteArray.empty t128 x34_2) x6_3; replace p30 := eq_true p30; replace q30 := eq_true q30) | (go_at_call 80; (with_reducible refine (spec_l2has.calls k3 (⟨#[43, 95, 45]⟩ : ByteArray) (bt (rdOf ByteArray.empty t128 x34_2) x6_3) true _ A31.out).mono ?_); rintro e w' ⟨rfl, ⟨nd, rfl⟩⟩))
                                    go_roundg k3
                                    case measure => have := HJ3.out; have := HK2.out; have := HK3.out; omega
                                    case rel => exact ⟨(wrap64 (x6_3 + 1)), (by first | rfl | (simp; done) | (simp [*]; done)), H', ⟨by have := HJ3.out; have := HK2.out; have := HK3.out; omega⟩, ⟨by (with_reducible repeat (first | apply Kd.R_alloc | apply Kd.R_drewN | apply Kd.R_drew)); exact HO_32.out⟩, ⟨bq_⟩⟩
                                  · replace c32 := Bool.eq_false_iff.mpr c32
                                    subst c32
                                    have H1 : (some false) = some r := by rw [if_neg (show ¬ (false = true) by decide)] at H; exact H
                                    clear H
                                    have H := H1
                                    clear H1
                                    obtain rfl := Option.some.inj H
                                    have p27 : 0 ≤ (x6_3 : Int) := of_decide_eq_true (by first | (with_reducible assumption) | assumption)
                                    have q27 : x6_3 < ((rdOf ByteArray.empty t128 x34_2).size : Int) := of_decide_eq_true (by first | (with_reducible assumption) | assumption)
                                    have hx27 := bt_at (rdOf ByteArray.empty t128 x34_2) x6_3
                                    replace p27 := eq_true p27
                                    replace q27 := eq_true q27
                                    go_wp2_with (first | ((with_reducible refine gate_callee (f := 140) rfl ?_); refine goesL_ (some 49) rfl rfl Tryd.func140 (by kernel_rfl) rfl #[.int .u8 (bt (rdOf ByteArray.empty t128 x34_2) x6_3)] rfl (by (try simp only [List.map_toArray, List.map_cons, List.map_nil]); first | done | rfl | (simp only [List.length_drop, List.length_take]; rfl)) ?_; (with_reducible refine (spec_l2letter.calls (bt (rdOf ByteArray.empty t128 x34_2) x6_3) false _ A28.out).mono ?_); rintro e w' ⟨rfl, ⟨nd, rfl⟩⟩; refine ⟨_, rfl, ?_⟩; have p30 : 0 ≤ (x6_3 : Int) := of_decide_eq_true (by first | (with_reducible assumption) | assumption); have q30 : x6_3 < ((rdOf ByteArray.empty t128 x34_2).size : Int) := of_decide_eq_true (by first | (with_reducible assumption) | assumption); have hx30 := bt_at (rdOf ByteArray.empty t128 x34_2) x6_3; replace p30 := eq_true p30; replace q30 := eq_true q30) | (go_at_call 80; (with_reducible refine (spec_l2has.calls k3 (⟨#[43, 95, 45]⟩ : ByteArray) (bt (rdOf ByteArray.empty t128 x34_2) x6_3) false _ A31.out).mono ?_); rintro e w' ⟨rfl, ⟨nd, rfl⟩⟩))
                                    go_ret
                                    exact ⟨by first | rfl | (simp [errW_none, errW_some] <;> rfl) | (simp [*, errW_none, errW_some] <;> rfl), bq_⟩
                              · rw [if_neg c26] at H
                                exact absurd H (by simp)
                            · rw [if_neg c25] at H
                              have c25b0 : decide (x6_3 < ((rdOf ByteArray.empty t128 x34_2).size : Int)) = false := decide_eq_false c25
                              clear c25
                              have H' := Aside0.mk H
                              clear H
                              go_wp2
                              go_roundg k3
                              case measure => have := HJ3.out; have := HK2.out; have := HK3.out; omega
                              case rel => exact ⟨(wrap64 (x34_2 + 1)), (by first | rfl | (simp; done) | (simp [*]; done)), H', ⟨by have := HJ3.out; have := HK2.out; have := HK3.out; omega⟩, ⟨by (with_reducible repeat (first | apply Kd.R_alloc | apply Kd.R_drewN | apply Kd.R_drew)); exact HO_32.out⟩, ⟨bq_⟩⟩
                    · rw [if_neg c23] at H
                      exact absurd H (by simp)
                  · rw [if_neg c22] at H
                    exact absurd H (by simp)
                · rw [if_neg c21] at H
                  have c21b0 : decide (x34_2 < (t128.length : Int)) = false := decide_eq_false c21
                  clear c21
                  obtain rfl := Option.some.inj H
                  go_wp2
                  go_ret
                  exact ⟨by first | rfl | (simp [errW_none, errW_some] <;> rfl) | (simp [*, errW_none, errW_some] <;> rfl), bq_⟩
          · rw [if_neg c16] at H
            exact absurd H (by simp)

/-! ### spec_l4whom: function 62 -/
mutual
def spec_l4whom.j0 : Nat → List ByteArray → Bool → Option (Bool)
  | 0, _, _ => none
  | k + 1, x1, x23 => if x23 = true then (some false) else (spec_l4whom.l0 k x1 (x1.length : Int) 0)
def spec_l4whom.l0 : Nat → List ByteArray → Int → Int → Option (Bool)
  | 0, _, _, _ => none
  | k + 1, x24, x25, x26 => if x26 < x25 then (if 0 ≤ x26 then (if x26 < (x24.length : Int) then ((spec_ValidAddress.f k (rdOf ByteArray.empty x24 x26)).bind fun t136 => (if t136 = true then (spec_l4whom.l0 k x24 x25 (wrap64 (x26 + 1))) else (some false))) else (none)) else (none)) else (some true)
end
def spec_l4whom.f (k : Nat) (a0 : ByteArray) (l1 : List ByteArray) : Option (Bool) := if a0.toList = ([] : List UInt8) then (if (l1.length : Int) < 1 then (spec_l4whom.j0 k l1 true) else (spec_l4whom.j0 k l1 (decide ((l1.length : Int) > 20)))) else ((spec_ValidAddress.f k a0).bind fun t134 => (if t134 = true then (if (l1.length : Int) < 1 then (spec_l4whom.j0 k l1 true) else (spec_l4whom.j0 k l1 (decide ((l1.length : Int) > 20)))) else (spec_l4whom.j0 k l1 true)))
theorem spec_l4whom.mono_l : ∀ k, (∀ y0 y1, LeO (spec_l4whom.j0 k y0 y1) (spec_l4whom.j0 (k + 1) y0 y1)) ∧ (∀ y0 y1 y2, LeO (spec_l4whom.l0 k y0 y1 y2) (spec_l4whom.l0 (k + 1) y0 y1 y2))
  | 0 => ⟨fun _ _ r h => by simp [spec_l4whom.j0] at h, fun _ _ _ r h => by simp [spec_l4whom.l0] at h⟩
  | k + 1 => by
    obtain ⟨ih0, ih1⟩ := spec_l4whom.mono_l k
    refine ⟨?_, ?_⟩
    · intro y0 y1
      unfold spec_l4whom.j0
      repeat' first
      | (with_reducible exact ih0 _ _)
      | (with_reducible exact ih1 _ _ _)
      | (with_reducible exact spec_ValidAddress.mono _ _)
      | (with_reducible exact LeO.refl _)
      | (with_reducible exact LeO.none _)
      | (with_reducible refine LeO.ite ?_ ?_)
      | (with_reducible refine LeO.bind ?_ (fun _ => ?_))
      | exact ih0 _ _
      | exact ih1 _ _ _
      | exact spec_ValidAddress.mono _ _
      | exact LeO.none _
      | refine LeO.ite ?_ ?_
      | refine LeO.bind ?_ (fun _ => ?_)
    · intro y0 y1 y2
      unfold spec_l4whom.l0
      repeat' first
      | (with_reducible exact ih0 _ _)
      | (with_reducible exact ih1 _ _ _)
      | (with_reducible exact spec_ValidAddress.mono _ _)
      | (with_reducible exact LeO.refl _)
      | (with_reducible exact LeO.none _)
      | (with_reducible refine LeO.ite ?_ ?_)
      | (with_reducible refine LeO.bind ?_ (fun _ => ?_))
      | exact ih0 _ _
      | exact ih1 _ _ _
      | exact spec_ValidAddress.mono _ _
      | exact LeO.none _
      | refine LeO.ite ?_ ?_
      | refine LeO.bind ?_ (fun _ => ?_)
theorem spec_l4whom.mono : ∀ a0 a1 k, LeO (spec_l4whom.f k a0 a1) (spec_l4whom.f (k + 1) a0 a1) := by
  intro a0 a1 k
  obtain ⟨ih0, ih1⟩ := spec_l4whom.mono_l k
  unfold spec_l4whom.f
  repeat' first
      | (with_reducible exact ih0 _ _)
      | (with_reducible exact ih1 _ _ _)
      | (with_reducible exact spec_ValidAddress.mono _ _)
      | (with_reducible exact LeO.refl _)
      | (with_reducible exact LeO.none _)
      | (with_reducible refine LeO.ite ?_ ?_)
      | (with_reducible refine LeO.bind ?_ (fun _ => ?_))
      | exact ih0 _ _
      | exact ih1 _ _ _
      | exact spec_ValidAddress.mono _ _
      | exact LeO.none _
      | refine LeO.ite ?_ ?_
      | refine LeO.bind ?_ (fun _ => ?_)
set_option maxHeartbeats 8000000 in
set_option maxRecDepth 100000 in
theorem spec_l4whom.calls (k : Nat) (a0 : ByteArray) (A1 : Option Addr) (c1 : Nat) (l1 : List ByteArray) (r : Bool) (w : World) (hr1 : Kd.C Kd.string w A1 l1.length l1) (hc1 : l1.length ≤ c1) (h : spec_l4whom.f k a0 l1 = some r) :
    Calls Tryd.prog 62 #[.string a0, .slice A1 l1.length c1] w fun e w' => e = .returned (.bool r) ∧ Below w.heap.size w w' := by
  have HR1 := Aside0.mk hr1
  have HC1 := Aside0.mk hc1
  clear hr1 hc1
  have HB := Aside0.mk (Below.refl w.heap.size w)
  have H : (if a0.toList = ([] : List UInt8) then (if (l1.length : Int) < 1 then (spec_l4whom.j0 k l1 true) else (spec_l4whom.j0 k l1 (decide ((l1.length : Int) > 20)))) else ((spec_ValidAddress.f k a0).bind fun t134 => (if t134 = true then (if (l1.length : Int) < 1 then (spec_l4whom.j0 k l1 true) else (spec_l4whom.j0 k l1 (decide ((l1.length : Int) > 20)))) else (spec_l4whom.j0 k l1 true)))) = some r := h
  clear h
  have HC3 := Aside0.mk H
  clear H
  go_enter Tryd.func62, Tryd.ntmps62
  go_upto_region 1 with (fail)
  go_cut [23] (fun v23 wc => ∃ (kq : Nat) (x23_2 : Bool), v23 = .bool x23_2 ∧ Aside0 (spec_l4whom.j0 kq l1 x23_2 = some r) ∧ Aside0 (kq ≤ k) ∧ Aside0 (Below w.heap.size w wc))
  case first =>
    have H := HC3.out
    clear HC3
    by_cases c4 : a0.toList = ([] : List UInt8)
    · rw [if_pos c4] at H
      have c4b0 : (a0.toList == ([] : List UInt8)) = true := beq_iff_eq.mpr c4
      have c4b7 : a0.toList.isEmpty = true := by rw [c4]; rfl
      have c4b1 : (a0.toList != ([] : List UInt8)) = false := bne_eq_false_iff_eq.mpr c4
      clear c4
      (first | rw [c4b0] | rw [c4b7] | (simp only [i64_w, i32_w]; rw [c4b0]) | skip)
      by_cases c5 : (l1.length : Int) < 1
      · rw [if_pos c5] at H
        have c5b0 : decide ((l1.length : Int) < 1) = true := decide_eq_true c5
        have c5b1 : decide (l1.length < 1) = true := decide_eq_true (by omega)
        clear c5
        have H' := Aside0.mk H
        clear H
        go_wp2
        go_meet
        case rel => exact ⟨_, (true), (by first | rfl | (simp; done) | (simp [*]; done)), H', ⟨by first | omega | exact Nat.le_refl _⟩, ⟨bq_⟩⟩
      · rw [if_neg c5] at H
        have c5b0 : decide ((l1.length : Int) < 1) = false := decide_eq_false c5
        have c5b1 : decide (l1.length < 1) = false := decide_eq_false (by omega)
        clear c5
        have H' := Aside0.mk H
        clear H
        go_wp2
        go_meet
        case rel => exact ⟨_, (decide ((l1.length : Int) > 20)), (by first | rfl | (simp; done) | (simp [*]; done)), H', ⟨by first | omega | exact Nat.le_refl _⟩, ⟨bq_⟩⟩
    · rw [if_neg c4] at H
      have c4b0 : (a0.toList == ([] : List UInt8)) = false := beq_eq_false_iff_ne.mpr c4
      have c4b7 : a0.toList.isEmpty = false := by simpa using c4
      have c4b1 : (a0.toList != ([] : List UInt8)) = true := bne_iff_ne.mpr c4
      (first | rw [c4b0] | rw [c4b7] | (simp only [i64_w, i32_w]; rw [c4b0]) | skip)
      replace H := Option.bind_eq_some_iff.mp H
      obtain ⟨t134, A60, H⟩ := H
      replace H : (if t134 = true then (if (l1.length : Int) < 1 then (spec_l4whom.j0 k l1 true) else (spec_l4whom.j0 k l1 (decide ((l1.length : Int) > 20)))) else (spec_l4whom.j0 k l1 true)) = some r := H
      have A6 := Aside0.mk A60
      clear A60
      by_cases c7 : t134 = true
      · subst c7
        have H1 : (if (l1.length : Int) < 1 then (spec_l4whom.j0 k l1 true) else (spec_l4whom.j0 k l1 (decide ((l1.length : Int) > 20)))) = some r := by rw [if_pos rfl] at H; exact H
        clear H
        have H := H1
        clear H1
        by_cases c8 : (l1.length : Int) < 1
        · rw [if_pos c8] at H
          have c8b0 : decide ((l1.length : Int) < 1) = true := decide_eq_true c8
          have c8b1 : decide (l1.length < 1) = true := decide_eq_true (by omega)
          clear c8
          have H' := Aside0.mk H
          clear H
          go_wp2_with (first | (go_at_call 107; (with_reducible refine (spec_ValidAddress.calls k a0 true _ A6.out).mono ?_); rintro e w9 ⟨rfl, hb⟩; have n0_ := Aside0.mk (below_step (bq_) hb); clear HB; have HB := n0_; clear n0_; (try clear hb); (try clear hb2); (try clear hk); (try clear hi)))
          go_meet
          case rel => exact ⟨_, (true), (by first | rfl | (simp; done) | (simp [*]; done)), H', ⟨by first | omega | exact Nat.le_refl _⟩, ⟨bq_⟩⟩
        · rw [if_neg c8] at H
          have c8b0 : decide ((l1.length : Int) < 1) = false := decide_eq_false c8
          have c8b1 : decide (l1.length < 1) = false := decide_eq_false (by omega)
          clear c8
          have H' := Aside0.mk H
          clear H
          go_wp2_with (first | (go_at_call 107; (with_reducible refine (spec_ValidAddress.calls k a0 true _ A6.out).mono ?_); rintro e w10 ⟨rfl, hb⟩; have n0_ := Aside0.mk (below_step (bq_) hb); clear HB; have HB := n0_; clear n0_; (try clear hb); (try clear hb2); (try clear hk); (try clear hi)))
          go_meet
          case rel => exact ⟨_, (decide ((l1.length : Int) > 20)), (by first | rfl | (simp; done) | (simp [*]; done)), H', ⟨by first | omega | exact Nat.le_refl _⟩, ⟨bq_⟩⟩
      · replace c7 := Bool.eq_false_iff.mpr c7
        subst c7
        have H1 : (spec_l4whom.j0 k l1 true) = some r := by rw [if_neg (show ¬ (false = true) by decide)] at H; exact H
        clear H
        have H := H1
        clear H1
        have H' := Aside0.mk H
        clear H
        go_wp2_with (first | (go_at_call 107; (with_reducible refine (spec_ValidAddress.calls k a0 false _ A6.out).mono ?_); rintro e w11 ⟨rfl, hb⟩; have n0_ := Aside0.mk (below_step (bq_) hb); clear HB; have HB := n0_; clear n0_; (try clear hb); (try clear hb2); (try clear hk); (try clear hi)))
        go_meet
        case rel => exact ⟨_, (true), (by first | rfl | (simp; done) | (simp [*]; done)), H', ⟨by first | omega | exact Nat.le_refl _⟩, ⟨bq_⟩⟩
  case rest =>
    clear HC3
    try clear c1
    try clear p2
    try clear c4
    try clear c4b0
    try clear c4b1
    try clear c5
    try clear c5b0
    try clear c5b1
    try clear c6
    try clear c7
    try clear c8
    try clear c8b0
    try clear c8b1
    obtain ⟨kq, x23_2, rfl, HA, HJ2, HB⟩ := hcut
    cases kq with
    | zero => exact absurd HA.out (by simp [spec_l4whom.j0])
    | succ kj2 =>
      have H := HA.out
      clear HA
      simp only [spec_l4whom.j0] at H
      by_cases c12 : x23_2 = true
      · subst c12
        have H1 : (some false) = some r := by rw [if_pos rfl] at H; exact H
        clear H
        have H := H1
        clear H1
        obtain rfl := Option.some.inj H
        go_wp2
        go_ret
        exact ⟨by first | rfl | (simp [errW_none, errW_some] <;> rfl) | (simp [*, errW_none, errW_some] <;> rfl), bq_⟩
      · replace c12 := Bool.eq_false_iff.mpr c12
        subst c12
        have H1 : (spec_l4whom.l0 kj2 l1 (l1.length : Int) 0) = some r := by rw [if_neg (show ¬ (false = true) by decide)] at H; exact H
        clear H
        have H := H1
        clear H1
        have H' := Aside0.mk H
        clear H
        go_wp2
        go_loopg [26] kj2 (fun kq v26 w' => ∃ (x26_2 : Int), v26 = .int .i64 x26_2 ∧ Aside0 (spec_l4whom.l0 kq l1 (l1.length : Int) x26_2 = some r) ∧ Aside0 (kq ≤ kj2) ∧ Aside0 (Below w.heap.size w w'))
        case atStart => exact ⟨(0), (by first | rfl | (simp; done) | (simp [*]; done)), H', ⟨Nat.le_refl _⟩, ⟨bq_⟩⟩
        case round =>
          clear H'
          try clear c1
          try clear p2
          try clear c4
          try clear c4b0
          try clear c4b1
          try clear c5
          try clear c5b0
          try clear c5b1
          try clear c6
          try clear c7
          try clear c8
          try clear c8b0
          try clear c8b1
          try clear c12
          try clear p2
          obtain ⟨x26_2, rfl, HA, HK2, HB⟩ := hrel
          cases gk with
          | zero => exact absurd HA.out (by simp [spec_l4whom.l0])
          | succ k2 =>
            have H := HA.out
            clear HA
            simp only [spec_l4whom.l0] at H
            by_cases c13 : x26_2 < (l1.length : Int)
            · rw [if_pos c13] at H
              have c13b0 : decide (x26_2 < (l1.length : Int)) = true := decide_eq_true c13
              clear c13
              by_cases c14 : 0 ≤ x26_2
              · rw [if_pos c14] at H
                have c14b0 : decide (0 ≤ x26_2) = true := decide_eq_true c14
                clear c14
                by_cases c15 : x26_2 < (l1.length : Int)
                · rw [if_pos c15] at H
                  have c15b0 : decide (x26_2 < (l1.length : Int)) = true := decide_eq_true c15
                  clear c15
                  replace H := Option.bind_eq_some_iff.mp H
                  obtain ⟨t136, A160, H⟩ := H
                  replace H : (if t136 = true then (spec_l4whom.l0 k2 l1 (l1.length : Int) (wrap64 (x26_2 + 1))) else (some false)) = some r := H
                  have A16 := Aside0.mk A160
                  clear A160
                  by_cases c17 : t136 = true
                  · subst c17
                    have H1 : (spec_l4whom.l0 k2 l1 (l1.length : Int) (wrap64 (x26_2 + 1))) = some r := by rw [if_pos rfl] at H; exact H
                    clear H
                    have H := H1
                    clear H1
                    have H' := Aside0.mk H
                    clear H
                    have p135 : 0 ≤ (x26_2 : Int) := of_decide_eq_true (by first | (with_reducible assumption) | assumption)
                    have q135 : x26_2 < (l1.length : Int) := of_decide_eq_true (by first | (with_reducible assumption) | assumption)
                    obtain ⟨ad135, e135, hx135_0⟩ := Kd.at_string HR1.out x26_2 p135 q135
                    cases e135
                    try replace hx135_0 := (HB.out.cell (World.block_lt_of_cell? w _ hx135_0)).trans hx135_0
                    replace p135 := eq_true p135
                    replace q135 := eq_true q135
                    go_wp2_with (first | ((with_reducible refine gate_callee (f := 107) rfl ?_); refine goesL_ (some 31) rfl rfl Tryd.func107 (by kernel_rfl) rfl #[.string (rdOf ByteArray.empty l1 x26_2)] rfl (by (try simp only [List.map_toArray, List.map_cons, List.map_nil]); first | done | rfl | (simp only [List.length_drop, List.length_take]; rfl)) ?_; (with_reducible refine (spec_ValidAddress.calls k2 (rdOf ByteArray.empty l1 x26_2) true _ A16.out).mono ?_); rintro e w18 ⟨rfl, hb⟩; refine ⟨_, rfl, ?_⟩; have n0_ := Aside0.mk (below_step (bq_) hb); clear HB; have HB := n0_; clear n0_; (try clear hb); (try clear hb2); (try clear hk); (try clear hi)))
                    go_roundg k2
                    case measure => have := HJ2.out; have := HK2.out; omega
                    case rel => exact ⟨(wrap64 (x26_2 + 1)), (by first | rfl | (simp; done) | (simp [*]; done)), H', ⟨by have := HJ2.out; have := HK2.out; omega⟩, ⟨bq_⟩⟩
                  · replace c17 := Bool.eq_false_iff.mpr c17
                    subst c17
                    have H1 : (some false) = some r := by rw [if_neg (show ¬ (false = true) by decide)] at H; exact H
                    clear H
                    have H := H1
                    clear H1
                    obtain rfl := Option.some.inj H
                    have p135 : 0 ≤ (x26_2 : Int) := of_decide_eq_true (by first | (with_reducible assumption) | assumption)
                    have q135 : x26_2 < (l1.length : Int) := of_decide_eq_true (by first | (with_reducible assumption) | assumption)
                    obtain ⟨ad135, e135, hx135_0⟩ := Kd.at_string HR1.out x26_2 p135 q135
                    cases e135
                    try replace hx135_0 := (HB.out.cell (World.block_lt_of_cell? w _ hx135_0)).trans hx135_0
                    replace p135 := eq_true p135
                    replace q135 := eq_true q135
                    go_wp2_with (first | ((with_reducible refine gate_callee (f := 107) rfl ?_); refine goesL_ (some 31) rfl rfl Tryd.func107 (by kernel_rfl) rfl #[.string (rdOf ByteArray.empty l1 x26_2)] rfl (by (try simp only [List.map_toArray, List.map_cons, List.map_nil]); first | done | rfl | (simp only [List.length_drop, List.length_take]; rfl)) ?_; (with_reducible refine (spec_ValidAddress.calls k2 (rdOf ByteArray.empty l1 x26_2) false _ A16.out).mono ?_); rintro e w19 ⟨rfl, hb⟩; refine ⟨_, rfl, ?_⟩; have n0_ := Aside0.mk (below_step (bq_) hb); clear HB; have HB := n0_; clear n0_; (try clear hb); (try clear hb2); (try clear hk); (try clear hi)))
                    go_ret
                    exact ⟨by first | rfl | (simp [errW_none, errW_some] <;> rfl) | (simp [*, errW_none, errW_some] <;> rfl), bq_⟩
                · rw [if_neg c15] at H
                  exact absurd H (by simp)
              · rw [if_neg c14] at H
                exact absurd H (by simp)
            · rw [if_neg c13] at H
              have c13b0 : decide (x26_2 < (l1.length : Int)) = false := decide_eq_false c13
              clear c13
              obtain rfl := Option.some.inj H
              go_wp2
              go_ret
              exact ⟨by first | rfl | (simp [errW_none, errW_some] <;> rfl) | (simp [*, errW_none, errW_some] <;> rfl), bq_⟩

/-! ### spec_l2lines: function 50 -/
def spec_l2lines.l0 : Nat → List ByteArray → List ByteArray → Int → Int → Option (List ByteArray × Bool)
  | 0, _, _, _, _ => none
  | k + 1, x4, x24, x25, x26 => if x26 < x25 then (if 0 ≤ x26 then (if x26 < (x24.length : Int) then (if ((rdOf ByteArray.empty x24 x26).size : Int) > 998 then (some (([] : List ByteArray), false)) else ((spec_l2has.f k (rdOf ByteArray.empty x24 x26) 13).bind fun t145 => (if t145 = true then (some (([] : List ByteArray), false)) else ((spec_l2has.f k (rdOf ByteArray.empty x24 x26) 10).bind fun t146 => (if t146 = true then (some (([] : List ByteArray), false)) else ((spec_l2has.f k (rdOf ByteArray.empty x24 x26) 0).bind fun t147 => (if t147 = true then (some (([] : List ByteArray), false)) else (spec_l2lines.l0 k x4 x24 x25 (wrap64 (x26 + 1)))))))))) else (none)) else (none)) else (some (x4, true))
def spec_l2lines.f (k : Nat) (a0 : ByteArray) : Option (List ByteArray × Bool) := if (a0.size : Int) > 3000 then (some (([] : List ByteArray), false)) else ((spec_l2split.f k a0 (⟨#[13, 10]⟩ : ByteArray)).bind fun t137 => (if 0 ≤ (wrap64 ((t137.length : Int) - 1)) then (if (wrap64 ((t137.length : Int) - 1)) < (t137.length : Int) then (if (rdOf ByteArray.empty t137 (wrap64 ((t137.length : Int) - 1))).toList = ([] : List UInt8) then (if (wrap64 ((t137.length : Int) - 1)) ≤ (t137.length : Int) then ((some (t137.take ((wrap64 ((t137.length : Int) - 1)) : Int).toNat : List ByteArray)).bind fun y141 => (spec_l2lines.l0 k y141 y141 (y141.length : Int) 0)) else (none)) else (some (([] : List ByteArray), false))) else (none)) else (none)))
theorem spec_l2lines.mono_l : ∀ k, (∀ y0 y1 y2 y3, LeO (spec_l2lines.l0 k y0 y1 y2 y3) (spec_l2lines.l0 (k + 1) y0 y1 y2 y3))
  | 0 => fun _ _ _ _ r h => by simp [spec_l2lines.l0] at h
  | k + 1 => by
    have ih0 := spec_l2lines.mono_l k
    · intro y0 y1 y2 y3
      unfold spec_l2lines.l0
      repeat' first
      | (with_reducible exact ih0 _ _ _ _)
      | (with_reducible exact spec_l2has.mono _ _ _)
      | (with_reducible exact spec_l2split.mono _ _ _)
      | (with_reducible exact LeO.refl _)
      | (with_reducible exact LeO.none _)
      | (with_reducible refine LeO.ite ?_ ?_)
      | (with_reducible refine LeO.bind ?_ (fun _ => ?_))
      | exact ih0 _ _ _ _
      | exact spec_l2has.mono _ _ _
      | exact spec_l2split.mono _ _ _
      | exact LeO.none _
      | refine LeO.ite ?_ ?_
      | refine LeO.bind ?_ (fun _ => ?_)
theorem spec_l2lines.mono : ∀ a0 k, LeO (spec_l2lines.f k a0) (spec_l2lines.f (k + 1) a0) := by
  intro a0 k
  have ih0 := spec_l2lines.mono_l k
  unfold spec_l2lines.f
  repeat' first
      | (with_reducible exact ih0 _ _ _ _)
      | (with_reducible exact spec_l2has.mono _ _ _)
      | (with_reducible exact spec_l2split.mono _ _ _)
      | (with_reducible exact LeO.refl _)
      | (with_reducible exact LeO.none _)
      | (with_reducible refine LeO.ite ?_ ?_)
      | (with_reducible refine LeO.bind ?_ (fun _ => ?_))
      | exact ih0 _ _ _ _
      | exact spec_l2has.mono _ _ _
      | exact spec_l2split.mono _ _ _
      | exact LeO.none _
      | refine LeO.ite ?_ ?_
      | refine LeO.bind ?_ (fun _ => ?_)
set_option maxHeartbeats 8000000 in
set_option maxRecDepth 100000 in
theorem spec_l2lines.calls (k : Nat) (a0 : ByteArray) (r1 : List ByteArray) (r2 : Bool) (w : World) (h : spec_l2lines.f k a0 = some (r1, r2)) :
    Calls Tryd.prog 50 #[.string a0] w fun e w' => ∃ v0_ : Value, e = .returned (.tuple #[v0_, .bool r2]) ∧ Kd.R Kd.string 9 w' w.heap.size (fun _ => True) v0_ r1 ∧ Below w.heap.size w w' := by
  have HB := Aside0.mk (Below.refl w.heap.size w)
  have H : (if (a0.size : Int) > 3000 then (some (([] : List ByteArray), false)) else ((spec_l2split.f k a0 (⟨#[13, 10]⟩ : ByteArray)).bind fun t137 => (if 0 ≤ (wrap64 ((t137.length : Int) - 1)) then (if (wrap64 ((t137.length : Int) - 1)) < (t137.length : Int) then (if (rdOf ByteArray.empty t137 (wrap64 ((t137.length : Int) - 1))).toList = ([] : List UInt8) then (if (wrap64 ((t137.length : Int) - 1)) ≤ (t137.length : Int) then ((some (t137.take ((wrap64 ((t137.length : Int) - 1)) : Int).toNat : List ByteArray)).bind fun y141 => (spec_l2lines.l0 k y141 y141 (y141.length : Int) 0)) else (none)) else (some (([] : List ByteArray), false))) else (none)) else (none)))) = some (r1, r2) := h
  clear h
  by_cases c2 : (a0.size : Int) > 3000
  · rw [if_pos c2] at H
    have c2b0 : decide (3000 < (a0.size : Int)) = true := decide_eq_true c2
    have c2b1 : decide (3000 < a0.size) = true := decide_eq_true (by omega)
    clear c2
    simp only [Option.some.injEq, Prod.mk.injEq] at H
    obtain ⟨rfl, rfl⟩ := H
    go_enter Tryd.func50, Tryd.ntmps50
    go_wp2
    go_ret2
    exact ⟨_, by first | rfl | (simp [errW_none, errW_some] <;> rfl) | (simp [*, errW_none, errW_some] <;> rfl), by first | exact Kd.R_nil _ _ _ _ _ | exact Kd.N_nil _ _ _ _ _ | exact Kd.V_nil _ _ _ _ _ | exact Kd.Q_nil _ _ _ _ _ | exact Kd.S_nil _ _ _ _ _, bq_⟩
  · rw [if_neg c2] at H
    have c2b0 : decide (3000 < (a0.size : Int)) = false := decide_eq_false c2
    have c2b1 : decide (3000 < a0.size) = false := decide_eq_false (by omega)
    clear c2
    replace H := Option.bind_eq_some_iff.mp H
    obtain ⟨t137, A30, H⟩ := H
    replace H : (if 0 ≤ (wrap64 ((t137.length : Int) - 1)) then (if (wrap64 ((t137.length : Int) - 1)) < (t137.length : Int) then (if (rdOf ByteArray.empty t137 (wrap64 ((t137.length : Int) - 1))).toList = ([] : List UInt8) then (if (wrap64 ((t137.length : Int) - 1)) ≤ (t137.length : Int) then ((some (t137.take ((wrap64 ((t137.length : Int) - 1)) : Int).toNat : List ByteArray)).bind fun y141 => (spec_l2lines.l0 k y141 y141 (y141.length : Int) 0)) else (none)) else (some (([] : List ByteArray), false))) else (none)) else (none)) = some (r1, r2) := H
    have A3 := Aside0.mk A30
    clear A30
    obtain ⟨ji4, hji4⟩ : ∃ j_ : Int, (wrap64 ((t137.length : Int) - 1)) = j_ := ⟨_, rfl⟩
    replace H : (if 0 ≤ (ji4) then (if (ji4) < (t137.length : Int) then (if (rdOf ByteArray.empty t137 (ji4)).toList = ([] : List UInt8) then (if (ji4) ≤ (t137.length : Int) then ((some (t137.take ((ji4) : Int).toNat : List ByteArray)).bind fun y141 => (spec_l2lines.l0 k y141 y141 (y141.length : Int) 0)) else (none)) else (some (([] : List ByteArray), false))) else (none)) else (none)) = some (r1, r2) := by first | (rw [hji4] at H; exact H) | (simp only [hji4] at H ⊢; exact H)
    (try rw [hji4] at A3)
    have hji4w : (IntKind.i64.wrap ((t137.length : Int) - 1)) = ji4 := (i64_w _).trans hji4
    by_cases c5 : 0 ≤ (ji4)
    · rw [if_pos c5] at H
      have c5b0 : decide (0 ≤ (ji4)) = true := decide_eq_true c5
      clear c5
      by_cases c6 : (ji4) < (t137.length : Int)
      · rw [if_pos c6] at H
        have c6b0 : decide ((ji4) < (t137.length : Int)) = true := decide_eq_true c6
        clear c6
        by_cases c7 : (rdOf ByteArray.empty t137 (ji4)).toList = ([] : List UInt8)
        · rw [if_pos c7] at H
          have c7b0 : ((rdOf ByteArray.empty t137 (ji4)).toList == ([] : List UInt8)) = true := beq_iff_eq.mpr c7
          have c7b1 : ((rdOf ByteArray.empty t137 (ji4)).toList != ([] : List UInt8)) = false := bne_eq_false_iff_eq.mpr c7
          clear c7
          by_cases c8 : (ji4) ≤ (t137.length : Int)
          · rw [if_pos c8] at H
            have c8b0 := eq_true c8
            have c8b1 : decide ((ji4) ≤ (t137.length : Int)) = true := decide_eq_true c8
            clear c8
            obtain ⟨y141, hy141⟩ : ∃ y_ : List ByteArray, y_ = (t137.take ((ji4) : Int).toNat) := ⟨_, rfl⟩
            replace H : (spec_l2lines.l0 k y141 y141 (y141.length : Int) 0) = some (r1, r2) := by first | (rw [hy141]; with_reducible exact H) | (have H2_ := (Option.bind_some _ _).symm.trans H; rw [hy141]; with_reducible exact H2_) | (have H2_ := (Option.bind_some _ _).symm.trans H; with_reducible exact H2_) | with_reducible exact H | (rw [hy141]; exact H) | exact H
            have Ny141 := Aside0.mk hy141
            clear hy141
            have H' := Aside0.mk H
            clear H
            go_enter Tryd.func50, Tryd.ntmps50
            go_wp2_with (first | ((with_reducible refine gate_callee (f := 54) rfl ?_); refine goesL_ (some 11) rfl rfl Tryd.func54 (by kernel_rfl) rfl #[.string a0, .string (⟨#[13, 10]⟩ : ByteArray)] rfl (by (try simp only [List.map_toArray, List.map_cons, List.map_nil]); first | done | rfl | (simp only [List.length_drop, List.length_take]; rfl)) ?_; (with_reducible refine (spec_l2split.calls k a0 (⟨#[13, 10]⟩ : ByteArray) t137 _ A3.out).mono ?_); rintro e w9 ⟨v138, rfl, ho0, hb⟩; refine ⟨_, rfl, ?_⟩; have n0_ := Aside0.mk (Kd.R_lower ho0 (below_size (bq_))); have n1_ := Aside0.mk (below_step (bq_) hb); clear HB; have HO139 := n0_; have HB := n1_; clear n0_ n1_; (try clear hb); (try clear hb2); (try clear hk); (try clear hi); (try clear ho0); obtain ⟨Ao10, co10, eo10⟩ := Kd.R_slice HO139.out; subst eo10; have p140 : 0 ≤ ((ji4) : Int) := of_decide_eq_true (by first | (with_reducible assumption) | assumption); have q140 : (ji4) < (t137.length : Int) := of_decide_eq_true (by first | (with_reducible assumption) | assumption); obtain ⟨ad140, e140, hx140_0⟩ := Kd.at_string (Kd.R_reads' HO139.out).2.2 (ji4) p140 q140; cases e140; replace p140 := eq_true p140; replace q140 := eq_true q140; have q11 : ((ji4) : Int) ≤ ((t137.length : Int) : Int) := of_decide_eq_true (by first | (with_reducible assumption) | assumption); obtain ⟨i011, hi011, _, hsz11, _⟩ := info_parts info9; have hcut11 := cut_to (P := Tryd.prog) 30 9 .i64 Tryd.underlying30 hi011 (some ad140) t137.length co10 (ji4) (of_decide_eq_true (by first | (with_reducible assumption) | assumption)) q11 (Kd.R_reads' HO139.out).2.1; have hr11 := Kd.R_take (m := ((ji4) : Int).toNat) HO139.out (by omega); have hy11 : y141.length = ((ji4) : Int).toNat := (by rw [Ny141.out, List.length_take]; omega); rw [← Ny141.out] at hr11; rw [← hy11] at hr11 hcut11; clear hy11 hi011 hsz11 HO139; have HO143 := Aside0.mk hr11; clear hr11; replace q11 := eq_true q11))
            go_loopg [26] k (fun kq v26 w' => ∃ (x26_1 : Int), v26 = .int .i64 x26_1 ∧ Aside0 (spec_l2lines.l0 kq y141 y141 (y141.length : Int) x26_1 = some (r1, r2)) ∧ Aside0 (kq ≤ k) ∧ Aside0 (Kd.R Kd.string 9 w' w.heap.size (fun _ => True) (.slice (some ad140) y141.length co10) y141) ∧ Aside0 (Kd.R Kd.string 9 w' w.heap.size (fun _ => True) (.slice (some ad140) y141.length co10) y141) ∧ Aside0 (Below w.heap.size w w'))
            case atStart => exact ⟨(0), (by first | rfl | (simp; done) | (simp [*]; done)), H', ⟨Nat.le_refl _⟩, ⟨by (with_reducible repeat (first | apply Kd.R_alloc | apply Kd.R_drewN | apply Kd.R_drew)); exact HO143.out⟩, ⟨by (with_reducible repeat (first | apply Kd.R_alloc | apply Kd.R_drewN | apply Kd.R_drew)); exact HO143.out⟩, ⟨bq_⟩⟩
            case round =>
              clear H'
              try clear p1
              try clear q1
              try clear hx1
              try clear c2
              try clear c2b0
              try clear c2b1
              try clear p2
              try clear c5
              try clear c5b0
              try clear c6
              try clear c6b0
              try clear p6
              try clear c7
              try clear c7b0
              try clear c7b1
              try clear c8
              try clear c8b0
              try clear c8b1
              try clear q11
              try clear hx140_0
              try clear p140
              try clear q11
              try clear q140
              obtain ⟨x26_1, rfl, HA, HK1, HO_4, HO_24, HB⟩ := hrel
              cases gk with
              | zero => exact absurd HA.out (by simp [spec_l2lines.l0])
              | succ k1 =>
                have H := HA.out
                clear HA
                simp only [spec_l2lines.l0] at H
                by_cases c12 : x26_1 < (y141.length : Int)
                · rw [if_pos c12] at H
                  have c12b0 : decide (x26_1 < (y141.length : Int)) = true := decide_eq_true c12
                  clear c12
                  by_cases c13 : 0 ≤ x26_1
                  · rw [if_pos c13] at H
                    have c13b0 : decide (0 ≤ x26_1) = true := decide_eq_true c13
                    clear c13
                    by_cases c14 : x26_1 < (y141.length : Int)
                    · rw [if_pos c14] at H
                      have c14b0 : decide (x26_1 < (y141.length : Int)) = true := decide_eq_true c14
                      clear c14
                      by_cases c15 : ((rdOf ByteArray.empty y141 x26_1).size : Int) > 998
                      · rw [if_pos c15] at H
                        have c15b0 : decide (998 < ((rdOf ByteArray.empty y141 x26_1).size : Int)) = true := decide_eq_true c15
                        have c15b1 : decide (998 < (rdOf ByteArray.empty y141 x26_1).size) = true := decide_eq_true (by omega)
                        clear c15
                        simp only [Option.some.injEq, Prod.mk.injEq] at H
                        obtain ⟨rfl, rfl⟩ := H
                        have p144 : 0 ≤ (x26_1 : Int) := of_decide_eq_true (by first | (with_reducible assumption) | assumption)
                        have q144 : x26_1 < (y141.length : Int) := of_decide_eq_true (by first | (with_reducible assumption) | assumption)
                        obtain ⟨ad144, e144, hx144_0⟩ := Kd.at_string (Kd.R_reads' HO_24.out).2.2 x26_1 p144 q144
                        obtain rfl : ad140 = ad144 := (by injection e144)
                        replace p144 := eq_true p144
                        replace q144 := eq_true q144
                        go_wp2
                        go_ret2
                        exact ⟨_, by first | rfl | (simp [errW_none, errW_some] <;> rfl) | (simp only [← hji4]; first | rfl | (simp [errW_none, errW_some] <;> rfl)) | (simp [*, errW_none, errW_some] <;> rfl), by first | exact Kd.R_nil _ _ _ _ _ | exact Kd.N_nil _ _ _ _ _ | exact Kd.V_nil _ _ _ _ _ | exact Kd.Q_nil _ _ _ _ _ | exact Kd.S_nil _ _ _ _ _, bq_⟩
                      · rw [if_neg c15] at H
                        have c15b0 : decide (998 < ((rdOf ByteArray.empty y141 x26_1).size : Int)) = false := decide_eq_false c15
                        have c15b1 : decide (998 < (rdOf ByteArray.empty y141 x26_1).size) = false := decide_eq_false (by omega)
                        clear c15
                        replace H := Option.bind_eq_some_iff.mp H
                        obtain ⟨t145, A160, H⟩ := H
                        replace H : (if t145 = true then (some (([] : List ByteArray), false)) else ((spec_l2has.f k1 (rdOf ByteArray.empty y141 x26_1) 10).bind fun t146 => (if t146 = true then (some (([] : List ByteArray), false)) else ((spec_l2has.f k1 (rdOf ByteArray.empty y141 x26_1) 0).bind fun t147 => (if t147 = true then (some (([] : List ByteArray), false)) else (spec_l2lines.l0 k1 y141 y141 (y141.length : Int) (wrap64 (x26_1 + 1)))))))) = some (r1, r2) := H
                        have A16 := Aside0.mk A160
                        clear A160
                        by_cases c17 : t145 = true
                        · subst c17
                          have H1 : (some (([] : List ByteArray), false)) = some (r1, r2) := by rw [if_pos rfl] at H; exact H
                          clear H
                          have H := H1
                          clear H1
                          simp only [Option.some.injEq, Prod.mk.injEq] at H
                          obtain ⟨rfl, rfl⟩ := H
                          have p144 : 0 ≤ (x26_1 : Int) := of_decide_eq_true (by first | (with_reducible assumption) | assumption)
                          have q144 : x26_1 < (y141.length : Int) := of_decide_eq_true (by first | (with_reducible assumption) | assumption)
                          obtain ⟨ad144, e144, hx144_0⟩ := Kd.at_string (Kd.R_reads' HO_24.out).2.2 x26_1 p144 q144
                          obtain rfl : ad140 = ad144 := (by injection e144)
                          replace p144 := eq_true p144
                          replace q144 := eq_true q144
                          go_wp2_with (first | (go_at_call 80; (with_reducible refine (spec_l2has.calls k1 (rdOf ByteArray.empty y141 x26_1) 13 true _ A16.out).mono ?_); rintro e w' ⟨rfl, ⟨nd, rfl⟩⟩))
                          go_ret2
                          exact ⟨_, by first | rfl | (simp [errW_none, errW_some] <;> rfl) | (simp only [← hji4]; first | rfl | (simp [errW_none, errW_some] <;> rfl)) | (simp [*, errW_none, errW_some] <;> rfl), by first | exact Kd.R_nil _ _ _ _ _ | exact Kd.N_nil _ _ _ _ _ | exact Kd.V_nil _ _ _ _ _ | exact Kd.Q_nil _ _ _ _ _ | exact Kd.S_nil _ _ _ _ _, bq_⟩
                        · replace c17 := Bool.eq_false_iff.mpr c17
                          subst c17
                          have H1 : ((spec_l2has.f k1 (rdOf ByteArray.empty y141 x26_1) 10).bind fun t146 => (if t146 = true then (some (([] : List ByteArray), false)) else ((spec_l2has.f k1 (rdOf ByteArray.empty y141 x26_1) 0).bind fun t147 => (if t147 = true then (some (([] : List ByteArray), false)) else (spec_l2lines.l0 k1 y141 y141 (y141.length : Int) (wrap64 (x26_1 + 1))))))) = some (r1, r2) := by rw [if_neg (show ¬ (false = true) by decide)] at H; exact H
                          clear H
                          have H := H1
                          clear H1
                          replace H := Option.bind_eq_some_iff.mp H
                          obtain ⟨t146, A180, H⟩ := H
                          replace H : (if t146 = true then (some (([] : List ByteArray), false)) else ((spec_l2has.f k1 (rdOf ByteArray.empty y141 x26_1) 0).bind fun t147 => (if t147 = true then (some (([] : List ByteArray), false)) else (spec_l2lines.l0 k1 y141 y141 (y141.length : Int) (wrap64 (x26_1 + 1)))))) = some (r1, r2) := H
                          have A18 := Aside0.mk A180
                          clear A180
                          by_cases c19 : t146 = true
                          · subst c19
                            have H1 : (some (([] : List ByteArray), false)) = some (r1, r2) := by rw [if_pos rfl] at H; exact H
                            clear H
                            have H := H1
                            clear H1
                            simp only [Option.some.injEq, Prod.mk.injEq] at H
                            obtain ⟨rfl, rfl⟩ := H
                            have p144 : 0 ≤ (x26_1 : Int) := of_decide_eq_true (by first | (with_reducible assumption) | assumption)
                            have q144 : x26_1 < (y141.length : Int) := of_decide_eq_true (by first | (with_reducible assumption) | assumption)
                            obtain ⟨ad144, e144, hx144_0⟩ := Kd.at_string (Kd.R_reads' HO_24.out).2.2 x26_1 p144 q144
                            obtain rfl : ad140 = ad144 := (by injection e144)
                            replace p144 := eq_true p144
                            replace q144 := eq_true q144
                            go_wp2_with (first | (go_at_call 80; (with_reducible refine (spec_l2has.calls k1 (rdOf ByteArray.empty y141 x26_1) 13 false _ A16.out).mono ?_); rintro e w' ⟨rfl, ⟨nd, rfl⟩⟩) | (go_at_call 80; (with_reducible refine (spec_l2has.calls k1 (rdOf ByteArray.empty y141 x26_1) 10 true _ A18.out).mono ?_); rintro e w' ⟨rfl, ⟨nd, rfl⟩⟩))
                            go_ret2
                            exact ⟨_, by first | rfl | (simp [errW_none, errW_some] <;> rfl) | (simp only [← hji4]; first | rfl | (simp [errW_none, errW_some] <;> rfl)) | (simp [*, errW_none, errW_some] <;> rfl), by first | exact Kd.R_nil _ _ _ _ _ | exact Kd.N_nil _ _ _ _ _ | exact Kd.V_nil _ _ _ _ _ | exact Kd.Q_nil _ _ _ _ _ | exact Kd.S_nil _ _ _ _ _, bq_⟩
                          · replace c19 := Bool.eq_false_iff.mpr c19
                            subst c19
                            have H1 : ((spec_l2has.f k1 (rdOf ByteArray.empty y141 x26_1) 0).bind fun t147 => (if t147 = true then (some (([] : List ByteArray), false)) else (spec_l2lines.l0 k1 y141 y141 (y141.length : Int) (wrap64 (x26_1 + 1))))) = some (r1, r2) := by rw [if_neg (show ¬ (false = true) by decide)] at H; exact H
                            clear H
                            have H := H1
                            clear H1
                            replace H := Option.bind_eq_some_iff.mp H
                            obtain ⟨t147, A200, H⟩ := H
                            replace H : (if t147 = true then (some (([] : List ByteArray), false)) else (spec_l2lines.l0 k1 y141 y141 (y141.length : Int) (wrap64 (x26_1 + 1)))) = some (r1, r2) := H
                            have A20 := Aside0.mk A200
                            clear A200
                            by_cases c21 : t147 = true
                            · subst c21
                              have H1 : (some (([] : List ByteArray), false)) = some (r1, r2) := by rw [if_pos rfl] at H; exact H
                              clear H
                              have H := H1
                              clear H1
                              simp only [Option.some.injEq, Prod.mk.injEq] at H
                              obtain ⟨rfl, rfl⟩ := H
                              have p144 : 0 ≤ (x26_1 : Int) := of_decide_eq_true (by first | (with_reducible assumption) | assumption)
                              have q144 : x26_1 < (y141.length : Int) := of_decide_eq_true (by first | (with_reducible assumption) | assumption)
                              obtain ⟨ad144, e144, hx144_0⟩ := Kd.at_string (Kd.R_reads' HO_24.out).2.2 x26_1 p144 q144
                              obtain rfl : ad140 = ad144 := (by injection e144)
                              replace p144 := eq_true p144
                              replace q144 := eq_true q144
                              go_wp2_with (first | (go_at_call 80; (with_reducible refine (spec_l2has.calls k1 (rdOf ByteArray.empty y141 x26_1) 13 false _ A16.out).mono ?_); rintro e w' ⟨rfl, ⟨nd, rfl⟩⟩) | (go_at_call 80; (with_reducible refine (spec_l2has.calls k1 (rdOf ByteArray.empty y141 x26_1) 10 false _ A18.out).mono ?_); rintro e w' ⟨rfl, ⟨nd, rfl⟩⟩) | (go_at_call 80; (with_reducible refine (spec_l2has.calls k1 (rdOf ByteArray.empty y141 x26_1) 0 true _ A20.out).mono ?_); rintro e w' ⟨rfl, ⟨nd, rfl⟩⟩))
                              go_ret2
                              exact ⟨_, by first | rfl | (simp [errW_none, errW_some] <;> rfl) | (simp only [← hji4]; first | rfl | (simp [errW_none, errW_some] <;> rfl)) | (simp [*, errW_none, errW_some] <;> rfl), by first | exact Kd.R_nil _ _ _ _ _ | exact Kd.N_nil _ _ _ _ _ | exact Kd.V_nil _ _ _ _ _ | exact Kd.Q_nil _ _ _ _ _ | exact Kd.S_nil _ _ _ _ _, bq_⟩
                            · replace c21 := Bool.eq_false_iff.mpr c21
                              subst c21
                              have H1 : (spec_l2lines.l0 k1 y141 y141 (y141.length : Int) (wrap64 (x26_1 + 1))) = some (r1, r2) := by rw [if_neg (show ¬ (false = true) by decide)] at H; exact H
                              clear H
                              have H := H1
                              clear H1
                              have H' := Aside0.mk H
                              clear H
                              have p144 : 0 ≤ (x26_1 : Int) := of_decide_eq_true (by first | (with_reducible assumption) | assumption)
                              have q144 : x26_1 < (y141.length : Int) := of_decide_eq_true (by first | (with_reducible assumption) | assumption)
                              obtain ⟨ad144, e144, hx144_0⟩ := Kd.at_string (Kd.R_reads' HO_24.out).2.2 x26_1 p144 q144
                              obtain rfl : ad140 = ad144 := (by injection e144)
                              replace p144 := eq_true p144
                              replace q144 := eq_true q144
                              go_wp2_with (first | (go_at_call 80; (with_reducible refine (spec_l2has.calls k1 (rdOf ByteArray.empty y141 x26_1) 13 false _ A16.out).mono ?_); rintro e w' ⟨rfl, ⟨nd, rfl⟩⟩) | (go_at_call 80; (with_reducible refine (spec_l2has.calls k1 (rdOf ByteArray.empty y141 x26_1) 10 false _ A18.out).mono ?_); rintro e w' ⟨rfl, ⟨nd, rfl⟩⟩) | (go_at_call 80; (with_reducible refine (spec_l2has.calls k1 (rdOf ByteArray.empty y141 x26_1) 0 false _ A20.out).mono ?_); rintro e w' ⟨rfl, ⟨nd, rfl⟩⟩))
                              go_roundg k1
                              case measure => have := HK1.out; omega
                              case rel => exact ⟨(wrap64 (x26_1 + 1)), (by first | rfl | (simp; done) | (simp [*]; done)), H', ⟨by have := HK1.out; omega⟩, ⟨by (with_reducible repeat (first | apply Kd.R_alloc | apply Kd.R_drewN | apply Kd.R_drew)); exact HO_4.out⟩, ⟨by (with_reducible repeat (first | apply Kd.R_alloc | apply Kd.R_drewN | apply Kd.R_drew)); exact HO_24.out⟩, ⟨bq_⟩⟩
                    · rw [if_neg c14] at H
                      exact absurd H (by simp)
                  · rw [if_neg c13] at H
                    exact absurd H (by simp)
                · rw [if_neg c12] at H
                  have c12b0 : decide (x26_1 < (y141.length : Int)) = false := decide_eq_false c12
                  clear c12
                  simp only [Option.some.injEq, Prod.mk.injEq] at H
                  obtain ⟨rfl, rfl⟩ := H
                  go_wp2
                  go_ret2
                  exact ⟨_, by first | rfl | (simp [errW_none, errW_some] <;> rfl) | (simp only [← hji4]; first | rfl | (simp [errW_none, errW_some] <;> rfl)) | (simp [*, errW_none, errW_some] <;> rfl), by (with_reducible repeat (first | apply Kd.R_alloc | apply Kd.R_drewN | apply Kd.R_drew)); exact HO_4.out, bq_⟩
          · rw [if_neg c8] at H
            exact absurd H (by simp)
        · rw [if_neg c7] at H
          have c7b0 : ((rdOf ByteArray.empty t137 (ji4)).toList == ([] : List UInt8)) = false := beq_eq_false_iff_ne.mpr c7
          have c7b1 : ((rdOf ByteArray.empty t137 (ji4)).toList != ([] : List UInt8)) = true := bne_iff_ne.mpr c7
          simp only [Option.some.injEq, Prod.mk.injEq] at H
          obtain ⟨rfl, rfl⟩ := H
          go_enter Tryd.func50, Tryd.ntmps50
          go_wp2_with (first | ((with_reducible refine gate_callee (f := 54) rfl ?_); refine goesL_ (some 11) rfl rfl Tryd.func54 (by kernel_rfl) rfl #[.string a0, .string (⟨#[13, 10]⟩ : ByteArray)] rfl (by (try simp only [List.map_toArray, List.map_cons, List.map_nil]); first | done | rfl | (simp only [List.length_drop, List.length_take]; rfl)) ?_; (with_reducible refine (spec_l2split.calls k a0 (⟨#[13, 10]⟩ : ByteArray) t137 _ A3.out).mono ?_); rintro e w22 ⟨v138, rfl, ho0, hb⟩; refine ⟨_, rfl, ?_⟩; have n0_ := Aside0.mk (Kd.R_lower ho0 (below_size (bq_))); have n1_ := Aside0.mk (below_step (bq_) hb); clear HB; have HO139 := n0_; have HB := n1_; clear n0_ n1_; (try clear hb); (try clear hb2); (try clear hk); (try clear hi); (try clear ho0); obtain ⟨Ao23, co23, eo23⟩ := Kd.R_slice HO139.out; subst eo23; have p140 : 0 ≤ ((ji4) : Int) := of_decide_eq_true (by first | (with_reducible assumption) | assumption); have q140 : (ji4) < (t137.length : Int) := of_decide_eq_true (by first | (with_reducible assumption) | assumption); obtain ⟨ad140, e140, hx140_0⟩ := Kd.at_string (Kd.R_reads' HO139.out).2.2 (ji4) p140 q140; cases e140; replace p140 := eq_true p140; replace q140 := eq_true q140))
          go_ret2
          exact ⟨_, by first | rfl | (simp [errW_none, errW_some] <;> rfl) | (simp only [← hji4]; first | rfl | (simp [errW_none, errW_some] <;> rfl)) | (simp [*, errW_none, errW_some] <;> rfl), by first | exact Kd.R_nil _ _ _ _ _ | exact Kd.N_nil _ _ _ _ _ | exact Kd.V_nil _ _ _ _ _ | exact Kd.Q_nil _ _ _ _ _ | exact Kd.S_nil _ _ _ _ _, bq_⟩
      · rw [if_neg c6] at H
        exact absurd H (by simp)
    · rw [if_neg c5] at H
      exact absurd H (by simp)

/-! ### spec_ValidBody: function 63 -/
def spec_ValidBody.f (k : Nat) (a0 : ByteArray) : Option (Bool) := (spec_l2lines.f k a0).bind fun bt148 => (some bt148.2)
theorem spec_ValidBody.mono : ∀ a0 k, LeO (spec_ValidBody.f k a0) (spec_ValidBody.f (k + 1) a0) := by
  intro a0 k
  unfold spec_ValidBody.f
  repeat' first
      | (with_reducible exact spec_l2lines.mono _ _)
      | (with_reducible exact LeO.refl _)
      | (with_reducible exact LeO.none _)
      | (with_reducible refine LeO.ite ?_ ?_)
      | (with_reducible refine LeO.bind ?_ (fun _ => ?_))
      | exact spec_l2lines.mono _ _
      | exact LeO.none _
      | refine LeO.ite ?_ ?_
      | refine LeO.bind ?_ (fun _ => ?_)
set_option maxHeartbeats 8000000 in
set_option maxRecDepth 100000 in
theorem spec_ValidBody.calls (k : Nat) (a0 : ByteArray) (r : Bool) (w : World) (h : spec_ValidBody.f k a0 = some r) :
    Calls Tryd.prog 63 #[.string a0] w fun e w' => e = .returned (.bool r) ∧ Below w.heap.size w w' := by
  have HB := Aside0.mk (Below.refl w.heap.size w)
  have H : ((spec_l2lines.f k a0).bind fun bt148 => (some bt148.2)) = some r := h
  clear h
  replace H := Option.bind_eq_some_iff.mp H
  obtain ⟨⟨t148, t149⟩, A20, H⟩ := H
  replace H : (some t149) = some r := H
  have A2 := Aside0.mk A20
  clear A20
  obtain rfl := Option.some.inj H
  go_enter Tryd.func63, Tryd.ntmps63
  go_wp2_with (first | ((with_reducible refine gate_callee (f := 50) rfl ?_); refine goesL_ (some 7) rfl rfl Tryd.func50 (by kernel_rfl) rfl #[.string a0] rfl (by (try simp only [List.map_toArray, List.map_cons, List.map_nil]); first | done | rfl | (simp only [List.length_drop, List.length_take]; rfl)) ?_; (with_reducible refine (spec_l2lines.calls k a0 t148 t149 _ A2.out).mono ?_); rintro e w3 ⟨v150, rfl, ho0, hb⟩; refine ⟨_, rfl, ?_⟩; have n0_ := Aside0.mk (Kd.R_lower ho0 (below_size (bq_))); have n1_ := Aside0.mk (below_step (bq_) hb); clear HB; have HO151 := n0_; have HB := n1_; clear n0_ n1_; (try clear hb); (try clear hb2); (try clear hk); (try clear hi); (try clear ho0)))
  go_ret
  exact ⟨by first | rfl | (simp [errW_none, errW_some] <;> rfl) | (simp [*, errW_none, errW_some] <;> rfl), bq_⟩

end Go.Proofs.YtnhhbdhkhdbanaaDoor.X
