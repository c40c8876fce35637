-- Written by a program of this session (wip/tools/xprint.py, over the kit's printer) out of the translation.
import Derived.Test.YtnhhbdhkhdbanaaDoorOX0
import Derived.Test.YtnhhbdhkhdbanaaDoorOX5
import Derived.Test.YtnhhbdhkhdbanaaDoorOX7
import Derived.Test.YtnhhbdhkhdbanaaDoorOGStr
import Derived.Test.YtnhhbdhkhdbanaaDoorOGAll
import Derived.Test.YtnhhbdhkhdbanaaDoorOGlob
namespace Go.Proofs.YtnhhbdhkhdbanaaDoor.X
open Go.RowKit Go.Proofs.YtnhhbdhkhdbanaaDoorW.PrintWords Go.Proofs.YtnhhbdhkhdbanaaDoorW.PrintLast Go.Proofs.YtnhhbdhkhdbanaaDoorW.PrintMore
attribute [local go_sem] max2_int min2_int max_two min_two max_three min_three max_four min_four   -- for this text's walks alone
set_option linter.unusedVariables false
set_option linter.unusedSimpArgs false

/-! ### impl_ValidAddress: function 109 -/
def impl_ValidAddress.j0 : Nat → ByteArray → Bool → Option (Bool)
  | 0, _, _ => none
  | k + 1, x3, x34 => if x34 = true then (some false) else ((impl_all_impl_ValidAddress_1.f x3).bind fun t194 => (if t194 = true then (if 0 < (x3.size : Int) then (if (bt x3 0) = 46 then (some false) else (if 0 ≤ (wrap64 ((x3.size : Int) - 1)) then (if (wrap64 ((x3.size : Int) - 1)) < (x3.size : Int) then (if (bt x3 (wrap64 ((x3.size : Int) - 1))) = 46 then (some false) else ((strings_Contains.f x3 (⟨#[46, 46]⟩ : ByteArray)).bind fun t195 => (some (!t195)))) else (none)) else (none))) else (none)) else (some false)))
def impl_ValidAddress.f (k : Nat) (a0 : ByteArray) : Option (Bool) := (strings_Cut.f a0 (⟨#[64]⟩ : ByteArray)).bind fun bt190 => (if bt190.2.2 = true then (if (a0.size : Int) > 160 then (impl_ValidAddress.j0 k bt190.1 true) else ((impl_ValidDomain.f k bt190.2.1).bind fun t193 => (if t193 = true then (if (bt190.1.size : Int) < 1 then (impl_ValidAddress.j0 k bt190.1 true) else (impl_ValidAddress.j0 k bt190.1 (decide ((bt190.1.size : Int) > 64)))) else (impl_ValidAddress.j0 k bt190.1 true)))) else (impl_ValidAddress.j0 k bt190.1 true))
theorem impl_ValidAddress.mono_l : ∀ k, (∀ y0 y1, LeO (impl_ValidAddress.j0 k y0 y1) (impl_ValidAddress.j0 (k + 1) y0 y1))
  | 0 => fun _ _ r h => by simp [impl_ValidAddress.j0] at h
  | k + 1 => by
    have ih0 := impl_ValidAddress.mono_l k
    · intro y0 y1
      unfold impl_ValidAddress.j0
      repeat' first
      | (with_reducible exact ih0 _ _)
      | (with_reducible exact impl_ValidDomain.mono _ _)
      | (with_reducible exact LeO.refl _)
      | (with_reducible exact LeO.none _)
      | (with_reducible refine LeO.ite ?_ ?_)
      | (with_reducible refine LeO.bind ?_ (fun _ => ?_))
      | exact ih0 _ _
      | exact impl_ValidDomain.mono _ _
      | exact LeO.none _
      | refine LeO.ite ?_ ?_
      | refine LeO.bind ?_ (fun _ => ?_)
theorem impl_ValidAddress.mono : ∀ a0 k, LeO (impl_ValidAddress.f k a0) (impl_ValidAddress.f (k + 1) a0) := by
  intro a0 k
  have ih0 := impl_ValidAddress.mono_l k
  unfold impl_ValidAddress.f
  repeat' first
      | (with_reducible exact ih0 _ _)
      | (with_reducible exact impl_ValidDomain.mono _ _)
      | (with_reducible exact LeO.refl _)
      | (with_reducible exact LeO.none _)
      | (with_reducible refine LeO.ite ?_ ?_)
      | (with_reducible refine LeO.bind ?_ (fun _ => ?_))
      | exact ih0 _ _
      | exact impl_ValidDomain.mono _ _
      | exact LeO.none _
      | refine LeO.ite ?_ ?_
      | refine LeO.bind ?_ (fun _ => ?_)
set_option maxHeartbeats 8000000 in
set_option maxRecDepth 100000 in
theorem impl_ValidAddress.calls (k : Nat) (a0 : ByteArray) (r : Bool) (w : World) (hGM : GlM w) (h : impl_ValidAddress.f k a0 = some r) :
    Calls Tryd.prog 109 #[.string a0] w fun e w' => e = .returned (.bool r) ∧ Below w.heap.size w w' := by
  have HB := Aside0.mk (Below.refl w.heap.size w)
  have H : ((strings_Cut.f a0 (⟨#[64]⟩ : ByteArray)).bind fun bt190 => (if bt190.2.2 = true then (if (a0.size : Int) > 160 then (impl_ValidAddress.j0 k bt190.1 true) else ((impl_ValidDomain.f k bt190.2.1).bind fun t193 => (if t193 = true then (if (bt190.1.size : Int) < 1 then (impl_ValidAddress.j0 k bt190.1 true) else (impl_ValidAddress.j0 k bt190.1 (decide ((bt190.1.size : Int) > 64)))) else (impl_ValidAddress.j0 k bt190.1 true)))) else (impl_ValidAddress.j0 k bt190.1 true))) = some r := h
  clear h
  replace H := Option.bind_eq_some_iff.mp H
  obtain ⟨⟨t190, t191, t192⟩, A20, H⟩ := H
  replace H : (if t192 = true then (if (a0.size : Int) > 160 then (impl_ValidAddress.j0 k t190 true) else ((impl_ValidDomain.f k t191).bind fun t193 => (if t193 = true then (if (t190.size : Int) < 1 then (impl_ValidAddress.j0 k t190 true) else (impl_ValidAddress.j0 k t190 (decide ((t190.size : Int) > 64)))) else (impl_ValidAddress.j0 k t190 true)))) else (impl_ValidAddress.j0 k t190 true)) = some r := H
  have A2 := Aside0.mk A20
  clear A20
  have HC3 := Aside0.mk H
  clear H
  go_enter Tryd.func109, Tryd.ntmps109
  go_upto_region 2 with (first | ((with_reducible refine gate_callee (f := 144) rfl ?_); refine goesL_ (some 9) rfl rfl Tryd.func144 (by kernel_rfl) rfl #[.string a0, .string (⟨#[64]⟩ : ByteArray)] rfl (by (try simp only [List.map_toArray, List.map_cons, List.map_nil]); first | done | rfl | (simp only [List.length_drop, List.length_take]; rfl)) ?_; (with_reducible refine (strings_Cut.calls a0 (⟨#[64]⟩ : ByteArray) t190 t191 t192 _ ?side1 A2.out).mono ?_); (case side1 => exact GlM.below hGM (bq_)); rintro e w' ⟨rfl, ⟨nd, rfl⟩⟩; refine ⟨_, rfl, ?_⟩))
  (try simp only [Act.put, List.setIfInBounds_toArray, List.set_cons_zero, List.set_cons_succ])
  go_cut [34] (fun v34 wc => ∃ (kq : Nat) (x34_2 : Bool), v34 = .bool x34_2 ∧ Aside0 (impl_ValidAddress.j0 kq t190 x34_2 = some r) ∧ Aside0 (kq ≤ k) ∧ Aside0 (Below w.heap.size w wc))
  case first =>
    have H := HC3.out
    clear HC3
    by_cases c4 : t192 = true
    · subst c4
      have H1 : (if (a0.size : Int) > 160 then (impl_ValidAddress.j0 k t190 true) else ((impl_ValidDomain.f k t191).bind fun t193 => (if t193 = true then (if (t190.size : Int) < 1 then (impl_ValidAddress.j0 k t190 true) else (impl_ValidAddress.j0 k t190 (decide ((t190.size : Int) > 64)))) else (impl_ValidAddress.j0 k t190 true)))) = some r := by rw [if_pos rfl] at H; exact H
      clear H
      have H := H1
      clear H1
      by_cases c5 : (a0.size : Int) > 160
      · rw [if_pos c5] at H
        have c5b0 : decide (160 < (a0.size : Int)) = true := decide_eq_true c5
        have c5b1 : decide (160 < a0.size) = true := decide_eq_true (by omega)
        clear c5
        (first | rw [c5b0] | (simp only [i64_w, i32_w]; rw [c5b0]) | skip)
        have H' := Aside0.mk H
        clear H
        go_wp2
        go_meet
        case rel => exact ⟨_, (true), (by first | rfl | (simp; done) | (simp [*]; done)), H', ⟨by first | omega | exact Nat.le_refl _⟩, ⟨bq_⟩⟩
      · rw [if_neg c5] at H
        have c5b0 : decide (160 < (a0.size : Int)) = false := decide_eq_false c5
        have c5b1 : decide (160 < a0.size) = false := decide_eq_false (by omega)
        clear c5
        (first | rw [c5b0] | (simp only [i64_w, i32_w]; rw [c5b0]) | skip)
        replace H := Option.bind_eq_some_iff.mp H
        obtain ⟨t193, A60, H⟩ := H
        replace H : (if t193 = true then (if (t190.size : Int) < 1 then (impl_ValidAddress.j0 k t190 true) else (impl_ValidAddress.j0 k t190 (decide ((t190.size : Int) > 64)))) else (impl_ValidAddress.j0 k t190 true)) = some r := H
        have A6 := Aside0.mk A60
        clear A60
        by_cases c7 : t193 = true
        · subst c7
          have H1 : (if (t190.size : Int) < 1 then (impl_ValidAddress.j0 k t190 true) else (impl_ValidAddress.j0 k t190 (decide ((t190.size : Int) > 64)))) = some r := by rw [if_pos rfl] at H; exact H
          clear H
          have H := H1
          clear H1
          by_cases c8 : (t190.size : Int) < 1
          · rw [if_pos c8] at H
            have c8b0 : decide ((t190.size : Int) < 1) = true := decide_eq_true c8
            have c8b1 : decide (t190.size < 1) = true := decide_eq_true (by omega)
            clear c8
            have H' := Aside0.mk H
            clear H
            go_wp2_with (first | (go_at_call 108; (with_reducible refine (impl_ValidDomain.calls k t191 true _ ?side1 A6.out).mono ?_); (case side1 => exact GlM.below hGM (bq_)); rintro e w9 ⟨rfl, hb⟩; have n0_ := Aside0.mk (below_step (bq_) hb); clear HB; have HB := n0_; clear n0_; (try clear hb); (try clear hb2); (try clear hk); (try clear hi)))
            go_meet
            case rel => exact ⟨_, (true), (by first | rfl | (simp; done) | (simp [*]; done)), H', ⟨by first | omega | exact Nat.le_refl _⟩, ⟨bq_⟩⟩
          · rw [if_neg c8] at H
            have c8b0 : decide ((t190.size : Int) < 1) = false := decide_eq_false c8
            have c8b1 : decide (t190.size < 1) = false := decide_eq_false (by omega)
            clear c8
            have H' := Aside0.mk H
            clear H
            go_wp2_with (first | (go_at_call 108; (with_reducible refine (impl_ValidDomain.calls k t191 true _ ?side1 A6.out).mono ?_); (case side1 => exact GlM.below hGM (bq_)); rintro e w10 ⟨rfl, hb⟩; have n0_ := Aside0.mk (below_step (bq_) hb); clear HB; have HB := n0_; clear n0_; (try clear hb); (try clear hb2); (try clear hk); (try clear hi)))
            go_meet
            case rel => exact ⟨_, (decide ((t190.size : Int) > 64)), (by first | rfl | (simp; done) | (simp [*]; done)), H', ⟨by first | omega | exact Nat.le_refl _⟩, ⟨bq_⟩⟩
        · replace c7 := Bool.eq_false_iff.mpr c7
          subst c7
          have H1 : (impl_ValidAddress.j0 k t190 true) = some r := by rw [if_neg (show ¬ (false = true) by decide)] at H; exact H
          clear H
          have H := H1
          clear H1
          have H' := Aside0.mk H
          clear H
          go_wp2_with (first | (go_at_call 108; (with_reducible refine (impl_ValidDomain.calls k t191 false _ ?side1 A6.out).mono ?_); (case side1 => exact GlM.below hGM (bq_)); rintro e w11 ⟨rfl, hb⟩; have n0_ := Aside0.mk (below_step (bq_) hb); clear HB; have HB := n0_; clear n0_; (try clear hb); (try clear hb2); (try clear hk); (try clear hi)))
          go_meet
          case rel => exact ⟨_, (true), (by first | rfl | (simp; done) | (simp [*]; done)), H', ⟨by first | omega | exact Nat.le_refl _⟩, ⟨bq_⟩⟩
    · replace c4 := Bool.eq_false_iff.mpr c4
      subst c4
      have H1 : (impl_ValidAddress.j0 k t190 true) = some r := by rw [if_neg (show ¬ (false = true) by decide)] at H; exact H
      clear H
      have H := H1
      clear H1
      have H' := Aside0.mk H
      clear H
      go_wp2
      go_meet
      case rel => exact ⟨_, (true), (by first | rfl | (simp; done) | (simp [*]; done)), H', ⟨by first | omega | exact Nat.le_refl _⟩, ⟨bq_⟩⟩
  case rest =>
    clear HC3
    try clear c1
    try clear p2
    try clear c4
    try clear c5
    try clear c5b0
    try clear c5b1
    try clear c7
    try clear c8
    try clear c8b0
    try clear c8b1
    try clear c10
    obtain ⟨kq, x34_2, rfl, HA, HJ2, HB⟩ := hcut
    cases kq with
    | zero => exact absurd HA.out (by simp [impl_ValidAddress.j0])
    | succ kj2 =>
      have H := HA.out
      clear HA
      simp only [impl_ValidAddress.j0] at H
      by_cases c12 : x34_2 = true
      · subst c12
        have H1 : (some false) = some r := by rw [if_pos rfl] at H; exact H
        clear H
        have H := H1
        clear H1
        obtain rfl := Option.some.inj H
        go_wp2
        go_ret
        exact ⟨by first | rfl | (simp [errW_none, errW_some] <;> rfl) | (simp [*, errW_none, errW_some] <;> rfl), bq_⟩
      · replace c12 := Bool.eq_false_iff.mpr c12
        subst c12
        have H1 : ((impl_all_impl_ValidAddress_1.f t190).bind fun t194 => (if t194 = true then (if 0 < (t190.size : Int) then (if (bt t190 0) = 46 then (some false) else (if 0 ≤ (wrap64 ((t190.size : Int) - 1)) then (if (wrap64 ((t190.size : Int) - 1)) < (t190.size : Int) then (if (bt t190 (wrap64 ((t190.size : Int) - 1))) = 46 then (some false) else ((strings_Contains.f t190 (⟨#[46, 46]⟩ : ByteArray)).bind fun t195 => (some (!t195)))) else (none)) else (none))) else (none)) else (some false))) = some r := by rw [if_neg (show ¬ (false = true) by decide)] at H; exact H
        clear H
        have H := H1
        clear H1
        replace H := Option.bind_eq_some_iff.mp H
        obtain ⟨t194, A130, H⟩ := H
        replace H : (if t194 = true then (if 0 < (t190.size : Int) then (if (bt t190 0) = 46 then (some false) else (if 0 ≤ (wrap64 ((t190.size : Int) - 1)) then (if (wrap64 ((t190.size : Int) - 1)) < (t190.size : Int) then (if (bt t190 (wrap64 ((t190.size : Int) - 1))) = 46 then (some false) else ((strings_Contains.f t190 (⟨#[46, 46]⟩ : ByteArray)).bind fun t195 => (some (!t195)))) else (none)) else (none))) else (none)) else (some false)) = some r := H
        have A13 := Aside0.mk A130
        clear A130
        by_cases c14 : t194 = true
        · subst c14
          have H1 : (if 0 < (t190.size : Int) then (if (bt t190 0) = 46 then (some false) else (if 0 ≤ (wrap64 ((t190.size : Int) - 1)) then (if (wrap64 ((t190.size : Int) - 1)) < (t190.size : Int) then (if (bt t190 (wrap64 ((t190.size : Int) - 1))) = 46 then (some false) else ((strings_Contains.f t190 (⟨#[46, 46]⟩ : ByteArray)).bind fun t195 => (some (!t195)))) else (none)) else (none))) else (none)) = some r := by rw [if_pos rfl] at H; exact H
          clear H
          have H := H1
          clear H1
          by_cases c15 : 0 < (t190.size : Int)
          · rw [if_pos c15] at H
            have c15b0 : decide (0 < (t190.size : Int)) = true := decide_eq_true c15
            have c15b1 : decide (0 < t190.size) = true := decide_eq_true (by omega)
            clear c15
            by_cases c17 : (bt t190 0) = 46
            · rw [if_pos c17] at H
              have c17b0 : ((bt t190 0) == 46) = true := beq_iff_eq.mpr c17
              have c17b1 : ((bt t190 0) != 46) = false := bne_eq_false_iff_eq.mpr c17
              clear c17
              obtain rfl := Option.some.inj H
              go_wp2_with (first | ((with_reducible refine gate_callee (f := 58) rfl ?_); refine goesL_ (some 37) rfl rfl Tryd.func58 (by kernel_rfl) rfl #[.string t190, (.func (.func 145) #[] #[])] rfl (by (try simp only [List.map_toArray, List.map_cons, List.map_nil]); first | done | rfl | (simp only [List.length_drop, List.length_take]; rfl)) ?_; (with_reducible refine (impl_all_impl_ValidAddress_1.calls t190 true _ A13.out).mono ?_); rintro e w' ⟨rfl, ⟨nd, rfl⟩⟩; refine ⟨_, rfl, ?_⟩; have p16 : 0 ≤ (0 : Int) := (by omega); have q16 : 0 < t190.size := (by have : (0 : Int) < (t190.size : Int) := of_decide_eq_true (by first | (with_reducible assumption) | assumption); omega); have hx16 : ∀ h : 0 < t190.size, ((t190[0]'h).toNat : Int) = bt t190 0 := bt_at t190 0; clear p16; have qi16 : (0 < (t190.size : Int)) = True := eq_true (of_decide_eq_true (by first | (with_reducible assumption) | assumption)); replace q16 := eq_true q16))
              go_ret
              exact ⟨by first | rfl | (simp [errW_none, errW_some] <;> rfl) | (simp [*, errW_none, errW_some] <;> rfl), bq_⟩
            · rw [if_neg c17] at H
              have c17b0 : ((bt t190 0) == 46) = false := beq_eq_false_iff_ne.mpr c17
              have c17b1 : ((bt t190 0) != 46) = true := bne_iff_ne.mpr c17
              obtain ⟨ji18, hji18⟩ : ∃ j_ : Int, (wrap64 ((t190.size : Int) - 1)) = j_ := ⟨_, rfl⟩
              replace H : (if 0 ≤ (ji18) then (if (ji18) < (t190.size : Int) then (if (bt t190 (ji18)) = 46 then (some false) else ((strings_Contains.f t190 (⟨#[46, 46]⟩ : ByteArray)).bind fun t195 => (some (!t195)))) else (none)) else (none)) = some r := by first | (rw [hji18] at H; exact H) | (simp only [hji18] at H ⊢; exact H)
              (try rw [hji18] at A13)
              have hji18w : (IntKind.i64.wrap ((t190.size : Int) - 1)) = ji18 := (i64_w _).trans hji18
              by_cases c19 : 0 ≤ (ji18)
              · rw [if_pos c19] at H
                have c19b0 : decide (0 ≤ (ji18)) = true := decide_eq_true c19
                clear c19
                by_cases c20 : (ji18) < (t190.size : Int)
                · rw [if_pos c20] at H
                  have c20b0 : decide ((ji18) < (t190.size : Int)) = true := decide_eq_true c20
                  clear c20
                  by_cases c22 : (bt t190 (ji18)) = 46
                  · rw [if_pos c22] at H
                    have c22b0 : ((bt t190 (ji18)) == 46) = true := beq_iff_eq.mpr c22
                    have c22b1 : ((bt t190 (ji18)) != 46) = false := bne_eq_false_iff_eq.mpr c22
                    clear c22
                    obtain rfl := Option.some.inj H
                    go_wp2_with (first | ((with_reducible refine gate_callee (f := 58) rfl ?_); refine goesL_ (some 37) rfl rfl Tryd.func58 (by kernel_rfl) rfl #[.string t190, (.func (.func 145) #[] #[])] rfl (by (try simp only [List.map_toArray, List.map_cons, List.map_nil]); first | done | rfl | (simp only [List.length_drop, List.length_take]; rfl)) ?_; (with_reducible refine (impl_all_impl_ValidAddress_1.calls t190 true _ A13.out).mono ?_); rintro e w' ⟨rfl, ⟨nd, rfl⟩⟩; refine ⟨_, rfl, ?_⟩; have p16 : 0 ≤ (0 : Int) := (by omega); have q16 : 0 < t190.size := (by have : (0 : Int) < (t190.size : Int) := of_decide_eq_true (by first | (with_reducible assumption) | assumption); omega); have hx16 : ∀ h : 0 < t190.size, ((t190[0]'h).toNat : Int) = bt t190 0 := bt_at t190 0; clear p16; have qi16 : (0 < (t190.size : Int)) = True := eq_true (of_decide_eq_true (by first | (with_reducible assumption) | assumption)); replace q16 := eq_true q16; have p21 : 0 ≤ ((ji18) : Int) := of_decide_eq_true (by first | (with_reducible assumption) | assumption); have q21 : (ji18) < (t190.size : Int) := of_decide_eq_true (by first | (with_reducible assumption) | assumption); have hx21 := bt_at t190 (ji18); replace p21 := eq_true p21; replace q21 := eq_true q21))
                    go_ret
                    exact ⟨by first | rfl | (simp [errW_none, errW_some] <;> rfl) | (simp only [← hji18]; first | rfl | (simp [errW_none, errW_some] <;> rfl)) | (simp [*, errW_none, errW_some] <;> rfl), bq_⟩
                  · rw [if_neg c22] at H
                    have c22b0 : ((bt t190 (ji18)) == 46) = false := beq_eq_false_iff_ne.mpr c22
                    have c22b1 : ((bt t190 (ji18)) != 46) = true := bne_iff_ne.mpr c22
                    replace H := Option.bind_eq_some_iff.mp H
                    obtain ⟨t195, A230, H⟩ := H
                    replace H : (some (!t195)) = some r := H
                    have A23 := Aside0.mk A230
                    clear A230
                    obtain rfl := Option.some.inj H
                    go_wp2_with (first | ((with_reducible refine gate_callee (f := 58) rfl ?_); refine goesL_ (some 37) rfl rfl Tryd.func58 (by kernel_rfl) rfl #[.string t190, (.func (.func 145) #[] #[])] rfl (by (try simp only [List.map_toArray, List.map_cons, List.map_nil]); first | done | rfl | (simp only [List.length_drop, List.length_take]; rfl)) ?_; (with_reducible refine (impl_all_impl_ValidAddress_1.calls t190 true _ A13.out).mono ?_); rintro e w' ⟨rfl, ⟨nd, rfl⟩⟩; refine ⟨_, rfl, ?_⟩; have p16 : 0 ≤ (0 : Int) := (by omega); have q16 : 0 < t190.size := (by have : (0 : Int) < (t190.size : Int) := of_decide_eq_true (by first | (with_reducible assumption) | assumption); omega); have hx16 : ∀ h : 0 < t190.size, ((t190[0]'h).toNat : Int) = bt t190 0 := bt_at t190 0; clear p16; have qi16 : (0 < (t190.size : Int)) = True := eq_true (of_decide_eq_true (by first | (with_reducible assumption) | assumption)); replace q16 := eq_true q16; have p21 : 0 ≤ ((ji18) : Int) := of_decide_eq_true (by first | (with_reducible assumption) | assumption); have q21 : (ji18) < (t190.size : Int) := of_decide_eq_true (by first | (with_reducible assumption) | assumption); have hx21 := bt_at t190 (ji18); replace p21 := eq_true p21; replace q21 := eq_true q21) | (go_at_call 146; (with_reducible refine (strings_Contains.calls t190 (⟨#[46, 46]⟩ : ByteArray) t195 _ ?side1 A23.out).mono ?_); (case side1 => exact GlM.below hGM (bq_)); rintro e w' ⟨rfl, ⟨nd, rfl⟩⟩))
                    go_ret
                    exact ⟨by first | rfl | (simp [errW_none, errW_some] <;> rfl) | (simp only [← hji18]; first | rfl | (simp [errW_none, errW_some] <;> rfl)) | (simp [*, errW_none, errW_some] <;> rfl), bq_⟩
                · rw [if_neg c20] at H
                  exact absurd H (by simp)
              · rw [if_neg c19] at H
                exact absurd H (by simp)
          · rw [if_neg c15] at H
            exact absurd H (by simp)
        · replace c14 := Bool.eq_false_iff.mpr c14
          subst c14
          have H1 : (some false) = some r := by rw [if_neg (show ¬ (false = true) by decide)] at H; exact H
          clear H
          have H := H1
          clear H1
          obtain rfl := Option.some.inj H
          go_wp2_with (first | ((with_reducible refine gate_callee (f := 58) rfl ?_); refine goesL_ (some 37) rfl rfl Tryd.func58 (by kernel_rfl) rfl #[.string t190, (.func (.func 145) #[] #[])] rfl (by (try simp only [List.map_toArray, List.map_cons, List.map_nil]); first | done | rfl | (simp only [List.length_drop, List.length_take]; rfl)) ?_; (with_reducible refine (impl_all_impl_ValidAddress_1.calls t190 false _ A13.out).mono ?_); rintro e w' ⟨rfl, ⟨nd, rfl⟩⟩; refine ⟨_, rfl, ?_⟩))
          go_ret
          exact ⟨by first | rfl | (simp [errW_none, errW_some] <;> rfl) | (simp [*, errW_none, errW_some] <;> rfl), bq_⟩

/-! ### impl_right: function 64 -/
mutual
def impl_right.j0 : Nat → List ByteArray → Bool → Option (Bool)
  | 0, _, _ => none
  | k + 1, x2, x37 => if x37 = true then (some false) else (impl_right.l0 k x2 (x2.length : Int) 0)
def impl_right.l0 : Nat → List ByteArray → Int → Int → Option (Bool)
  | 0, _, _, _ => none
  | k + 1, x38, x39, x40 => if x40 < x39 then (if 0 ≤ x40 then (if x40 < (x38.length : Int) then ((impl_ValidAddress.f k (rdOf ByteArray.empty x38 x40)).bind fun t201 => (if t201 = true then (impl_right.l0 k x38 x39 (wrap64 (x40 + 1))) else (some false))) else (none)) else (none)) else (some true)
end
def impl_right.f (k : Nat) (a0 : ByteArray) (a1 : ByteArray) (l2 : List ByteArray) (a3 : ByteArray) : Option (Bool) := (impl_ValidDomain.f k a0).bind fun t196 => (if t196 = true then (if a1.toList = ([] : List UInt8) then (if (l2.length : Int) < 1 then (impl_right.j0 k l2 true) else (if (l2.length : Int) > 20 then (impl_right.j0 k l2 true) else ((impl_ValidBody.f k a3).bind fun t197 => (impl_right.j0 k l2 (!t197))))) else ((impl_ValidAddress.f k a1).bind fun t198 => (if t198 = true then (if (l2.length : Int) < 1 then (impl_right.j0 k l2 true) else (if (l2.length : Int) > 20 then (impl_right.j0 k l2 true) else ((impl_ValidBody.f k a3).bind fun t199 => (impl_right.j0 k l2 (!t199))))) else (impl_right.j0 k l2 true)))) else (impl_right.j0 k l2 true))
theorem impl_right.mono_l : ∀ k, (∀ y0 y1, LeO (impl_right.j0 k y0 y1) (impl_right.j0 (k + 1) y0 y1)) ∧ (∀ y0 y1 y2, LeO (impl_right.l0 k y0 y1 y2) (impl_right.l0 (k + 1) y0 y1 y2))
  | 0 => ⟨fun _ _ r h => by simp [impl_right.j0] at h, fun _ _ _ r h => by simp [impl_right.l0] at h⟩
  | k + 1 => by
    obtain ⟨ih0, ih1⟩ := impl_right.mono_l k
    refine ⟨?_, ?_⟩
    · intro y0 y1
      unfold impl_right.j0
      repeat' first
      | (with_reducible exact ih0 _ _)
      | (with_reducible exact ih1 _ _ _)
      | (with_reducible exact impl_ValidAddress.mono _ _)
      | (with_reducible exact impl_ValidBody.mono _ _)
      | (with_reducible exact impl_ValidDomain.mono _ _)
      | (with_reducible exact LeO.refl _)
      | (with_reducible exact LeO.none _)
      | (with_reducible refine LeO.ite ?_ ?_)
      | (with_reducible refine LeO.bind ?_ (fun _ => ?_))
      | exact ih0 _ _
      | exact ih1 _ _ _
      | exact impl_ValidAddress.mono _ _
      | exact impl_ValidBody.mono _ _
      | exact impl_ValidDomain.mono _ _
      | exact LeO.none _
      | refine LeO.ite ?_ ?_
      | refine LeO.bind ?_ (fun _ => ?_)
    · intro y0 y1 y2
      unfold impl_right.l0
      repeat' first
      | (with_reducible exact ih0 _ _)
      | (with_reducible exact ih1 _ _ _)
      | (with_reducible exact impl_ValidAddress.mono _ _)
      | (with_reducible exact impl_ValidBody.mono _ _)
      | (with_reducible exact impl_ValidDomain.mono _ _)
      | (with_reducible exact LeO.refl _)
      | (with_reducible exact LeO.none _)
      | (with_reducible refine LeO.ite ?_ ?_)
      | (with_reducible refine LeO.bind ?_ (fun _ => ?_))
      | exact ih0 _ _
      | exact ih1 _ _ _
      | exact impl_ValidAddress.mono _ _
      | exact impl_ValidBody.mono _ _
      | exact impl_ValidDomain.mono _ _
      | exact LeO.none _
      | refine LeO.ite ?_ ?_
      | refine LeO.bind ?_ (fun _ => ?_)
theorem impl_right.mono : ∀ a0 a1 a2 a3 k, LeO (impl_right.f k a0 a1 a2 a3) (impl_right.f (k + 1) a0 a1 a2 a3) := by
  intro a0 a1 a2 a3 k
  obtain ⟨ih0, ih1⟩ := impl_right.mono_l k
  unfold impl_right.f
  repeat' first
      | (with_reducible exact ih0 _ _)
      | (with_reducible exact ih1 _ _ _)
      | (with_reducible exact impl_ValidAddress.mono _ _)
      | (with_reducible exact impl_ValidBody.mono _ _)
      | (with_reducible exact impl_ValidDomain.mono _ _)
      | (with_reducible exact LeO.refl _)
      | (with_reducible exact LeO.none _)
      | (with_reducible refine LeO.ite ?_ ?_)
      | (with_reducible refine LeO.bind ?_ (fun _ => ?_))
      | exact ih0 _ _
      | exact ih1 _ _ _
      | exact impl_ValidAddress.mono _ _
      | exact impl_ValidBody.mono _ _
      | exact impl_ValidDomain.mono _ _
      | exact LeO.none _
      | refine LeO.ite ?_ ?_
      | refine LeO.bind ?_ (fun _ => ?_)
set_option maxHeartbeats 8000000 in
set_option maxRecDepth 100000 in
theorem impl_right.calls (k : Nat) (a0 : ByteArray) (a1 : ByteArray) (A2 : Option Addr) (c2 : Nat) (l2 : List ByteArray) (a3 : ByteArray) (r : Bool) (w : World) (hGM : GlM w) (hr2 : Kd.C Kd.string w A2 l2.length l2) (hc2 : l2.length ≤ c2) (h : impl_right.f k a0 a1 l2 a3 = some r) :
    Calls Tryd.prog 64 #[.string a0, .string a1, .slice A2 l2.length c2, .string a3] w fun e w' => e = .returned (.bool r) ∧ Below w.heap.size w w' := by
  have HR2 := Aside0.mk hr2
  have HC2 := Aside0.mk hc2
  clear hr2 hc2
  have HB := Aside0.mk (Below.refl w.heap.size w)
  have H : ((impl_ValidDomain.f k a0).bind fun t196 => (if t196 = true then (if a1.toList = ([] : List UInt8) then (if (l2.length : Int) < 1 then (impl_right.j0 k l2 true) else (if (l2.length : Int) > 20 then (impl_right.j0 k l2 true) else ((impl_ValidBody.f k a3).bind fun t197 => (impl_right.j0 k l2 (!t197))))) else ((impl_ValidAddress.f k a1).bind fun t198 => (if t198 = true then (if (l2.length : Int) < 1 then (impl_right.j0 k l2 true) else (if (l2.length : Int) > 20 then (impl_right.j0 k l2 true) else ((impl_ValidBody.f k a3).bind fun t199 => (impl_right.j0 k l2 (!t199))))) else (impl_right.j0 k l2 true)))) else (impl_right.j0 k l2 true))) = some r := h
  clear h
  have HC5 := Aside0.mk H
  clear H
  go_enter Tryd.func64, Tryd.ntmps64
  go_upto_region 1 with (fail)
  go_cut [37] (fun v37 wc => ∃ (kq : Nat) (x37_4 : Bool), v37 = .bool x37_4 ∧ Aside0 (impl_right.j0 kq l2 x37_4 = some r) ∧ Aside0 (kq ≤ k) ∧ Aside0 (Below w.heap.size w wc))
  case first =>
    have H := HC5.out
    clear HC5
    replace H := Option.bind_eq_some_iff.mp H
    obtain ⟨t196, A60, H⟩ := H
    replace H : (if t196 = true then (if a1.toList = ([] : List UInt8) then (if (l2.length : Int) < 1 then (impl_right.j0 k l2 true) else (if (l2.length : Int) > 20 then (impl_right.j0 k l2 true) else ((impl_ValidBody.f k a3).bind fun t197 => (impl_right.j0 k l2 (!t197))))) else ((impl_ValidAddress.f k a1).bind fun t198 => (if t198 = true then (if (l2.length : Int) < 1 then (impl_right.j0 k l2 true) else (if (l2.length : Int) > 20 then (impl_right.j0 k l2 true) else ((impl_ValidBody.f k a3).bind fun t199 => (impl_right.j0 k l2 (!t199))))) else (impl_right.j0 k l2 true)))) else (impl_right.j0 k l2 true)) = some r := H
    have A6 := Aside0.mk A60
    clear A60
    by_cases c7 : t196 = true
    · subst c7
      have H1 : (if a1.toList = ([] : List UInt8) then (if (l2.length : Int) < 1 then (impl_right.j0 k l2 true) else (if (l2.length : Int) > 20 then (impl_right.j0 k l2 true) else ((impl_ValidBody.f k a3).bind fun t197 => (impl_right.j0 k l2 (!t197))))) else ((impl_ValidAddress.f k a1).bind fun t198 => (if t198 = true then (if (l2.length : Int) < 1 then (impl_right.j0 k l2 true) else (if (l2.length : Int) > 20 then (impl_right.j0 k l2 true) else ((impl_ValidBody.f k a3).bind fun t199 => (impl_right.j0 k l2 (!t199))))) else (impl_right.j0 k l2 true)))) = some r := by rw [if_pos rfl] at H; exact H
      clear H
      have H := H1
      clear H1
      by_cases c8 : a1.toList = ([] : List UInt8)
      · rw [if_pos c8] at H
        have c8b0 : (a1.toList == ([] : List UInt8)) = true := beq_iff_eq.mpr c8
        have c8b7 : a1.toList.isEmpty = true := by rw [c8]; rfl
        have c8b1 : (a1.toList != ([] : List UInt8)) = false := bne_eq_false_iff_eq.mpr c8
        clear c8
        (first | rw [c8b0] | rw [c8b7] | (simp only [i64_w, i32_w]; rw [c8b0]) | skip)
        by_cases c9 : (l2.length : Int) < 1
        · rw [if_pos c9] at H
          have c9b0 : decide ((l2.length : Int) < 1) = true := decide_eq_true c9
          have c9b1 : decide (l2.length < 1) = true := decide_eq_true (by omega)
          clear c9
          have H' := Aside0.mk H
          clear H
          go_wp2_with (first | ((with_reducible refine gate_callee (f := 108) rfl ?_); refine goesL_ (some 12) rfl rfl Tryd.func108 (by kernel_rfl) rfl #[.string a0] rfl (by (try simp only [List.map_toArray, List.map_cons, List.map_nil]); first | done | rfl | (simp only [List.length_drop, List.length_take]; rfl)) ?_; (with_reducible refine (impl_ValidDomain.calls k a0 true _ ?side1 A6.out).mono ?_); (case side1 => exact GlM.below hGM (bq_)); rintro e w10 ⟨rfl, hb⟩; refine ⟨_, rfl, ?_⟩; have n0_ := Aside0.mk (below_step (bq_) hb); clear HB; have HB := n0_; clear n0_; (try clear hb); (try clear hb2); (try clear hk); (try clear hi)))
          go_meet
          case rel => exact ⟨_, (true), (by first | rfl | (simp; done) | (simp [*]; done)), H', ⟨by first | omega | exact Nat.le_refl _⟩, ⟨bq_⟩⟩
        · rw [if_neg c9] at H
          have c9b0 : decide ((l2.length : Int) < 1) = false := decide_eq_false c9
          have c9b1 : decide (l2.length < 1) = false := decide_eq_false (by omega)
          clear c9
          by_cases c11 : (l2.length : Int) > 20
          · rw [if_pos c11] at H
            have c11b0 : decide (20 < (l2.length : Int)) = true := decide_eq_true c11
            have c11b1 : decide (20 < l2.length) = true := decide_eq_true (by omega)
            clear c11
            have H' := Aside0.mk H
            clear H
            go_wp2_with (first | ((with_reducible refine gate_callee (f := 108) rfl ?_); refine goesL_ (some 12) rfl rfl Tryd.func108 (by kernel_rfl) rfl #[.string a0] rfl (by (try simp only [List.map_toArray, List.map_cons, List.map_nil]); first | done | rfl | (simp only [List.length_drop, List.length_take]; rfl)) ?_; (with_reducible refine (impl_ValidDomain.calls k a0 true _ ?side1 A6.out).mono ?_); (case side1 => exact GlM.below hGM (bq_)); rintro e w12 ⟨rfl, hb⟩; refine ⟨_, rfl, ?_⟩; have n0_ := Aside0.mk (below_step (bq_) hb); clear HB; have HB := n0_; clear n0_; (try clear hb); (try clear hb2); (try clear hk); (try clear hi)))
            go_meet
            case rel => exact ⟨_, (true), (by first | rfl | (simp; done) | (simp [*]; done)), H', ⟨by first | omega | exact Nat.le_refl _⟩, ⟨bq_⟩⟩
          · rw [if_neg c11] at H
            have c11b0 : decide (20 < (l2.length : Int)) = false := decide_eq_false c11
            have c11b1 : decide (20 < l2.length) = false := decide_eq_false (by omega)
            clear c11
            replace H := Option.bind_eq_some_iff.mp H
            obtain ⟨t197, A130, H⟩ := H
            replace H : (impl_right.j0 k l2 (!t197)) = some r := H
            have A13 := Aside0.mk A130
            clear A130
            have H' := Aside0.mk H
            clear H
            go_wp2_with (first | ((with_reducible refine gate_callee (f := 108) rfl ?_); refine goesL_ (some 12) rfl rfl Tryd.func108 (by kernel_rfl) rfl #[.string a0] rfl (by (try simp only [List.map_toArray, List.map_cons, List.map_nil]); first | done | rfl | (simp only [List.length_drop, List.length_take]; rfl)) ?_; (with_reducible refine (impl_ValidDomain.calls k a0 true _ ?side1 A6.out).mono ?_); (case side1 => exact GlM.below hGM (bq_)); rintro e w14 ⟨rfl, hb⟩; refine ⟨_, rfl, ?_⟩; have n0_ := Aside0.mk (below_step (bq_) hb); clear HB; have HB := n0_; clear n0_; (try clear hb); (try clear hb2); (try clear hk); (try clear hi)) | (go_at_call 13; (with_reducible refine (impl_ValidBody.calls k a3 t197 _ ?side1 A13.out).mono ?_); (case side1 => exact GlM.below hGM (bq_)); rintro e w15 ⟨rfl, hb⟩; have n0_ := Aside0.mk (below_step (bq_) hb); clear HB; have HB := n0_; clear n0_; (try clear hb); (try clear hb2); (try clear hk); (try clear hi)))
            go_meet
            case rel => exact ⟨_, (!t197), (by first | rfl | (simp; done) | (simp [*]; done)), H', ⟨by first | omega | exact Nat.le_refl _⟩, ⟨bq_⟩⟩
      · rw [if_neg c8] at H
        have c8b0 : (a1.toList == ([] : List UInt8)) = false := beq_eq_false_iff_ne.mpr c8
        have c8b7 : a1.toList.isEmpty = false := by simpa using c8
        have c8b1 : (a1.toList != ([] : List UInt8)) = true := bne_iff_ne.mpr c8
        (first | rw [c8b0] | rw [c8b7] | (simp only [i64_w, i32_w]; rw [c8b0]) | skip)
        replace H := Option.bind_eq_some_iff.mp H
        obtain ⟨t198, A160, H⟩ := H
        replace H : (if t198 = true then (if (l2.length : Int) < 1 then (impl_right.j0 k l2 true) else (if (l2.length : Int) > 20 then (impl_right.j0 k l2 true) else ((impl_ValidBody.f k a3).bind fun t199 => (impl_right.j0 k l2 (!t199))))) else (impl_right.j0 k l2 true)) = some r := H
        have A16 := Aside0.mk A160
        clear A160
        by_cases c17 : t198 = true
        · subst c17
          have H1 : (if (l2.length : Int) < 1 then (impl_right.j0 k l2 true) else (if (l2.length : Int) > 20 then (impl_right.j0 k l2 true) else ((impl_ValidBody.f k a3).bind fun t199 => (impl_right.j0 k l2 (!t199))))) = some r := by rw [if_pos rfl] at H; exact H
          clear H
          have H := H1
          clear H1
          by_cases c18 : (l2.length : Int) < 1
          · rw [if_pos c18] at H
            have c18b0 : decide ((l2.length : Int) < 1) = true := decide_eq_true c18
            have c18b1 : decide (l2.length < 1) = true := decide_eq_true (by omega)
            clear c18
            have H' := Aside0.mk H
            clear H
            go_wp2_with (first | ((with_reducible refine gate_callee (f := 108) rfl ?_); refine goesL_ (some 12) rfl rfl Tryd.func108 (by kernel_rfl) rfl #[.string a0] rfl (by (try simp only [List.map_toArray, List.map_cons, List.map_nil]); first | done | rfl | (simp only [List.length_drop, List.length_take]; rfl)) ?_; (with_reducible refine (impl_ValidDomain.calls k a0 true _ ?side1 A6.out).mono ?_); (case side1 => exact GlM.below hGM (bq_)); rintro e w19 ⟨rfl, hb⟩; refine ⟨_, rfl, ?_⟩; have n0_ := Aside0.mk (below_step (bq_) hb); clear HB; have HB := n0_; clear n0_; (try clear hb); (try clear hb2); (try clear hk); (try clear hi)) | (go_at_call 109; (with_reducible refine (impl_ValidAddress.calls k a1 true _ ?side1 A16.out).mono ?_); (case side1 => exact GlM.below hGM (bq_)); rintro e w20 ⟨rfl, hb⟩; have n0_ := Aside0.mk (below_step (bq_) hb); clear HB; have HB := n0_; clear n0_; (try clear hb); (try clear hb2); (try clear hk); (try clear hi)))
            go_meet
            case rel => exact ⟨_, (true), (by first | rfl | (simp; done) | (simp [*]; done)), H', ⟨by first | omega | exact Nat.le_refl _⟩, ⟨bq_⟩⟩
          · rw [if_neg c18] at H
            have c18b0 : decide ((l2.length : Int) < 1) = false := decide_eq_false c18
            have c18b1 : decide (l2.length < 1) = false := decide_eq_false (by omega)
            clear c18
            by_cases c21 : (l2.length : Int) > 20
            · rw [if_pos c21] at H
              have c21b0 : decide (20 < (l2.length : Int)) = true := decide_eq_true c21
              have c21b1 : decide (20 < l2.length) = true := decide_eq_true (by omega)
              clear c21
              have H' := Aside0.mk H
              clear H
              go_wp2_with (first | ((with_reducible refine gate_callee (f := 108) rfl ?_); refine goesL_ (some 12) rfl rfl Tryd.func108 (by kernel_rfl) rfl #[.string a0] rfl (by (try simp only [List.map_toArray, List.map_cons, List.map_nil]); first | done | rfl | (simp only [List.length_drop, List.length_take]; rfl)) ?_; (with_reducible refine (impl_ValidDomain.calls k a0 true _ ?side1 A6.out).mono ?_); (case side1 => exact GlM.below hGM (bq_)); rintro e w22 ⟨rfl, hb⟩; refine ⟨_, rfl, ?_⟩; have n0_ := Aside0.mk (below_step (bq_) hb); clear HB; have HB := n0_; clear n0_; (try clear hb); (try clear hb2); (try clear hk); (try clear hi)) | (go_at_call 109; (with_reducible refine (impl_ValidAddress.calls k a1 true _ ?side1 A16.out).mono ?_); (case side1 => exact GlM.below hGM (bq_)); rintro e w23 ⟨rfl, hb⟩; have n0_ := Aside0.mk (below_step (bq_) hb); clear HB; have HB := n0_; clear n0_; (try clear hb); (try clear hb2); (try clear hk); (try clear hi)))
              go_meet
              case rel => exact ⟨_, (true), (by first | rfl | (simp; done) | (simp [*]; done)), H', ⟨by first | omega | exact Nat.le_refl _⟩, ⟨bq_⟩⟩
            · rw [if_neg c21] at H
              have c21b0 : decide (20 < (l2.length : Int)) = false := decide_eq_false c21
              have c21b1 : decide (20 < l2.length) = false := decide_eq_false (by omega)
              clear c21
              replace H := Option.bind_eq_some_iff.mp H
              obtain ⟨t199, A240, H⟩ := H
              replace H : (impl_right.j0 k l2 (!t199)) = some r := H
              have A24 := Aside0.mk A240
              clear A240
              have H' := Aside0.mk H
              clear H
              go_wp2_with (first | ((with_reducible refine gate_callee (f := 108) rfl ?_); refine goesL_ (some 12) rfl rfl Tryd.func108 (by kernel_rfl) rfl #[.string a0] rfl (by (try simp only [List.map_toArray, List.map_cons, List.map_nil]); first | done | rfl | (simp only [List.length_drop, List.length_take]; rfl)) ?_; (with_reducible refine (impl_ValidDomain.calls k a0 true _ ?side1 A6.out).mono ?_); (case side1 => exact GlM.below hGM (bq_)); rintro e w25 ⟨rfl, hb⟩; refine ⟨_, rfl, ?_⟩; have n0_ := Aside0.mk (below_step (bq_) hb); clear HB; have HB := n0_; clear n0_; (try clear hb); (try clear hb2); (try clear hk); (try clear hi)) | (go_at_call 109; (with_reducible refine (impl_ValidAddress.calls k a1 true _ ?side1 A16.out).mono ?_); (case side1 => exact GlM.below hGM (bq_)); rintro e w26 ⟨rfl, hb⟩; have n0_ := Aside0.mk (below_step (bq_) hb); clear HB; have HB := n0_; clear n0_; (try clear hb); (try clear hb2); (try clear hk); (try clear hi)) | (go_at_call 13; (with_reducible refine (impl_ValidBody.calls k a3 t199 _ ?side1 A24.out).mono ?_); (case side1 => exact GlM.below hGM (bq_)); rintro e w27 ⟨rfl, hb⟩; have n0_ := Aside0.mk (below_step (bq_) hb); clear HB; have HB := n0_; clear n0_; (try clear hb); (try clear hb2); (try clear hk); (try clear hi)))
              go_meet
              case rel => exact ⟨_, (!t199), (by first | rfl | (simp; done) | (simp [*]; done)), H', ⟨by first | omega | exact Nat.le_refl _⟩, ⟨bq_⟩⟩
        · replace c17 := Bool.eq_false_iff.mpr c17
          subst c17
          have H1 : (impl_right.j0 k l2 true) = some r := by rw [if_neg (show ¬ (false = true) by decide)] at H; exact H
          clear H
          have H := H1
          clear H1
          have H' := Aside0.mk H
          clear H
          go_wp2_with (first | ((with_reducible refine gate_callee (f := 108) rfl ?_); refine goesL_ (some 12) rfl rfl Tryd.func108 (by kernel_rfl) rfl #[.string a0] rfl (by (try simp only [List.map_toArray, List.map_cons, List.map_nil]); first | done | rfl | (simp only [List.length_drop, List.length_take]; rfl)) ?_; (with_reducible refine (impl_ValidDomain.calls k a0 true _ ?side1 A6.out).mono ?_); (case side1 => exact GlM.below hGM (bq_)); rintro e w28 ⟨rfl, hb⟩; refine ⟨_, rfl, ?_⟩; have n0_ := Aside0.mk (below_step (bq_) hb); clear HB; have HB := n0_; clear n0_; (try clear hb); (try clear hb2); (try clear hk); (try clear hi)) | (go_at_call 109; (with_reducible refine (impl_ValidAddress.calls k a1 false _ ?side1 A16.out).mono ?_); (case side1 => exact GlM.below hGM (bq_)); rintro e w29 ⟨rfl, hb⟩; have n0_ := Aside0.mk (below_step (bq_) hb); clear HB; have HB := n0_; clear n0_; (try clear hb); (try clear hb2); (try clear hk); (try clear hi)))
          go_meet
          case rel => exact ⟨_, (true), (by first | rfl | (simp; done) | (simp [*]; done)), H', ⟨by first | omega | exact Nat.le_refl _⟩, ⟨bq_⟩⟩
    · replace c7 := Bool.eq_false_iff.mpr c7
      subst c7
      have H1 : (impl_right.j0 k l2 true) = some r := by rw [if_neg (show ¬ (false = true) by decide)] at H; exact H
      clear H
      have H := H1
      clear H1
      have H' := Aside0.mk H
      clear H
      go_wp2_with (first | ((with_reducible refine gate_callee (f := 108) rfl ?_); refine goesL_ (some 12) rfl rfl Tryd.func108 (by kernel_rfl) rfl #[.string a0] rfl (by (try simp only [List.map_toArray, List.map_cons, List.map_nil]); first | done | rfl | (simp only [List.length_drop, List.length_take]; rfl)) ?_; (with_reducible refine (impl_ValidDomain.calls k a0 false _ ?side1 A6.out).mono ?_); (case side1 => exact GlM.below hGM (bq_)); rintro e w30 ⟨rfl, hb⟩; refine ⟨_, rfl, ?_⟩; have n0_ := Aside0.mk (below_step (bq_) hb); clear HB; have HB := n0_; clear n0_; (try clear hb); (try clear hb2); (try clear hk); (try clear hi)))
      go_meet
      case rel => exact ⟨_, (true), (by first | rfl | (simp; done) | (simp [*]; done)), H', ⟨by first | omega | exact Nat.le_refl _⟩, ⟨bq_⟩⟩
  case rest =>
    clear HC5
    try clear c1
    try clear c2
    try clear p2
    try clear c6
    try clear c7
    try clear c8
    try clear c8b0
    try clear c8b1
    try clear c9
    try clear c9b0
    try clear c9b1
    try clear c10
    try clear c11
    try clear c11b0
    try clear c11b1
    try clear c17
    try clear c18
    try clear c18b0
    try clear c18b1
    try clear c21
    try clear c21b0
    try clear c21b1
    obtain ⟨kq, x37_4, rfl, HA, HJ4, HB⟩ := hcut
    cases kq with
    | zero => exact absurd HA.out (by simp [impl_right.j0])
    | succ kj4 =>
      have H := HA.out
      clear HA
      simp only [impl_right.j0] at H
      by_cases c31 : x37_4 = true
      · subst c31
        have H1 : (some false) = some r := by rw [if_pos rfl] at H; exact H
        clear H
        have H := H1
        clear H1
        obtain rfl := Option.some.inj H
        go_wp2
        go_ret
        exact ⟨by first | rfl | (simp [errW_none, errW_some] <;> rfl) | (simp [*, errW_none, errW_some] <;> rfl), bq_⟩
      · replace c31 := Bool.eq_false_iff.mpr c31
        subst c31
        have H1 : (impl_right.l0 kj4 l2 (l2.length : Int) 0) = some r := by rw [if_neg (show ¬ (false = true) by decide)] at H; exact H
        clear H
        have H := H1
        clear H1
        have H' := Aside0.mk H
        clear H
        go_wp2
        go_loopg [40] kj4 (fun kq v40 w' => ∃ (x40_2 : Int), v40 = .int .i64 x40_2 ∧ Aside0 (impl_right.l0 kq l2 (l2.length : Int) x40_2 = some r) ∧ Aside0 (kq ≤ kj4) ∧ Aside0 (Below w.heap.size w w'))
        case atStart => exact ⟨(0), (by first | rfl | (simp; done) | (simp [*]; done)), H', ⟨Nat.le_refl _⟩, ⟨bq_⟩⟩
        case round =>
          clear H'
          try clear c1
          try clear c2
          try clear p2
          try clear c3
          try clear c6
          try clear c7
          try clear c8
          try clear c8b0
          try clear c8b1
          try clear c9
          try clear c9b0
          try clear c9b1
          try clear c10
          try clear c11
          try clear c11b0
          try clear c11b1
          try clear c17
          try clear c18
          try clear c18b0
          try clear c18b1
          try clear c21
          try clear c21b0
          try clear c21b1
          try clear c31
          try clear p2
          obtain ⟨x40_2, rfl, HA, HK2, HB⟩ := hrel
          cases gk with
          | zero => exact absurd HA.out (by simp [impl_right.l0])
          | succ k2 =>
            have H := HA.out
            clear HA
            simp only [impl_right.l0] at H
            by_cases c32 : x40_2 < (l2.length : Int)
            · rw [if_pos c32] at H
              have c32b0 : decide (x40_2 < (l2.length : Int)) = true := decide_eq_true c32
              clear c32
              by_cases c33 : 0 ≤ x40_2
              · rw [if_pos c33] at H
                have c33b0 : decide (0 ≤ x40_2) = true := decide_eq_true c33
                clear c33
                by_cases c34 : x40_2 < (l2.length : Int)
                · rw [if_pos c34] at H
                  have c34b0 : decide (x40_2 < (l2.length : Int)) = true := decide_eq_true c34
                  clear c34
                  replace H := Option.bind_eq_some_iff.mp H
                  obtain ⟨t201, A350, H⟩ := H
                  replace H : (if t201 = true then (impl_right.l0 k2 l2 (l2.length : Int) (wrap64 (x40_2 + 1))) else (some false)) = some r := H
                  have A35 := Aside0.mk A350
                  clear A350
                  by_cases c36 : t201 = true
                  · subst c36
                    have H1 : (impl_right.l0 k2 l2 (l2.length : Int) (wrap64 (x40_2 + 1))) = some r := by rw [if_pos rfl] at H; exact H
                    clear H
                    have H := H1
                    clear H1
                    have H' := Aside0.mk H
                    clear H
                    have p200 : 0 ≤ (x40_2 : Int) := of_decide_eq_true (by first | (with_reducible assumption) | assumption)
                    have q200 : x40_2 < (l2.length : Int) := of_decide_eq_true (by first | (with_reducible assumption) | assumption)
                    obtain ⟨ad200, e200, hx200_0⟩ := Kd.at_string HR2.out x40_2 p200 q200
                    cases e200
                    try replace hx200_0 := (HB.out.cell (World.block_lt_of_cell? w _ hx200_0)).trans hx200_0
                    replace p200 := eq_true p200
                    replace q200 := eq_true q200
                    go_wp2_with (first | ((with_reducible refine gate_callee (f := 109) rfl ?_); refine goesL_ (some 45) rfl rfl Tryd.func109 (by kernel_rfl) rfl #[.string (rdOf ByteArray.empty l2 x40_2)] rfl (by (try simp only [List.map_toArray, List.map_cons, List.map_nil]); first | done | rfl | (simp only [List.length_drop, List.length_take]; rfl)) ?_; (with_reducible refine (impl_ValidAddress.calls k2 (rdOf ByteArray.empty l2 x40_2) true _ ?side1 A35.out).mono ?_); (case side1 => exact GlM.below hGM (bq_)); rintro e w37 ⟨rfl, hb⟩; refine ⟨_, rfl, ?_⟩; have n0_ := Aside0.mk (below_step (bq_) hb); clear HB; have HB := n0_; clear n0_; (try clear hb); (try clear hb2); (try clear hk); (try clear hi)))
                    go_roundg k2
                    case measure => have := HJ4.out; have := HK2.out; omega
                    case rel => exact ⟨(wrap64 (x40_2 + 1)), (by first | rfl | (simp; done) | (simp [*]; done)), H', ⟨by have := HJ4.out; have := HK2.out; omega⟩, ⟨bq_⟩⟩
                  · replace c36 := Bool.eq_false_iff.mpr c36
                    subst c36
                    have H1 : (some false) = some r := by rw [if_neg (show ¬ (false = true) by decide)] at H; exact H
                    clear H
                    have H := H1
                    clear H1
                    obtain rfl := Option.some.inj H
                    have p200 : 0 ≤ (x40_2 : Int) := of_decide_eq_true (by first | (with_reducible assumption) | assumption)
                    have q200 : x40_2 < (l2.length : Int) := of_decide_eq_true (by first | (with_reducible assumption) | assumption)
                    obtain ⟨ad200, e200, hx200_0⟩ := Kd.at_string HR2.out x40_2 p200 q200
                    cases e200
                    try replace hx200_0 := (HB.out.cell (World.block_lt_of_cell? w _ hx200_0)).trans hx200_0
                    replace p200 := eq_true p200
                    replace q200 := eq_true q200
                    go_wp2_with (first | ((with_reducible refine gate_callee (f := 109) rfl ?_); refine goesL_ (some 45) rfl rfl Tryd.func109 (by kernel_rfl) rfl #[.string (rdOf ByteArray.empty l2 x40_2)] rfl (by (try simp only [List.map_toArray, List.map_cons, List.map_nil]); first | done | rfl | (simp only [List.length_drop, List.length_take]; rfl)) ?_; (with_reducible refine (impl_ValidAddress.calls k2 (rdOf ByteArray.empty l2 x40_2) false _ ?side1 A35.out).mono ?_); (case side1 => exact GlM.below hGM (bq_)); rintro e w38 ⟨rfl, hb⟩; refine ⟨_, rfl, ?_⟩; have n0_ := Aside0.mk (below_step (bq_) hb); clear HB; have HB := n0_; clear n0_; (try clear hb); (try clear hb2); (try clear hk); (try clear hi)))
                    go_ret
                    exact ⟨by first | rfl | (simp [errW_none, errW_some] <;> rfl) | (simp [*, errW_none, errW_some] <;> rfl), bq_⟩
                · rw [if_neg c34] at H
                  exact absurd H (by simp)
              · rw [if_neg c33] at H
                exact absurd H (by simp)
            · rw [if_neg c32] at H
              have c32b0 : decide (x40_2 < (l2.length : Int)) = false := decide_eq_false c32
              clear c32
              obtain rfl := Option.some.inj H
              go_wp2
              go_ret
              exact ⟨by first | rfl | (simp [errW_none, errW_some] <;> rfl) | (simp [*, errW_none, errW_some] <;> rfl), bq_⟩

end Go.Proofs.YtnhhbdhkhdbanaaDoor.X
