-- Written by a program of this session (wip/tools/xprint.py, over the kit's printer) out of the translation.
import Derived.Test.YtdhkfbjbohpppaaDoorX0
import Derived.Test.YtdhkfbjbohpppaaDoorX1
import Derived.Test.YtdhkfbjbohpppaaDoorX4
import Derived.Test.YtdhkfbjbohpppaaDoorGStr
import Derived.Test.YtdhkfbjbohpppaaDoorGAll
import Derived.Test.YtdhkfbjbohpppaaDoorGlob
namespace Go.Proofs.YtdhkfbjbohpppaaDoor.X
open Go.RowKit Go.Proofs.YtdhkfbjbohpppaaDoorW.PrintWords Go.Proofs.YtdhkfbjbohpppaaDoorW.PrintLast Go.Proofs.YtdhkfbjbohpppaaDoorW.PrintMore
attribute [local go_sem] max2_int min2_int max_two min_two max_three min_three max_four min_four   -- for this text's walks alone
set_option linter.unusedVariables false
set_option linter.unusedSimpArgs false

/-! ### impl_ValidAddress: function 20 -/
def impl_ValidAddress.j0 : Nat → ByteArray → Bool → Option (Bool)
  | 0, _, _ => none
  | k + 1, x3, x34 => if x34 = true then (some false) else ((impl_all_impl_ValidAddress_1.f x3).bind fun t142 => (if t142 = true then (if 0 < (x3.size : Int) then (if (bt x3 0) = 46 then (some false) else (if 0 ≤ (wrap64 ((x3.size : Int) - 1)) then (if (wrap64 ((x3.size : Int) - 1)) < (x3.size : Int) then (if (bt x3 (wrap64 ((x3.size : Int) - 1))) = 46 then (some false) else ((strings_Contains.f x3 (⟨#[46, 46]⟩ : ByteArray)).bind fun t143 => (some (!t143)))) else (none)) else (none))) else (none)) else (some false)))
def impl_ValidAddress.f (k : Nat) (a0 : ByteArray) : Option (Bool) := (strings_Cut.f a0 (⟨#[64]⟩ : ByteArray)).bind fun bt138 => (if bt138.2.2 = true then (if (a0.size : Int) > 160 then (impl_ValidAddress.j0 k bt138.1 true) else ((impl_ValidDomain.f k bt138.2.1).bind fun t141 => (if t141 = true then (if (bt138.1.size : Int) < 1 then (impl_ValidAddress.j0 k bt138.1 true) else (impl_ValidAddress.j0 k bt138.1 (decide ((bt138.1.size : Int) > 64)))) else (impl_ValidAddress.j0 k bt138.1 true)))) else (impl_ValidAddress.j0 k bt138.1 true))
theorem impl_ValidAddress.mono_l : ∀ k, (∀ y0 y1, LeO (impl_ValidAddress.j0 k y0 y1) (impl_ValidAddress.j0 (k + 1) y0 y1))
  | 0 => fun _ _ r h => by simp [impl_ValidAddress.j0] at h
  | k + 1 => by
    have ih0 := impl_ValidAddress.mono_l k
    · intro y0 y1
      unfold impl_ValidAddress.j0
      repeat' first
      | (with_reducible exact ih0 _ _)
      | (with_reducible exact impl_ValidDomain.mono _ _)
      | (with_reducible exact LeO.refl _)
      | (with_reducible exact LeO.none _)
      | (with_reducible refine LeO.ite ?_ ?_)
      | (with_reducible refine LeO.bind ?_ (fun _ => ?_))
      | exact ih0 _ _
      | exact impl_ValidDomain.mono _ _
      | exact LeO.none _
      | refine LeO.ite ?_ ?_
      | refine LeO.bind ?_ (fun _ => ?_)
theorem impl_ValidAddress.mono : ∀ a0 k, LeO (impl_ValidAddress.f k a0) (impl_ValidAddress.f (k + 1) a0) := by
  intro a0 k
  have ih0 := impl_ValidAddress.mono_l k
  unfold impl_ValidAddress.f
  repeat' first
      | (with_reducible exact ih0 _ _)
      | (with_reducible exact impl_ValidDomain.mono _ _)
      | (with_reducible exact LeO.refl _)
      | (with_reducible exact LeO.none _)
      | (with_reducible refine LeO.ite ?_ ?_)
      | (with_reducible refine LeO.bind ?_ (fun _ => ?_))
      | exact ih0 _ _
      | exact impl_ValidDomain.mono _ _
      | exact LeO.none _
      | refine LeO.ite ?_ ?_
      | refine LeO.bind ?_ (fun _ => ?_)
set_option maxHeartbeats 8000000 in
set_option maxRecDepth 100000 in
theorem impl_ValidAddress.calls (k : Nat) (a0 : ByteArray) (r : Bool) (w : World) (hGM : GlM w) (h : impl_ValidAddress.f k a0 = some r) :
    Calls Tryd.prog 20 #[.string a0] w fun e w' => e = .returned (.bool r) ∧ Below w.heap.size w w' := by
  have HB := Aside0.mk (Below.refl w.heap.size w)
  have H : ((strings_Cut.f a0 (⟨#[64]⟩ : ByteArray)).bind fun bt138 => (if bt138.2.2 = true then (if (a0.size : Int) > 160 then (impl_ValidAddress.j0 k bt138.1 true) else ((impl_ValidDomain.f k bt138.2.1).bind fun t141 => (if t141 = true then (if (bt138.1.size : Int) < 1 then (impl_ValidAddress.j0 k bt138.1 true) else (impl_ValidAddress.j0 k bt138.1 (decide ((bt138.1.size : Int) > 64)))) else (impl_ValidAddress.j0 k bt138.1 true)))) else (impl_ValidAddress.j0 k bt138.1 true))) = some r := h
  clear h
  replace H := Option.bind_eq_some_iff.mp H
  obtain ⟨⟨t138, t139, t140⟩, A20, H⟩ := H
  replace H : (if t140 = true then (if (a0.size : Int) > 160 then (impl_ValidAddress.j0 k t138 true) else ((impl_ValidDomain.f k t139).bind fun t141 => (if t141 = true then (if (t138.size : Int) < 1 then (impl_ValidAddress.j0 k t138 true) else (impl_ValidAddress.j0 k t138 (decide ((t138.size : Int) > 64)))) else (impl_ValidAddress.j0 k t138 true)))) else (impl_ValidAddress.j0 k t138 true)) = some r := H
  have A2 := Aside0.mk A20
  clear A20
  have HC3 := Aside0.mk H
  clear H
  go_enter Tryd.func20, Tryd.ntmps20
  go_upto_region 2 with (first | ((with_reducible refine gate_callee (f := 70) rfl ?_); refine goesL_ (some 9) rfl rfl Tryd.func70 (by kernel_rfl) rfl #[.string a0, .string (⟨#[64]⟩ : ByteArray)] rfl (by (try simp only [List.map_toArray, List.map_cons, List.map_nil]); first | done | rfl | (simp only [List.length_drop, List.length_take]; rfl)) ?_; (with_reducible refine (strings_Cut.calls a0 (⟨#[64]⟩ : ByteArray) t138 t139 t140 _ ?side1 A2.out).mono ?_); (case side1 => exact GlM.below hGM (by repeat (first | (with_reducible first | exact HB.out | apply below_alloc | apply pw_below_drewN | apply below_drew1) | exact HB.out))); rintro e w' ⟨rfl, ⟨nd, rfl⟩⟩; refine ⟨_, rfl, ?_⟩))
  (try simp only [Act.put, List.setIfInBounds_toArray, List.set_cons_zero, List.set_cons_succ])
  go_cut [34] (fun v34 wc => ∃ (kq : Nat) (x34_2 : Bool), v34 = .bool x34_2 ∧ Aside0 (impl_ValidAddress.j0 kq t138 x34_2 = some r) ∧ Aside0 (kq ≤ k) ∧ Aside0 (Below w.heap.size w wc))
  case first =>
    have H := HC3.out
    clear HC3
    by_cases c4 : t140 = true
    · subst c4
      have H1 : (if (a0.size : Int) > 160 then (impl_ValidAddress.j0 k t138 true) else ((impl_ValidDomain.f k t139).bind fun t141 => (if t141 = true then (if (t138.size : Int) < 1 then (impl_ValidAddress.j0 k t138 true) else (impl_ValidAddress.j0 k t138 (decide ((t138.size : Int) > 64)))) else (impl_ValidAddress.j0 k t138 true)))) = some r := by rw [if_pos rfl] at H; exact H
      clear H
      have H := H1
      clear H1
      by_cases c5 : (a0.size : Int) > 160
      · rw [if_pos c5] at H
        have c5b0 : decide (160 < (a0.size : Int)) = true := decide_eq_true c5
        have c5b1 : decide (160 < a0.size) = true := decide_eq_true (by omega)
        clear c5
        (first | rw [c5b0] | (simp only [i64_w, i32_w]; rw [c5b0]) | skip)
        have H' := Aside0.mk H
        clear H
        go_wp2
        go_meet
        case rel => exact ⟨_, (true), (by first | rfl | (simp; done) | (simp [*]; done)), H', ⟨by first | omega | exact Nat.le_refl _⟩, ⟨by repeat (first | (with_reducible first | exact HB.out | apply below_alloc | apply pw_below_drewN | apply below_drew1) | exact HB.out)⟩⟩
      · rw [if_neg c5] at H
        have c5b0 : decide (160 < (a0.size : Int)) = false := decide_eq_false c5
        have c5b1 : decide (160 < a0.size) = false := decide_eq_false (by omega)
        clear c5
        (first | rw [c5b0] | (simp only [i64_w, i32_w]; rw [c5b0]) | skip)
        replace H := Option.bind_eq_some_iff.mp H
        obtain ⟨t141, A60, H⟩ := H
        replace H : (if t141 = true then (if (t138.size : Int) < 1 then (impl_ValidAddress.j0 k t138 true) else (impl_ValidAddress.j0 k t138 (decide ((t138.size : Int) > 64)))) else (impl_ValidAddress.j0 k t138 true)) = some r := H
        have A6 := Aside0.mk A60
        clear A60
        by_cases c7 : t141 = true
        · subst c7
          have H1 : (if (t138.size : Int) < 1 then (impl_ValidAddress.j0 k t138 true) else (impl_ValidAddress.j0 k t138 (decide ((t138.size : Int) > 64)))) = some r := by rw [if_pos rfl] at H; exact H
          clear H
          have H := H1
          clear H1
          by_cases c8 : (t138.size : Int) < 1
          · rw [if_pos c8] at H
            have c8b0 : decide ((t138.size : Int) < 1) = true := decide_eq_true c8
            have c8b1 : decide (t138.size < 1) = true := decide_eq_true (by omega)
            clear c8
            have H' := Aside0.mk H
            clear H
            go_wp2_with (first | (go_at_call 18; (with_reducible refine (impl_ValidDomain.calls k t139 true _ ?side1 A6.out).mono ?_); (case side1 => exact GlM.below hGM (by repeat (first | (with_reducible first | exact HB.out | apply below_alloc | apply pw_below_drewN | apply below_drew1) | exact HB.out))); rintro e w9 ⟨rfl, hb⟩; have n0_ := Aside0.mk (below_step (by repeat (first | (with_reducible first | exact HB.out | apply below_alloc | apply pw_below_drewN | apply below_drew1) | exact HB.out)) hb); clear HB; have HB := n0_; clear n0_; (try clear hb); (try clear hb2); (try clear hk); (try clear hi)))
            go_meet
            case rel => exact ⟨_, (true), (by first | rfl | (simp; done) | (simp [*]; done)), H', ⟨by first | omega | exact Nat.le_refl _⟩, ⟨by repeat (first | (with_reducible first | exact HB.out | apply below_alloc | apply pw_below_drewN | apply below_drew1) | exact HB.out)⟩⟩
          · rw [if_neg c8] at H
            have c8b0 : decide ((t138.size : Int) < 1) = false := decide_eq_false c8
            have c8b1 : decide (t138.size < 1) = false := decide_eq_false (by omega)
            clear c8
            have H' := Aside0.mk H
            clear H
            go_wp2_with (first | (go_at_call 18; (with_reducible refine (impl_ValidDomain.calls k t139 true _ ?side1 A6.out).mono ?_); (case side1 => exact GlM.below hGM (by repeat (first | (with_reducible first | exact HB.out | apply below_alloc | apply pw_below_drewN | apply below_drew1) | exact HB.out))); rintro e w10 ⟨rfl, hb⟩; have n0_ := Aside0.mk (below_step (by repeat (first | (with_reducible first | exact HB.out | apply below_alloc | apply pw_below_drewN | apply below_drew1) | exact HB.out)) hb); clear HB; have HB := n0_; clear n0_; (try clear hb); (try clear hb2); (try clear hk); (try clear hi)))
            go_meet
            case rel => exact ⟨_, (decide ((t138.size : Int) > 64)), (by first | rfl | (simp; done) | (simp [*]; done)), H', ⟨by first | omega | exact Nat.le_refl _⟩, ⟨by repeat (first | (with_reducible first | exact HB.out | apply below_alloc | apply pw_below_drewN | apply below_drew1) | exact HB.out)⟩⟩
        · replace c7 := Bool.eq_false_iff.mpr c7
          subst c7
          have H1 : (impl_ValidAddress.j0 k t138 true) = some r := by rw [if_neg (show ¬ (false = true) by decide)] at H; exact H
          clear H
          have H := H1
          clear H1
          have H' := Aside0.mk H
          clear H
          go_wp2_with (first | (go_at_call 18; (with_reducible refine (impl_ValidDomain.calls k t139 false _ ?side1 A6.out).mono ?_); (case side1 => exact GlM.below hGM (by repeat (first | (with_reducible first | exact HB.out | apply below_alloc | apply pw_below_drewN | apply below_drew1) | exact HB.out))); rintro e w11 ⟨rfl, hb⟩; have n0_ := Aside0.mk (below_step (by repeat (first | (with_reducible first | exact HB.out | apply below_alloc | apply pw_below_drewN | apply below_drew1) | exact HB.out)) hb); clear HB; have HB := n0_; clear n0_; (try clear hb); (try clear hb2); (try clear hk); (try clear hi)))
          go_meet
          case rel => exact ⟨_, (true), (by first | rfl | (simp; done) | (simp [*]; done)), H', ⟨by first | omega | exact Nat.le_refl _⟩, ⟨by repeat (first | (with_reducible first | exact HB.out | apply below_alloc | apply pw_below_drewN | apply below_drew1) | exact HB.out)⟩⟩
    · replace c4 := Bool.eq_false_iff.mpr c4
      subst c4
      have H1 : (impl_ValidAddress.j0 k t138 true) = some r := by rw [if_neg (show ¬ (false = true) by decide)] at H; exact H
      clear H
      have H := H1
      clear H1
      have H' := Aside0.mk H
      clear H
      go_wp2
      go_meet
      case rel => exact ⟨_, (true), (by first | rfl | (simp; done) | (simp [*]; done)), H', ⟨by first | omega | exact Nat.le_refl _⟩, ⟨by repeat (first | (with_reducible first | exact HB.out | apply below_alloc | apply pw_below_drewN | apply below_drew1) | exact HB.out)⟩⟩
  case rest =>
    clear HC3
    try clear c2
    try clear p2
    try clear c4
    try clear c5
    try clear c5b0
    try clear c5b1
    try clear c7
    try clear c8
    try clear c8b0
    try clear c8b1
    obtain ⟨kq, x34_2, rfl, HA, HJ2, HB⟩ := hcut
    cases kq with
    | zero => exact absurd HA.out (by simp [impl_ValidAddress.j0])
    | succ kj2 =>
      have H := HA.out
      clear HA
      simp only [impl_ValidAddress.j0] at H
      by_cases c12 : x34_2 = true
      · subst c12
        have H1 : (some false) = some r := by rw [if_pos rfl] at H; exact H
        clear H
        have H := H1
        clear H1
        obtain rfl := Option.some.inj H
        go_wp2
        go_ret
        exact ⟨by first | rfl | (simp [errW_none, errW_some] <;> rfl) | (simp [*, errW_none, errW_some] <;> rfl), by repeat (first | (with_reducible first | exact HB.out | apply below_alloc | apply pw_below_drewN | apply below_drew1) | exact HB.out)⟩
      · replace c12 := Bool.eq_false_iff.mpr c12
        subst c12
        have H1 : ((impl_all_impl_ValidAddress_1.f t138).bind fun t142 => (if t142 = true then (if 0 < (t138.size : Int) then (if (bt t138 0) = 46 then (some false) else (if 0 ≤ (wrap64 ((t138.size : Int) - 1)) then (if (wrap64 ((t138.size : Int) - 1)) < (t138.size : Int) then (if (bt t138 (wrap64 ((t138.size : Int) - 1))) = 46 then (some false) else ((strings_Contains.f t138 (⟨#[46, 46]⟩ : ByteArray)).bind fun t143 => (some (!t143)))) else (none)) else (none))) else (none)) else (some false))) = some r := by rw [if_neg (show ¬ (false = true) by decide)] at H; exact H
        clear H
        have H := H1
        clear H1
        replace H := Option.bind_eq_some_iff.mp H
        obtain ⟨t142, A130, H⟩ := H
        replace H : (if t142 = true then (if 0 < (t138.size : Int) then (if (bt t138 0) = 46 then (some false) else (if 0 ≤ (wrap64 ((t138.size : Int) - 1)) then (if (wrap64 ((t138.size : Int) - 1)) < (t138.size : Int) then (if (bt t138 (wrap64 ((t138.size : Int) - 1))) = 46 then (some false) else ((strings_Contains.f t138 (⟨#[46, 46]⟩ : ByteArray)).bind fun t143 => (some (!t143)))) else (none)) else (none))) else (none)) else (some false)) = some r := H
        have A13 := Aside0.mk A130
        clear A130
        by_cases c14 : t142 = true
        · subst c14
          have H1 : (if 0 < (t138.size : Int) then (if (bt t138 0) = 46 then (some false) else (if 0 ≤ (wrap64 ((t138.size : Int) - 1)) then (if (wrap64 ((t138.size : Int) - 1)) < (t138.size : Int) then (if (bt t138 (wrap64 ((t138.size : Int) - 1))) = 46 then (some false) else ((strings_Contains.f t138 (⟨#[46, 46]⟩ : ByteArray)).bind fun t143 => (some (!t143)))) else (none)) else (none))) else (none)) = some r := by rw [if_pos rfl] at H; exact H
          clear H
          have H := H1
          clear H1
          by_cases c15 : 0 < (t138.size : Int)
          · rw [if_pos c15] at H
            have c15b0 : decide (0 < (t138.size : Int)) = true := decide_eq_true c15
            have c15b1 : decide (0 < t138.size) = true := decide_eq_true (by omega)
            clear c15
            by_cases c17 : (bt t138 0) = 46
            · rw [if_pos c17] at H
              have c17b0 : ((bt t138 0) == 46) = true := beq_iff_eq.mpr c17
              have c17b1 : ((bt t138 0) != 46) = false := bne_eq_false_iff_eq.mpr c17
              clear c17
              obtain rfl := Option.some.inj H
              go_wp2_with (first | ((with_reducible refine gate_callee (f := 64) rfl ?_); refine goesL_ (some 37) rfl rfl Tryd.func64 (by kernel_rfl) rfl #[.string t138, (.func (.func 71) #[] #[])] rfl (by (try simp only [List.map_toArray, List.map_cons, List.map_nil]); first | done | rfl | (simp only [List.length_drop, List.length_take]; rfl)) ?_; (with_reducible refine (impl_all_impl_ValidAddress_1.calls t138 true _ A13.out).mono ?_); rintro e w' ⟨rfl, ⟨nd, rfl⟩⟩; refine ⟨_, rfl, ?_⟩; have p16 : 0 ≤ (0 : Int) := (by omega); have q16 : 0 < t138.size := (by have : (0 : Int) < (t138.size : Int) := of_decide_eq_true (by first | (with_reducible assumption) | assumption); omega); have hx16 : ∀ h : 0 < t138.size, ((t138[0]'h).toNat : Int) = bt t138 0 := bt_at t138 0; clear p16; have qi16 : (0 < (t138.size : Int)) = True := eq_true (of_decide_eq_true (by first | (with_reducible assumption) | assumption)); replace q16 := eq_true q16))
              go_ret
              exact ⟨by first | rfl | (simp [errW_none, errW_some] <;> rfl) | (simp [*, errW_none, errW_some] <;> rfl), by repeat (first | (with_reducible first | exact HB.out | apply below_alloc | apply pw_below_drewN | apply below_drew1) | exact HB.out)⟩
            · rw [if_neg c17] at H
              have c17b0 : ((bt t138 0) == 46) = false := beq_eq_false_iff_ne.mpr c17
              have c17b1 : ((bt t138 0) != 46) = true := bne_iff_ne.mpr c17
              obtain ⟨ji18, hji18⟩ : ∃ j_ : Int, (wrap64 ((t138.size : Int) - 1)) = j_ := ⟨_, rfl⟩
              replace H : (if 0 ≤ (ji18) then (if (ji18) < (t138.size : Int) then (if (bt t138 (ji18)) = 46 then (some false) else ((strings_Contains.f t138 (⟨#[46, 46]⟩ : ByteArray)).bind fun t143 => (some (!t143)))) else (none)) else (none)) = some r := by first | (rw [hji18] at H; exact H) | (simp only [hji18] at H ⊢; exact H)
              (try rw [hji18] at A13)
              have hji18w : (IntKind.i64.wrap ((t138.size : Int) - 1)) = ji18 := (i64_w _).trans hji18
              by_cases c19 : 0 ≤ (ji18)
              · rw [if_pos c19] at H
                have c19b0 : decide (0 ≤ (ji18)) = true := decide_eq_true c19
                clear c19
                by_cases c20 : (ji18) < (t138.size : Int)
                · rw [if_pos c20] at H
                  have c20b0 : decide ((ji18) < (t138.size : Int)) = true := decide_eq_true c20
                  clear c20
                  by_cases c22 : (bt t138 (ji18)) = 46
                  · rw [if_pos c22] at H
                    have c22b0 : ((bt t138 (ji18)) == 46) = true := beq_iff_eq.mpr c22
                    have c22b1 : ((bt t138 (ji18)) != 46) = false := bne_eq_false_iff_eq.mpr c22
                    clear c22
                    obtain rfl := Option.some.inj H
                    go_wp2_with (first | ((with_reducible refine gate_callee (f := 64) rfl ?_); refine goesL_ (some 37) rfl rfl Tryd.func64 (by kernel_rfl) rfl #[.string t138, (.func (.func 71) #[] #[])] rfl (by (try simp only [List.map_toArray, List.map_cons, List.map_nil]); first | done | rfl | (simp only [List.length_drop, List.length_take]; rfl)) ?_; (with_reducible refine (impl_all_impl_ValidAddress_1.calls t138 true _ A13.out).mono ?_); rintro e w' ⟨rfl, ⟨nd, rfl⟩⟩; refine ⟨_, rfl, ?_⟩; have p16 : 0 ≤ (0 : Int) := (by omega); have q16 : 0 < t138.size := (by have : (0 : Int) < (t138.size : Int) := of_decide_eq_true (by first | (with_reducible assumption) | assumption); omega); have hx16 : ∀ h : 0 < t138.size, ((t138[0]'h).toNat : Int) = bt t138 0 := bt_at t138 0; clear p16; have qi16 : (0 < (t138.size : Int)) = True := eq_true (of_decide_eq_true (by first | (with_reducible assumption) | assumption)); replace q16 := eq_true q16; have p21 : 0 ≤ ((ji18) : Int) := of_decide_eq_true (by first | (with_reducible assumption) | assumption); have q21 : (ji18) < (t138.size : Int) := of_decide_eq_true (by first | (with_reducible assumption) | assumption); have hx21 := bt_at t138 (ji18); replace p21 := eq_true p21; replace q21 := eq_true q21))
                    go_ret
                    exact ⟨by first | rfl | (simp [errW_none, errW_some] <;> rfl) | (simp only [← hji18]; first | rfl | (simp [errW_none, errW_some] <;> rfl)) | (simp [*, errW_none, errW_some] <;> rfl), by repeat (first | (with_reducible first | exact HB.out | apply below_alloc | apply pw_below_drewN | apply below_drew1) | exact HB.out)⟩
                  · rw [if_neg c22] at H
                    have c22b0 : ((bt t138 (ji18)) == 46) = false := beq_eq_false_iff_ne.mpr c22
                    have c22b1 : ((bt t138 (ji18)) != 46) = true := bne_iff_ne.mpr c22
                    replace H := Option.bind_eq_some_iff.mp H
                    obtain ⟨t143, A230, H⟩ := H
                    replace H : (some (!t143)) = some r := H
                    have A23 := Aside0.mk A230
                    clear A230
                    obtain rfl := Option.some.inj H
                    go_wp2_with (first | ((with_reducible refine gate_callee (f := 64) rfl ?_); refine goesL_ (some 37) rfl rfl Tryd.func64 (by kernel_rfl) rfl #[.string t138, (.func (.func 71) #[] #[])] rfl (by (try simp only [List.map_toArray, List.map_cons, List.map_nil]); first | done | rfl | (simp only [List.length_drop, List.length_take]; rfl)) ?_; (with_reducible refine (impl_all_impl_ValidAddress_1.calls t138 true _ A13.out).mono ?_); rintro e w' ⟨rfl, ⟨nd, rfl⟩⟩; refine ⟨_, rfl, ?_⟩; have p16 : 0 ≤ (0 : Int) := (by omega); have q16 : 0 < t138.size := (by have : (0 : Int) < (t138.size : Int) := of_decide_eq_true (by first | (with_reducible assumption) | assumption); omega); have hx16 : ∀ h : 0 < t138.size, ((t138[0]'h).toNat : Int) = bt t138 0 := bt_at t138 0; clear p16; have qi16 : (0 < (t138.size : Int)) = True := eq_true (of_decide_eq_true (by first | (with_reducible assumption) | assumption)); replace q16 := eq_true q16; have p21 : 0 ≤ ((ji18) : Int) := of_decide_eq_true (by first | (with_reducible assumption) | assumption); have q21 : (ji18) < (t138.size : Int) := of_decide_eq_true (by first | (with_reducible assumption) | assumption); have hx21 := bt_at t138 (ji18); replace p21 := eq_true p21; replace q21 := eq_true q21) | (go_at_call 73; (with_reducible refine (strings_Contains.calls t138 (⟨#[46, 46]⟩ : ByteArray) t143 _ ?side1 A23.out).mono ?_); (case side1 => exact GlM.below hGM (by repeat (first | (with_reducible first | exact HB.out | apply below_alloc | apply pw_below_drewN | apply below_drew1) | exact HB.out))); rintro e w' ⟨rfl, ⟨nd, rfl⟩⟩))
                    go_ret
                    exact ⟨by first | rfl | (simp [errW_none, errW_some] <;> rfl) | (simp only [← hji18]; first | rfl | (simp [errW_none, errW_some] <;> rfl)) | (simp [*, errW_none, errW_some] <;> rfl), by repeat (first | (with_reducible first | exact HB.out | apply below_alloc | apply pw_below_drewN | apply below_drew1) | exact HB.out)⟩
                · rw [if_neg c20] at H
                  exact absurd H (by simp)
              · rw [if_neg c19] at H
                exact absurd H (by simp)
          · rw [if_neg c15] at H
            exact absurd H (by simp)
        · replace c14 := Bool.eq_false_iff.mpr c14
          subst c14
          have H1 : (some false) = some r := by rw [if_neg (show ¬ (false = true) by decide)] at H; exact H
          clear H
          have H := H1
          clear H1
          obtain rfl := Option.some.inj H
          go_wp2_with (first | ((with_reducible refine gate_callee (f := 64) rfl ?_); refine goesL_ (some 37) rfl rfl Tryd.func64 (by kernel_rfl) rfl #[.string t138, (.func (.func 71) #[] #[])] rfl (by (try simp only [List.map_toArray, List.map_cons, List.map_nil]); first | done | rfl | (simp only [List.length_drop, List.length_take]; rfl)) ?_; (with_reducible refine (impl_all_impl_ValidAddress_1.calls t138 false _ A13.out).mono ?_); rintro e w' ⟨rfl, ⟨nd, rfl⟩⟩; refine ⟨_, rfl, ?_⟩))
          go_ret
          exact ⟨by first | rfl | (simp [errW_none, errW_some] <;> rfl) | (simp [*, errW_none, errW_some] <;> rfl), by repeat (first | (with_reducible first | exact HB.out | apply below_alloc | apply pw_below_drewN | apply below_drew1) | exact HB.out)⟩

/-! ### laws_FnExactValidAddress: function 4 -/
def laws_FnExactValidAddress.f (k : Nat) (a0 : ByteArray) : Option (Bool) := if (a0.size : Int) > 1048576 then (some true) else ((spec_ValidAddress.f k a0).bind fun t144 => ((impl_ValidAddress.f k a0).bind fun t145 => (if (t145 != t144) = true then (some false) else (some true))))
theorem laws_FnExactValidAddress.mono : ∀ a0 k, LeO (laws_FnExactValidAddress.f k a0) (laws_FnExactValidAddress.f (k + 1) a0) := by
  intro a0 k
  unfold laws_FnExactValidAddress.f
  repeat' first
      | (with_reducible exact impl_ValidAddress.mono _ _)
      | (with_reducible exact spec_ValidAddress.mono _ _)
      | (with_reducible exact LeO.refl _)
      | (with_reducible exact LeO.none _)
      | (with_reducible refine LeO.ite ?_ ?_)
      | (with_reducible refine LeO.bind ?_ (fun _ => ?_))
      | exact impl_ValidAddress.mono _ _
      | exact spec_ValidAddress.mono _ _
      | exact LeO.none _
      | refine LeO.ite ?_ ?_
      | refine LeO.bind ?_ (fun _ => ?_)
set_option maxHeartbeats 8000000 in
set_option maxRecDepth 100000 in
theorem laws_FnExactValidAddress.calls (k : Nat) (a0 : ByteArray) (r : Bool) (w : World) (hGM : GlM w) (h : laws_FnExactValidAddress.f k a0 = some r) :
    Calls Tryd.prog 4 #[.string a0] w fun e w' => e = .returned (.bool r) ∧ Below w.heap.size w w' := by
  have HB := Aside0.mk (Below.refl w.heap.size w)
  have H : (if (a0.size : Int) > 1048576 then (some true) else ((spec_ValidAddress.f k a0).bind fun t144 => ((impl_ValidAddress.f k a0).bind fun t145 => (if (t145 != t144) = true then (some false) else (some true))))) = some r := h
  clear h
  by_cases c2 : (a0.size : Int) > 1048576
  · rw [if_pos c2] at H
    have c2b0 : decide (1048576 < (a0.size : Int)) = true := decide_eq_true c2
    have c2b1 : decide (1048576 < a0.size) = true := decide_eq_true (by omega)
    clear c2
    obtain rfl := Option.some.inj H
    go_enter Tryd.func4, Tryd.ntmps4
    go_wp2
    go_ret
    exact ⟨by first | rfl | (simp [errW_none, errW_some] <;> rfl) | (simp [*, errW_none, errW_some] <;> rfl), by repeat (first | (with_reducible first | exact HB.out | apply below_alloc | apply pw_below_drewN | apply below_drew1) | exact HB.out)⟩
  · rw [if_neg c2] at H
    have c2b0 : decide (1048576 < (a0.size : Int)) = false := decide_eq_false c2
    have c2b1 : decide (1048576 < a0.size) = false := decide_eq_false (by omega)
    clear c2
    replace H := Option.bind_eq_some_iff.mp H
    obtain ⟨t144, A30, H⟩ := H
    replace H : ((impl_ValidAddress.f k a0).bind fun t145 => (if (t145 != t144) = true then (some false) else (some true))) = some r := H
    have A3 := Aside0.mk A30
    clear A30
    replace H := Option.bind_eq_some_iff.mp H
    obtain ⟨t145, A40, H⟩ := H
    replace H : (if (t145 != t144) = true then (some false) else (some true)) = some r := H
    have A4 := Aside0.mk A40
    clear A40
    by_cases c5 : (t145 != t144) = true
    · rw [if_pos c5] at H
      have c5b0 : (t145 != t144) = true := c5
      (try (have c5b1 : decide (t145 = t144) = false := by simpa using c5))
      (try (have c5b2 : (t145 == t144) = false := by simpa using c5))
      (try (have c5b3 : ¬ (t145 = t144) := by simpa using c5))
      clear c5
      obtain rfl := Option.some.inj H
      go_enter Tryd.func4, Tryd.ntmps4
      go_wp2_with (first | ((with_reducible refine gate_callee (f := 19) rfl ?_); refine goesL_ (some 9) rfl rfl Tryd.func19 (by kernel_rfl) rfl #[.string a0] rfl (by (try simp only [List.map_toArray, List.map_cons, List.map_nil]); first | done | rfl | (simp only [List.length_drop, List.length_take]; rfl)) ?_; (with_reducible refine (spec_ValidAddress.calls k a0 t144 _ A3.out).mono ?_); rintro e w6 ⟨rfl, hb⟩; refine ⟨_, rfl, ?_⟩; have n0_ := Aside0.mk (below_step (by repeat (first | (with_reducible first | exact HB.out | apply below_alloc | apply pw_below_drewN | apply below_drew1) | exact HB.out)) hb); clear HB; have HB := n0_; clear n0_; (try clear hb); (try clear hb2); (try clear hk); (try clear hi)) | ((with_reducible refine gate_callee (f := 20) rfl ?_); refine goesL_ (some 11) rfl rfl Tryd.func20 (by kernel_rfl) rfl #[.string a0] rfl (by (try simp only [List.map_toArray, List.map_cons, List.map_nil]); first | done | rfl | (simp only [List.length_drop, List.length_take]; rfl)) ?_; (with_reducible refine (impl_ValidAddress.calls k a0 t145 _ ?side1 A4.out).mono ?_); (case side1 => exact GlM.below hGM (by repeat (first | (with_reducible first | exact HB.out | apply below_alloc | apply pw_below_drewN | apply below_drew1) | exact HB.out))); rintro e w7 ⟨rfl, hb⟩; refine ⟨_, rfl, ?_⟩; have n0_ := Aside0.mk (below_step (by repeat (first | (with_reducible first | exact HB.out | apply below_alloc | apply pw_below_drewN | apply below_drew1) | exact HB.out)) hb); clear HB; have HB := n0_; clear n0_; (try clear hb); (try clear hb2); (try clear hk); (try clear hi)))
      go_ret
      exact ⟨by first | rfl | (simp [errW_none, errW_some] <;> rfl) | (simp [*, errW_none, errW_some] <;> rfl), by repeat (first | (with_reducible first | exact HB.out | apply below_alloc | apply pw_below_drewN | apply below_drew1) | exact HB.out)⟩
    · rw [if_neg c5] at H
      have c5b0 : (t145 != t144) = false := by simpa using c5
      (try (have c5b1 : decide (t145 = t144) = true := by simpa using c5))
      (try (have c5b2 : (t145 == t144) = true := by simpa using c5))
      clear c5
      obtain rfl := Option.some.inj H
      go_enter Tryd.func4, Tryd.ntmps4
      go_wp2_with (first | ((with_reducible refine gate_callee (f := 19) rfl ?_); refine goesL_ (some 9) rfl rfl Tryd.func19 (by kernel_rfl) rfl #[.string a0] rfl (by (try simp only [List.map_toArray, List.map_cons, List.map_nil]); first | done | rfl | (simp only [List.length_drop, List.length_take]; rfl)) ?_; (with_reducible refine (spec_ValidAddress.calls k a0 t144 _ A3.out).mono ?_); rintro e w8 ⟨rfl, hb⟩; refine ⟨_, rfl, ?_⟩; have n0_ := Aside0.mk (below_step (by repeat (first | (with_reducible first | exact HB.out | apply below_alloc | apply pw_below_drewN | apply below_drew1) | exact HB.out)) hb); clear HB; have HB := n0_; clear n0_; (try clear hb); (try clear hb2); (try clear hk); (try clear hi)) | ((with_reducible refine gate_callee (f := 20) rfl ?_); refine goesL_ (some 11) rfl rfl Tryd.func20 (by kernel_rfl) rfl #[.string a0] rfl (by (try simp only [List.map_toArray, List.map_cons, List.map_nil]); first | done | rfl | (simp only [List.length_drop, List.length_take]; rfl)) ?_; (with_reducible refine (impl_ValidAddress.calls k a0 t145 _ ?side1 A4.out).mono ?_); (case side1 => exact GlM.below hGM (by repeat (first | (with_reducible first | exact HB.out | apply below_alloc | apply pw_below_drewN | apply below_drew1) | exact HB.out))); rintro e w9 ⟨rfl, hb⟩; refine ⟨_, rfl, ?_⟩; have n0_ := Aside0.mk (below_step (by repeat (first | (with_reducible first | exact HB.out | apply below_alloc | apply pw_below_drewN | apply below_drew1) | exact HB.out)) hb); clear HB; have HB := n0_; clear n0_; (try clear hb); (try clear hb2); (try clear hk); (try clear hi)))
      go_ret
      exact ⟨by first | rfl | (simp [errW_none, errW_some] <;> rfl) | (simp [*, errW_none, errW_some] <;> rfl), by repeat (first | (with_reducible first | exact HB.out | apply below_alloc | apply pw_below_drewN | apply below_drew1) | exact HB.out)⟩

/-! ### spec_Command: function 21 -/
mutual
def spec_Command.j0 : Nat → Int → ByteArray → Int → Bool → Option (ByteArray)
  | 0, _, _, _, _ => none
  | k + 1, x0, x1, x5, x6 => if x6 = true then ((spec_ValidDomain.f k x1).bind fun t146 => (if t146 = true then ((some (([(⟨#[69, 72, 76, 79, 32]⟩ : ByteArray), (⟨#[72, 69, 76, 79, 32]⟩ : ByteArray)] : List ByteArray) : List ByteArray)).bind fun y147 => (if 0 ≤ (wrap64 (x0 - 1)) then (if (wrap64 (x0 - 1)) < (y147.length : Int) then (if (rdOf ByteArray.empty y147 (wrap64 (x0 - 1))).size + x1.size ≤ 9223372036854775807 then (if ((rdOf ByteArray.empty y147 (wrap64 (x0 - 1))) ++ x1).size + 2 ≤ 9223372036854775807 then (some (((rdOf ByteArray.empty y147 (wrap64 (x0 - 1))) ++ x1) ++ (⟨#[13, 10]⟩ : ByteArray))) else (none)) else (none)) else (none)) else (none))) else (some (⟨#[]⟩ : ByteArray)))) else (if x5 = 3 then (if x1.toList = ([] : List UInt8) then (if 11 + x1.size ≤ 9223372036854775807 then (if ((⟨#[77, 65, 73, 76, 32, 70, 82, 79, 77, 58, 60]⟩ : ByteArray) ++ x1).size + 3 ≤ 9223372036854775807 then (some (((⟨#[77, 65, 73, 76, 32, 70, 82, 79, 77, 58, 60]⟩ : ByteArray) ++ x1) ++ (⟨#[62, 13, 10]⟩ : ByteArray))) else (none)) else (none)) else ((spec_ValidAddress.f k x1).bind fun t151 => (if t151 = true then (if 11 + x1.size ≤ 9223372036854775807 then (if ((⟨#[77, 65, 73, 76, 32, 70, 82, 79, 77, 58, 60]⟩ : ByteArray) ++ x1).size + 3 ≤ 9223372036854775807 then (some (((⟨#[77, 65, 73, 76, 32, 70, 82, 79, 77, 58, 60]⟩ : ByteArray) ++ x1) ++ (⟨#[62, 13, 10]⟩ : ByteArray))) else (none)) else (none)) else (some (⟨#[]⟩ : ByteArray))))) else (if x5 = 4 then ((spec_ValidAddress.f k x1).bind fun t152 => (if t152 = true then (if 9 + x1.size ≤ 9223372036854775807 then (if ((⟨#[82, 67, 80, 84, 32, 84, 79, 58, 60]⟩ : ByteArray) ++ x1).size + 3 ≤ 9223372036854775807 then (some (((⟨#[82, 67, 80, 84, 32, 84, 79, 58, 60]⟩ : ByteArray) ++ x1) ++ (⟨#[62, 13, 10]⟩ : ByteArray))) else (none)) else (none)) else (some (⟨#[]⟩ : ByteArray)))) else (if x5 = 5 then (spec_Command.j1 k x0 x1 (x5 == 5)) else (spec_Command.j1 k x0 x1 (x5 == 6)))))
def spec_Command.j1 : Nat → Int → ByteArray → Bool → Option (ByteArray)
  | 0, _, _, _ => none
  | k + 1, x0, x1, x37 => if x37 = true then (if x1.toList = ([] : List UInt8) then ((some (([(⟨#[68, 65, 84, 65]⟩ : ByteArray), (⟨#[81, 85, 73, 84]⟩ : ByteArray)] : List ByteArray) : List ByteArray)).bind fun y153 => (if 0 ≤ (wrap64 (x0 - 5)) then (if (wrap64 (x0 - 5)) < (y153.length : Int) then (if (rdOf ByteArray.empty y153 (wrap64 (x0 - 5))).size + 2 ≤ 9223372036854775807 then (some ((rdOf ByteArray.empty y153 (wrap64 (x0 - 5))) ++ (⟨#[13, 10]⟩ : ByteArray))) else (none)) else (none)) else (none))) else (some (⟨#[]⟩ : ByteArray))) else (some (⟨#[]⟩ : ByteArray))
end
def spec_Command.f (k : Nat) (a0 : Int) (a1 : ByteArray) : Option (ByteArray) := if a0 = 1 then (spec_Command.j0 k a0 a1 a0 (a0 == 1)) else (spec_Command.j0 k a0 a1 a0 (a0 == 2))
theorem spec_Command.mono_l : ∀ k, (∀ y0 y1 y2 y3, LeO (spec_Command.j0 k y0 y1 y2 y3) (spec_Command.j0 (k + 1) y0 y1 y2 y3)) ∧ (∀ y0 y1 y2, LeO (spec_Command.j1 k y0 y1 y2) (spec_Command.j1 (k + 1) y0 y1 y2))
  | 0 => ⟨fun _ _ _ _ r h => by simp [spec_Command.j0] at h, fun _ _ _ r h => by simp [spec_Command.j1] at h⟩
  | k + 1 => by
    obtain ⟨ih0, ih1⟩ := spec_Command.mono_l k
    refine ⟨?_, ?_⟩
    · intro y0 y1 y2 y3
      unfold spec_Command.j0
      repeat' first
      | (with_reducible exact ih0 _ _ _ _)
      | (with_reducible exact ih1 _ _ _)
      | (with_reducible exact spec_ValidAddress.mono _ _)
      | (with_reducible exact spec_ValidDomain.mono _ _)
      | (with_reducible exact LeO.refl _)
      | (with_reducible exact LeO.none _)
      | (with_reducible refine LeO.ite ?_ ?_)
      | (with_reducible refine LeO.bind ?_ (fun _ => ?_))
      | exact ih0 _ _ _ _
      | exact ih1 _ _ _
      | exact spec_ValidAddress.mono _ _
      | exact spec_ValidDomain.mono _ _
      | exact LeO.none _
      | refine LeO.ite ?_ ?_
      | refine LeO.bind ?_ (fun _ => ?_)
    · intro y0 y1 y2
      unfold spec_Command.j1
      repeat' first
      | (with_reducible exact ih0 _ _ _ _)
      | (with_reducible exact ih1 _ _ _)
      | (with_reducible exact spec_ValidAddress.mono _ _)
      | (with_reducible exact spec_ValidDomain.mono _ _)
      | (with_reducible exact LeO.refl _)
      | (with_reducible exact LeO.none _)
      | (with_reducible refine LeO.ite ?_ ?_)
      | (with_reducible refine LeO.bind ?_ (fun _ => ?_))
      | exact ih0 _ _ _ _
      | exact ih1 _ _ _
      | exact spec_ValidAddress.mono _ _
      | exact spec_ValidDomain.mono _ _
      | exact LeO.none _
      | refine LeO.ite ?_ ?_
      | refine LeO.bind ?_ (fun _ => ?_)
theorem spec_Command.mono : ∀ a0 a1 k, LeO (spec_Command.f k a0 a1) (spec_Command.f (k + 1) a0 a1) := by
  intro a0 a1 k
  obtain ⟨ih0, ih1⟩ := spec_Command.mono_l k
  unfold spec_Command.f
  repeat' first
      | (with_reducible exact ih0 _ _ _ _)
      | (with_reducible exact ih1 _ _ _)
      | (with_reducible exact spec_ValidAddress.mono _ _)
      | (with_reducible exact spec_ValidDomain.mono _ _)
      | (with_reducible exact LeO.refl _)
      | (with_reducible exact LeO.none _)
      | (with_reducible refine LeO.ite ?_ ?_)
      | (with_reducible refine LeO.bind ?_ (fun _ => ?_))
      | exact ih0 _ _ _ _
      | exact ih1 _ _ _
      | exact spec_ValidAddress.mono _ _
      | exact spec_ValidDomain.mono _ _
      | exact LeO.none _
      | refine LeO.ite ?_ ?_
      | refine LeO.bind ?_ (fun _ => ?_)
set_option maxHeartbeats 8000000 in
set_option maxRecDepth 100000 in
theorem spec_Command.calls (k : Nat) (a0 : Int) (a1 : ByteArray) (r : ByteArray) (w : World) (h : spec_Command.f k a0 a1 = some r) :
    Calls Tryd.prog 21 #[.int .i64 a0, .string a1] w fun e w' => e = .returned (.string r) ∧ Below w.heap.size w w' := by
  have HB := Aside0.mk (Below.refl w.heap.size w)
  have H : (if a0 = 1 then (spec_Command.j0 k a0 a1 a0 (a0 == 1)) else (spec_Command.j0 k a0 a1 a0 (a0 == 2))) = some r := h
  clear h
  have HC3 := Aside0.mk H
  clear H
  go_enter Tryd.func21, Tryd.ntmps21
  go_upto_if 6 with (fail)
  go_cut [6] (fun v6 wc => ∃ (kq : Nat) (x6_2 : Bool), v6 = .bool x6_2 ∧ Aside0 (spec_Command.j0 kq a0 a1 a0 x6_2 = some r) ∧ Aside0 (kq ≤ k) ∧ Aside0 (Below w.heap.size w wc))
  case first =>
    have H := HC3.out
    clear HC3
    by_cases c4 : a0 = 1
    · rw [if_pos c4] at H
      have c4b0 : (a0 == 1) = true := beq_iff_eq.mpr c4
      have c4b1 : (a0 != 1) = false := bne_eq_false_iff_eq.mpr c4
      clear c4
      (first | rw [c4b0] | (simp only [i64_w, i32_w]; rw [c4b0]) | skip)
      have H' := Aside0.mk H
      clear H
      go_wp2
      go_meet
      case rel => exact ⟨_, ((a0 == 1)), (by first | rfl | (simp; done) | (simp [*]; done)), H', ⟨by first | omega | exact Nat.le_refl _⟩, ⟨by repeat (first | (with_reducible first | exact HB.out | apply below_alloc | apply pw_below_drewN | apply below_drew1) | exact HB.out)⟩⟩
    · rw [if_neg c4] at H
      have c4b0 : (a0 == 1) = false := beq_eq_false_iff_ne.mpr c4
      have c4b1 : (a0 != 1) = true := bne_iff_ne.mpr c4
      (first | rw [c4b0] | (simp only [i64_w, i32_w]; rw [c4b0]) | skip)
      have H' := Aside0.mk H
      clear H
      go_wp2
      go_meet
      case rel => exact ⟨_, ((a0 == 2)), (by first | rfl | (simp; done) | (simp [*]; done)), H', ⟨by first | omega | exact Nat.le_refl _⟩, ⟨by repeat (first | (with_reducible first | exact HB.out | apply below_alloc | apply pw_below_drewN | apply below_drew1) | exact HB.out)⟩⟩
  case rest =>
    clear HC3
    try clear c2
    try clear p2
    try clear c4
    try clear c4b0
    try clear c4b1
    obtain ⟨kq, x6_2, rfl, HA, HJ2, HB⟩ := hcut
    cases kq with
    | zero => exact absurd HA.out (by simp [spec_Command.j0])
    | succ kj2 =>
      have H := HA.out
      clear HA
      simp only [spec_Command.j0] at H
      by_cases c5 : x6_2 = true
      · subst c5
        have H1 : ((spec_ValidDomain.f kj2 a1).bind fun t146 => (if t146 = true then ((some (([(⟨#[69, 72, 76, 79, 32]⟩ : ByteArray), (⟨#[72, 69, 76, 79, 32]⟩ : ByteArray)] : List ByteArray) : List ByteArray)).bind fun y147 => (if 0 ≤ (wrap64 (a0 - 1)) then (if (wrap64 (a0 - 1)) < (y147.length : Int) then (if (rdOf ByteArray.empty y147 (wrap64 (a0 - 1))).size + a1.size ≤ 9223372036854775807 then (if ((rdOf ByteArray.empty y147 (wrap64 (a0 - 1))) ++ a1).size + 2 ≤ 9223372036854775807 then (some (((rdOf ByteArray.empty y147 (wrap64 (a0 - 1))) ++ a1) ++ (⟨#[13, 10]⟩ : ByteArray))) else (none)) else (none)) else (none)) else (none))) else (some (⟨#[]⟩ : ByteArray)))) = some r := by rw [if_pos rfl] at H; exact H
        clear H
        have H := H1
        clear H1
        replace H := Option.bind_eq_some_iff.mp H
        obtain ⟨t146, A60, H⟩ := H
        replace H : (if t146 = true then ((some (([(⟨#[69, 72, 76, 79, 32]⟩ : ByteArray), (⟨#[72, 69, 76, 79, 32]⟩ : ByteArray)] : List ByteArray) : List ByteArray)).bind fun y147 => (if 0 ≤ (wrap64 (a0 - 1)) then (if (wrap64 (a0 - 1)) < (y147.length : Int) then (if (rdOf ByteArray.empty y147 (wrap64 (a0 - 1))).size + a1.size ≤ 9223372036854775807 then (if ((rdOf ByteArray.empty y147 (wrap64 (a0 - 1))) ++ a1).size + 2 ≤ 9223372036854775807 then (some (((rdOf ByteArray.empty y147 (wrap64 (a0 - 1))) ++ a1) ++ (⟨#[13, 10]⟩ : ByteArray))) else (none)) else (none)) else (none)) else (none))) else (some (⟨#[]⟩ : ByteArray))) = some r := H
        have A6 := Aside0.mk A60
        clear A60
        by_cases c7 : t146 = true
        · subst c7
          have H1 : ((some (([(⟨#[69, 72, 76, 79, 32]⟩ : ByteArray), (⟨#[72, 69, 76, 79, 32]⟩ : ByteArray)] : List ByteArray) : List ByteArray)).bind fun y147 => (if 0 ≤ (wrap64 (a0 - 1)) then (if (wrap64 (a0 - 1)) < (y147.length : Int) then (if (rdOf ByteArray.empty y147 (wrap64 (a0 - 1))).size + a1.size ≤ 9223372036854775807 then (if ((rdOf ByteArray.empty y147 (wrap64 (a0 - 1))) ++ a1).size + 2 ≤ 9223372036854775807 then (some (((rdOf ByteArray.empty y147 (wrap64 (a0 - 1))) ++ a1) ++ (⟨#[13, 10]⟩ : ByteArray))) else (none)) else (none)) else (none)) else (none))) = some r := by rw [if_pos rfl] at H; exact H
          clear H
          have H := H1
          clear H1
          obtain ⟨y147, hy147⟩ : ∃ y_ : List ByteArray, y_ = (([(⟨#[69, 72, 76, 79, 32]⟩ : ByteArray), (⟨#[72, 69, 76, 79, 32]⟩ : ByteArray)] : List ByteArray)) := ⟨_, rfl⟩
          replace H : (if 0 ≤ (wrap64 (a0 - 1)) then (if (wrap64 (a0 - 1)) < (y147.length : Int) then (if (rdOf ByteArray.empty y147 (wrap64 (a0 - 1))).size + a1.size ≤ 9223372036854775807 then (if ((rdOf ByteArray.empty y147 (wrap64 (a0 - 1))) ++ a1).size + 2 ≤ 9223372036854775807 then (some (((rdOf ByteArray.empty y147 (wrap64 (a0 - 1))) ++ a1) ++ (⟨#[13, 10]⟩ : ByteArray))) else (none)) else (none)) else (none)) else (none)) = some r := by first | (rw [hy147]; with_reducible exact H) | (have H2_ := (Option.bind_some _ _).symm.trans H; rw [hy147]; with_reducible exact H2_) | (have H2_ := (Option.bind_some _ _).symm.trans H; with_reducible exact H2_) | with_reducible exact H | (rw [hy147]; exact H) | exact H
          have Ny147 := Aside0.mk hy147
          clear hy147
          obtain ⟨ji8, hji8⟩ : ∃ j_ : Int, (wrap64 (a0 - 1)) = j_ := ⟨_, rfl⟩
          replace H : (if 0 ≤ (ji8) then (if (ji8) < (y147.length : Int) then (if (rdOf ByteArray.empty y147 (ji8)).size + a1.size ≤ 9223372036854775807 then (if ((rdOf ByteArray.empty y147 (ji8)) ++ a1).size + 2 ≤ 9223372036854775807 then (some (((rdOf ByteArray.empty y147 (ji8)) ++ a1) ++ (⟨#[13, 10]⟩ : ByteArray))) else (none)) else (none)) else (none)) else (none)) = some r := by first | (rw [hji8] at H; exact H) | (simp only [hji8] at H ⊢; exact H)
          (try rw [hji8] at A6)
          have hji8w : (IntKind.i64.wrap (a0 - 1)) = ji8 := (i64_w _).trans hji8
          by_cases c9 : 0 ≤ (ji8)
          · rw [if_pos c9] at H
            have c9b0 : decide (0 ≤ (ji8)) = true := decide_eq_true c9
            clear c9
            by_cases c10 : (ji8) < (y147.length : Int)
            · rw [if_pos c10] at H
              have c10b0 : decide ((ji8) < (y147.length : Int)) = true := decide_eq_true c10
              clear c10
              by_cases c11 : (rdOf ByteArray.empty y147 (ji8)).size + a1.size ≤ 9223372036854775807
              · rw [if_pos c11] at H
                have c11b0 := eq_true c11
                have c11b1 : decide ((rdOf ByteArray.empty y147 (ji8)).size + a1.size ≤ 9223372036854775807) = true := decide_eq_true c11
                try have c11b2 : (9223372036854775807 < (rdOf ByteArray.empty y147 (ji8)).size + a1.size) = False := eq_false (Nat.not_lt.2 c11)
                by_cases c12 : ((rdOf ByteArray.empty y147 (ji8)) ++ a1).size + 2 ≤ 9223372036854775807
                · rw [if_pos c12] at H
                  have c12b0 := eq_true c12
                  have c12b1 : decide (((rdOf ByteArray.empty y147 (ji8)) ++ a1).size + 2 ≤ 9223372036854775807) = true := decide_eq_true c12
                  try have c12b2 : (9223372036854775807 < ((rdOf ByteArray.empty y147 (ji8)) ++ a1).size + 2) = False := eq_false (Nat.not_lt.2 c12)
                  try have c12b3 := c12b2
                  try simp only [ByteArray.size_append] at c12b3
                  obtain rfl := Option.some.inj H
                  go_wp2_with (first | ((with_reducible refine gate_callee (f := 17) rfl ?_); refine goesL_ (some 10) rfl rfl Tryd.func17 (by kernel_rfl) rfl #[.string a1] rfl (by (try simp only [List.map_toArray, List.map_cons, List.map_nil]); first | done | rfl | (simp only [List.length_drop, List.length_take]; rfl)) ?_; (with_reducible refine (spec_ValidDomain.calls kj2 a1 true _ A6.out).mono ?_); rintro e w13 ⟨rfl, hb⟩; refine ⟨_, rfl, ?_⟩; have n0_ := Aside0.mk (below_step (by repeat (first | (with_reducible first | exact HB.out | apply below_alloc | apply pw_below_drewN | apply below_drew1) | exact HB.out)) hb); clear HB; have HB := n0_; clear n0_; (try clear hb); (try clear hb2); (try clear hk); (try clear hi)) | ((with_reducible refine gate_dst (N := 11) rfl ?_); refine Kd.R_lit Kd.string _ 9 ?hg (N := 11) ?hd (xs := ([(⟨#[69, 72, 76, 79, 32]⟩ : ByteArray), (⟨#[72, 69, 76, 79, 32]⟩ : ByteArray)] : List ByteArray)) (inner := [.string (⟨#[69, 72, 76, 79, 32]⟩ : ByteArray), .string (⟨#[72, 69, 76, 79, 32]⟩ : ByteArray)]) (ok := fun _ => True) (okp := fun _ => True) ?hr ?hp (fun _ hk => hk) trivial (Below.refl _ _) (Nat.le_refl _) (by simp) ?_; (case hd => rfl); (case hg => rfl); (case hr => first | (go_simp; done) | (go_simp; rfl)); (case hp => exact (Reps.one (show Kd.M Kd.string _ _ _ (⟨#[69, 72, 76, 79, 32]⟩ : ByteArray) [.string (⟨#[69, 72, 76, 79, 32]⟩ : ByteArray)] from rfl) (Reps.one (show Kd.M Kd.string _ _ _ (⟨#[72, 69, 76, 79, 32]⟩ : ByteArray) [.string (⟨#[72, 69, 76, 79, 32]⟩ : ByteArray)] from rfl) (Reps.none _ _)))); intro v148 w14 ho15 hb hg_ hnew_; clear hg_ hnew_; (first | rw [← Ny147.out] at ho15 | (simp only [Int.reduceToNat] at ho15; rw [← Ny147.out] at ho15)); have n0_ := Aside0.mk (Kd.R_lower ho15 (below_size (by repeat (first | (with_reducible first | exact HB.out | apply below_alloc | apply pw_below_drewN | apply below_drew1) | exact HB.out)))); have n1_ := Aside0.mk (below_step (by repeat (first | (with_reducible first | exact HB.out | apply below_alloc | apply pw_below_drewN | apply below_drew1) | exact HB.out)) hb); clear HB; have HO149 := n0_; have HB := n1_; clear n0_ n1_; clear hb ho15; obtain ⟨Ao16, co16, eo16⟩ := Kd.R_slice HO149.out; subst eo16; have p150 : 0 ≤ ((ji8) : Int) := of_decide_eq_true (by first | (with_reducible assumption) | assumption); have q150 : (ji8) < (y147.length : Int) := of_decide_eq_true (by first | (with_reducible assumption) | assumption); obtain ⟨ad150, e150, hx150_0⟩ := Kd.at_string (Kd.R_reads' HO149.out).2.2 (ji8) p150 q150; cases e150; replace p150 := eq_true p150; replace q150 := eq_true q150))
                  go_ret
                  exact ⟨by first | rfl | (simp [errW_none, errW_some] <;> rfl) | (simp only [← hji8]; first | rfl | (simp [errW_none, errW_some] <;> rfl)) | (simp [*, errW_none, errW_some] <;> rfl), by repeat (first | (with_reducible first | exact HB.out | apply below_alloc | apply pw_below_drewN | apply below_drew1) | exact HB.out)⟩
                · rw [if_neg c12] at H
                  exact absurd H (by simp)
              · rw [if_neg c11] at H
                exact absurd H (by simp)
            · rw [if_neg c10] at H
              exact absurd H (by simp)
          · rw [if_neg c9] at H
            exact absurd H (by simp)
        · replace c7 := Bool.eq_false_iff.mpr c7
          subst c7
          have H1 : (some (⟨#[]⟩ : ByteArray)) = some r := by rw [if_neg (show ¬ (false = true) by decide)] at H; exact H
          clear H
          have H := H1
          clear H1
          obtain rfl := Option.some.inj H
          go_wp2_with (first | ((with_reducible refine gate_callee (f := 17) rfl ?_); refine goesL_ (some 10) rfl rfl Tryd.func17 (by kernel_rfl) rfl #[.string a1] rfl (by (try simp only [List.map_toArray, List.map_cons, List.map_nil]); first | done | rfl | (simp only [List.length_drop, List.length_take]; rfl)) ?_; (with_reducible refine (spec_ValidDomain.calls kj2 a1 false _ A6.out).mono ?_); rintro e w17 ⟨rfl, hb⟩; refine ⟨_, rfl, ?_⟩; have n0_ := Aside0.mk (below_step (by repeat (first | (with_reducible first | exact HB.out | apply below_alloc | apply pw_below_drewN | apply below_drew1) | exact HB.out)) hb); clear HB; have HB := n0_; clear n0_; (try clear hb); (try clear hb2); (try clear hk); (try clear hi)))
          go_ret
          exact ⟨by first | rfl | (simp [errW_none, errW_some] <;> rfl) | (simp [*, errW_none, errW_some] <;> rfl), by repeat (first | (with_reducible first | exact HB.out | apply below_alloc | apply pw_below_drewN | apply below_drew1) | exact HB.out)⟩
      · replace c5 := Bool.eq_false_iff.mpr c5
        subst c5
        have H1 : (if a0 = 3 then (if a1.toList = ([] : List UInt8) then (if 11 + a1.size ≤ 9223372036854775807 then (if ((⟨#[77, 65, 73, 76, 32, 70, 82, 79, 77, 58, 60]⟩ : ByteArray) ++ a1).size + 3 ≤ 9223372036854775807 then (some (((⟨#[77, 65, 73, 76, 32, 70, 82, 79, 77, 58, 60]⟩ : ByteArray) ++ a1) ++ (⟨#[62, 13, 10]⟩ : ByteArray))) else (none)) else (none)) else ((spec_ValidAddress.f kj2 a1).bind fun t151 => (if t151 = true then (if 11 + a1.size ≤ 9223372036854775807 then (if ((⟨#[77, 65, 73, 76, 32, 70, 82, 79, 77, 58, 60]⟩ : ByteArray) ++ a1).size + 3 ≤ 9223372036854775807 then (some (((⟨#[77, 65, 73, 76, 32, 70, 82, 79, 77, 58, 60]⟩ : ByteArray) ++ a1) ++ (⟨#[62, 13, 10]⟩ : ByteArray))) else (none)) else (none)) else (some (⟨#[]⟩ : ByteArray))))) else (if a0 = 4 then ((spec_ValidAddress.f kj2 a1).bind fun t152 => (if t152 = true then (if 9 + a1.size ≤ 9223372036854775807 then (if ((⟨#[82, 67, 80, 84, 32, 84, 79, 58, 60]⟩ : ByteArray) ++ a1).size + 3 ≤ 9223372036854775807 then (some (((⟨#[82, 67, 80, 84, 32, 84, 79, 58, 60]⟩ : ByteArray) ++ a1) ++ (⟨#[62, 13, 10]⟩ : ByteArray))) else (none)) else (none)) else (some (⟨#[]⟩ : ByteArray)))) else (if a0 = 5 then (spec_Command.j1 kj2 a0 a1 (a0 == 5)) else (spec_Command.j1 kj2 a0 a1 (a0 == 6))))) = some r := by rw [if_neg (show ¬ (false = true) by decide)] at H; exact H
        clear H
        have H := H1
        clear H1
        by_cases c18 : a0 = 3
        · rw [if_pos c18] at H
          have c18b0 : (a0 == 3) = true := beq_iff_eq.mpr c18
          have c18b1 : (a0 != 3) = false := bne_eq_false_iff_eq.mpr c18
          clear c18
          by_cases c19 : a1.toList = ([] : List UInt8)
          · rw [if_pos c19] at H
            have c19b0 : (a1.toList == ([] : List UInt8)) = true := beq_iff_eq.mpr c19
            have c19b1 : (a1.toList != ([] : List UInt8)) = false := bne_eq_false_iff_eq.mpr c19
            clear c19
            by_cases c20 : 11 + a1.size ≤ 9223372036854775807
            · rw [if_pos c20] at H
              have c20b0 := eq_true c20
              have c20b1 : decide (11 + a1.size ≤ 9223372036854775807) = true := decide_eq_true c20
              try have c20b2 : (9223372036854775807 < 11 + a1.size) = False := eq_false (Nat.not_lt.2 c20)
              by_cases c21 : ((⟨#[77, 65, 73, 76, 32, 70, 82, 79, 77, 58, 60]⟩ : ByteArray) ++ a1).size + 3 ≤ 9223372036854775807
              · rw [if_pos c21] at H
                have c21b0 := eq_true c21
                have c21b1 : decide (((⟨#[77, 65, 73, 76, 32, 70, 82, 79, 77, 58, 60]⟩ : ByteArray) ++ a1).size + 3 ≤ 9223372036854775807) = true := decide_eq_true c21
                try have c21b2 : (9223372036854775807 < ((⟨#[77, 65, 73, 76, 32, 70, 82, 79, 77, 58, 60]⟩ : ByteArray) ++ a1).size + 3) = False := eq_false (Nat.not_lt.2 c21)
                try have c21b3 := c21b2
                try simp only [ByteArray.size_append, show (⟨#[77, 65, 73, 76, 32, 70, 82, 79, 77, 58, 60]⟩ : ByteArray).size = 11 from rfl] at c21b3
                obtain rfl := Option.some.inj H
                go_wp2
                go_ret
                exact ⟨by first | rfl | (simp [errW_none, errW_some] <;> rfl) | (simp [*, errW_none, errW_some] <;> rfl), by repeat (first | (with_reducible first | exact HB.out | apply below_alloc | apply pw_below_drewN | apply below_drew1) | exact HB.out)⟩
              · rw [if_neg c21] at H
                exact absurd H (by simp)
            · rw [if_neg c20] at H
              exact absurd H (by simp)
          · rw [if_neg c19] at H
            have c19b0 : (a1.toList == ([] : List UInt8)) = false := beq_eq_false_iff_ne.mpr c19
            have c19b1 : (a1.toList != ([] : List UInt8)) = true := bne_iff_ne.mpr c19
            replace H := Option.bind_eq_some_iff.mp H
            obtain ⟨t151, A220, H⟩ := H
            replace H : (if t151 = true then (if 11 + a1.size ≤ 9223372036854775807 then (if ((⟨#[77, 65, 73, 76, 32, 70, 82, 79, 77, 58, 60]⟩ : ByteArray) ++ a1).size + 3 ≤ 9223372036854775807 then (some (((⟨#[77, 65, 73, 76, 32, 70, 82, 79, 77, 58, 60]⟩ : ByteArray) ++ a1) ++ (⟨#[62, 13, 10]⟩ : ByteArray))) else (none)) else (none)) else (some (⟨#[]⟩ : ByteArray))) = some r := H
            have A22 := Aside0.mk A220
            clear A220
            by_cases c23 : t151 = true
            · subst c23
              have H1 : (if 11 + a1.size ≤ 9223372036854775807 then (if ((⟨#[77, 65, 73, 76, 32, 70, 82, 79, 77, 58, 60]⟩ : ByteArray) ++ a1).size + 3 ≤ 9223372036854775807 then (some (((⟨#[77, 65, 73, 76, 32, 70, 82, 79, 77, 58, 60]⟩ : ByteArray) ++ a1) ++ (⟨#[62, 13, 10]⟩ : ByteArray))) else (none)) else (none)) = some r := by rw [if_pos rfl] at H; exact H
              clear H
              have H := H1
              clear H1
              by_cases c24 : 11 + a1.size ≤ 9223372036854775807
              · rw [if_pos c24] at H
                have c24b0 := eq_true c24
                have c24b1 : decide (11 + a1.size ≤ 9223372036854775807) = true := decide_eq_true c24
                try have c24b2 : (9223372036854775807 < 11 + a1.size) = False := eq_false (Nat.not_lt.2 c24)
                by_cases c25 : ((⟨#[77, 65, 73, 76, 32, 70, 82, 79, 77, 58, 60]⟩ : ByteArray) ++ a1).size + 3 ≤ 9223372036854775807
                · rw [if_pos c25] at H
                  have c25b0 := eq_true c25
                  have c25b1 : decide (((⟨#[77, 65, 73, 76, 32, 70, 82, 79, 77, 58, 60]⟩ : ByteArray) ++ a1).size + 3 ≤ 9223372036854775807) = true := decide_eq_true c25
                  try have c25b2 : (9223372036854775807 < ((⟨#[77, 65, 73, 76, 32, 70, 82, 79, 77, 58, 60]⟩ : ByteArray) ++ a1).size + 3) = False := eq_false (Nat.not_lt.2 c25)
                  try have c25b3 := c25b2
                  try simp only [ByteArray.size_append, show (⟨#[77, 65, 73, 76, 32, 70, 82, 79, 77, 58, 60]⟩ : ByteArray).size = 11 from rfl] at c25b3
                  obtain rfl := Option.some.inj H
                  go_wp2_with (first | (go_at_call 19; (with_reducible refine (spec_ValidAddress.calls kj2 a1 true _ A22.out).mono ?_); rintro e w26 ⟨rfl, hb⟩; have n0_ := Aside0.mk (below_step (by repeat (first | (with_reducible first | exact HB.out | apply below_alloc | apply pw_below_drewN | apply below_drew1) | exact HB.out)) hb); clear HB; have HB := n0_; clear n0_; (try clear hb); (try clear hb2); (try clear hk); (try clear hi)))
                  go_ret
                  exact ⟨by first | rfl | (simp [errW_none, errW_some] <;> rfl) | (simp [*, errW_none, errW_some] <;> rfl), by repeat (first | (with_reducible first | exact HB.out | apply below_alloc | apply pw_below_drewN | apply below_drew1) | exact HB.out)⟩
                · rw [if_neg c25] at H
                  exact absurd H (by simp)
              · rw [if_neg c24] at H
                exact absurd H (by simp)
            · replace c23 := Bool.eq_false_iff.mpr c23
              subst c23
              have H1 : (some (⟨#[]⟩ : ByteArray)) = some r := by rw [if_neg (show ¬ (false = true) by decide)] at H; exact H
              clear H
              have H := H1
              clear H1
              obtain rfl := Option.some.inj H
              go_wp2_with (first | (go_at_call 19; (with_reducible refine (spec_ValidAddress.calls kj2 a1 false _ A22.out).mono ?_); rintro e w27 ⟨rfl, hb⟩; have n0_ := Aside0.mk (below_step (by repeat (first | (with_reducible first | exact HB.out | apply below_alloc | apply pw_below_drewN | apply below_drew1) | exact HB.out)) hb); clear HB; have HB := n0_; clear n0_; (try clear hb); (try clear hb2); (try clear hk); (try clear hi)))
              go_ret
              exact ⟨by first | rfl | (simp [errW_none, errW_some] <;> rfl) | (simp [*, errW_none, errW_some] <;> rfl), by repeat (first | (with_reducible first | exact HB.out | apply below_alloc | apply pw_below_drewN | apply below_drew1) | exact HB.out)⟩
        · rw [if_neg c18] at H
          have c18b0 : (a0 == 3) = false := beq_eq_false_iff_ne.mpr c18
          have c18b1 : (a0 != 3) = true := bne_iff_ne.mpr c18
          by_cases c28 : a0 = 4
          · rw [if_pos c28] at H
            have c28b0 : (a0 == 4) = true := beq_iff_eq.mpr c28
            have c28b1 : (a0 != 4) = false := bne_eq_false_iff_eq.mpr c28
            clear c28
            replace H := Option.bind_eq_some_iff.mp H
            obtain ⟨t152, A290, H⟩ := H
            replace H : (if t152 = true then (if 9 + a1.size ≤ 9223372036854775807 then (if ((⟨#[82, 67, 80, 84, 32, 84, 79, 58, 60]⟩ : ByteArray) ++ a1).size + 3 ≤ 9223372036854775807 then (some (((⟨#[82, 67, 80, 84, 32, 84, 79, 58, 60]⟩ : ByteArray) ++ a1) ++ (⟨#[62, 13, 10]⟩ : ByteArray))) else (none)) else (none)) else (some (⟨#[]⟩ : ByteArray))) = some r := H
            have A29 := Aside0.mk A290
            clear A290
            by_cases c30 : t152 = true
            · subst c30
              have H1 : (if 9 + a1.size ≤ 9223372036854775807 then (if ((⟨#[82, 67, 80, 84, 32, 84, 79, 58, 60]⟩ : ByteArray) ++ a1).size + 3 ≤ 9223372036854775807 then (some (((⟨#[82, 67, 80, 84, 32, 84, 79, 58, 60]⟩ : ByteArray) ++ a1) ++ (⟨#[62, 13, 10]⟩ : ByteArray))) else (none)) else (none)) = some r := by rw [if_pos rfl] at H; exact H
              clear H
              have H := H1
              clear H1
              by_cases c31 : 9 + a1.size ≤ 9223372036854775807
              · rw [if_pos c31] at H
                have c31b0 := eq_true c31
                have c31b1 : decide (9 + a1.size ≤ 9223372036854775807) = true := decide_eq_true c31
                try have c31b2 : (9223372036854775807 < 9 + a1.size) = False := eq_false (Nat.not_lt.2 c31)
                by_cases c32 : ((⟨#[82, 67, 80, 84, 32, 84, 79, 58, 60]⟩ : ByteArray) ++ a1).size + 3 ≤ 9223372036854775807
                · rw [if_pos c32] at H
                  have c32b0 := eq_true c32
                  have c32b1 : decide (((⟨#[82, 67, 80, 84, 32, 84, 79, 58, 60]⟩ : ByteArray) ++ a1).size + 3 ≤ 9223372036854775807) = true := decide_eq_true c32
                  try have c32b2 : (9223372036854775807 < ((⟨#[82, 67, 80, 84, 32, 84, 79, 58, 60]⟩ : ByteArray) ++ a1).size + 3) = False := eq_false (Nat.not_lt.2 c32)
                  try have c32b3 := c32b2
                  try simp only [ByteArray.size_append, show (⟨#[82, 67, 80, 84, 32, 84, 79, 58, 60]⟩ : ByteArray).size = 9 from rfl] at c32b3
                  obtain rfl := Option.some.inj H
                  go_wp2_with (first | ((with_reducible refine gate_callee (f := 19) rfl ?_); refine goesL_ (some 33) rfl rfl Tryd.func19 (by kernel_rfl) rfl #[.string a1] rfl (by (try simp only [List.map_toArray, List.map_cons, List.map_nil]); first | done | rfl | (simp only [List.length_drop, List.length_take]; rfl)) ?_; (with_reducible refine (spec_ValidAddress.calls kj2 a1 true _ A29.out).mono ?_); rintro e w33 ⟨rfl, hb⟩; refine ⟨_, rfl, ?_⟩; have n0_ := Aside0.mk (below_step (by repeat (first | (with_reducible first | exact HB.out | apply below_alloc | apply pw_below_drewN | apply below_drew1) | exact HB.out)) hb); clear HB; have HB := n0_; clear n0_; (try clear hb); (try clear hb2); (try clear hk); (try clear hi)))
                  go_ret
                  exact ⟨by first | rfl | (simp [errW_none, errW_some] <;> rfl) | (simp [*, errW_none, errW_some] <;> rfl), by repeat (first | (with_reducible first | exact HB.out | apply below_alloc | apply pw_below_drewN | apply below_drew1) | exact HB.out)⟩
                · rw [if_neg c32] at H
                  exact absurd H (by simp)
              · rw [if_neg c31] at H
                exact absurd H (by simp)
            · replace c30 := Bool.eq_false_iff.mpr c30
              subst c30
              have H1 : (some (⟨#[]⟩ : ByteArray)) = some r := by rw [if_neg (show ¬ (false = true) by decide)] at H; exact H
              clear H
              have H := H1
              clear H1
              obtain rfl := Option.some.inj H
              go_wp2_with (first | ((with_reducible refine gate_callee (f := 19) rfl ?_); refine goesL_ (some 33) rfl rfl Tryd.func19 (by kernel_rfl) rfl #[.string a1] rfl (by (try simp only [List.map_toArray, List.map_cons, List.map_nil]); first | done | rfl | (simp only [List.length_drop, List.length_take]; rfl)) ?_; (with_reducible refine (spec_ValidAddress.calls kj2 a1 false _ A29.out).mono ?_); rintro e w34 ⟨rfl, hb⟩; refine ⟨_, rfl, ?_⟩; have n0_ := Aside0.mk (below_step (by repeat (first | (with_reducible first | exact HB.out | apply below_alloc | apply pw_below_drewN | apply below_drew1) | exact HB.out)) hb); clear HB; have HB := n0_; clear n0_; (try clear hb); (try clear hb2); (try clear hk); (try clear hi)))
              go_ret
              exact ⟨by first | rfl | (simp [errW_none, errW_some] <;> rfl) | (simp [*, errW_none, errW_some] <;> rfl), by repeat (first | (with_reducible first | exact HB.out | apply below_alloc | apply pw_below_drewN | apply below_drew1) | exact HB.out)⟩
          · rw [if_neg c28] at H
            have c28b0 : (a0 == 4) = false := beq_eq_false_iff_ne.mpr c28
            have c28b1 : (a0 != 4) = true := bne_iff_ne.mpr c28
            have HC35 := Aside0.mk H
            clear H
            go_upto_if 37 with (fail)
            go_cut [37] (fun v37 wc => ∃ (kq : Nat) (x37_34 : Bool), v37 = .bool x37_34 ∧ Aside0 (spec_Command.j1 kq a0 a1 x37_34 = some r) ∧ Aside0 (kq ≤ kj2) ∧ Aside0 (Below w.heap.size w wc))
            case first =>
              have H := HC35.out
              clear HC35
              by_cases c36 : a0 = 5
              · rw [if_pos c36] at H
                have c36b0 : (a0 == 5) = true := beq_iff_eq.mpr c36
                have c36b1 : (a0 != 5) = false := bne_eq_false_iff_eq.mpr c36
                clear c36
                (first | rw [c36b0] | (simp only [i64_w, i32_w]; rw [c36b0]) | skip)
                have H' := Aside0.mk H
                clear H
                go_wp2
                go_meet
                case rel => exact ⟨_, ((a0 == 5)), (by first | rfl | (simp; done) | (simp [*]; done)), H', ⟨by have := HJ2.out; first | omega | exact Nat.le_refl _⟩, ⟨by repeat (first | (with_reducible first | exact HB.out | apply below_alloc | apply pw_below_drewN | apply below_drew1) | exact HB.out)⟩⟩
              · rw [if_neg c36] at H
                have c36b0 : (a0 == 5) = false := beq_eq_false_iff_ne.mpr c36
                have c36b1 : (a0 != 5) = true := bne_iff_ne.mpr c36
                (first | rw [c36b0] | (simp only [i64_w, i32_w]; rw [c36b0]) | skip)
                have H' := Aside0.mk H
                clear H
                go_wp2
                go_meet
                case rel => exact ⟨_, ((a0 == 6)), (by first | rfl | (simp; done) | (simp [*]; done)), H', ⟨by have := HJ2.out; first | omega | exact Nat.le_refl _⟩, ⟨by repeat (first | (with_reducible first | exact HB.out | apply below_alloc | apply pw_below_drewN | apply below_drew1) | exact HB.out)⟩⟩
            case rest =>
              clear HC35
              try clear c1
              try clear p1
              try clear q1
              try clear hx1
              try clear c2
              try clear p2
              try clear c3
              try clear c4
              try clear c4b0
              try clear c4b1
              try clear c5
              try clear p6
              try clear c7
              try clear c9
              try clear c9b0
              try clear c10
              try clear c10b0
              try clear c11
              try clear c11b0
              try clear c11b1
              try clear c11b2
              try clear c12
              try clear c12b0
              try clear c12b1
              try clear c12b2
              try clear p15
              try clear q15
              try clear hx15
              try clear c17
              try clear c18
              try clear c18b0
              try clear c18b1
              try clear c19
              try clear c19b0
              try clear c19b1
              try clear c20
              try clear c20b0
              try clear c20b1
              try clear c20b2
              try clear c21
              try clear c21b0
              try clear c21b1
              try clear c21b2
              try clear c23
              try clear c24
              try clear c24b0
              try clear c24b1
              try clear c24b2
              try clear c25
              try clear c25b0
              try clear c25b1
              try clear c25b2
              try clear c28
              try clear c28b0
              try clear c28b1
              try clear c30
              try clear c31
              try clear c31b0
              try clear c31b1
              try clear c31b2
              try clear c32
              try clear c32b0
              try clear c32b1
              try clear c32b2
              try clear c36
              try clear c36b0
              try clear c36b1
              try clear hx150_0
              try clear p150
              try clear p2
              try clear q150
              obtain ⟨kq, x37_34, rfl, HA, HJ34, HB⟩ := hcut
              cases kq with
              | zero => exact absurd HA.out (by simp [spec_Command.j1])
              | succ kj34 =>
                have H := HA.out
                clear HA
                simp only [spec_Command.j1] at H
                by_cases c37 : x37_34 = true
                · subst c37
                  have H1 : (if a1.toList = ([] : List UInt8) then ((some (([(⟨#[68, 65, 84, 65]⟩ : ByteArray), (⟨#[81, 85, 73, 84]⟩ : ByteArray)] : List ByteArray) : List ByteArray)).bind fun y153 => (if 0 ≤ (wrap64 (a0 - 5)) then (if (wrap64 (a0 - 5)) < (y153.length : Int) then (if (rdOf ByteArray.empty y153 (wrap64 (a0 - 5))).size + 2 ≤ 9223372036854775807 then (some ((rdOf ByteArray.empty y153 (wrap64 (a0 - 5))) ++ (⟨#[13, 10]⟩ : ByteArray))) else (none)) else (none)) else (none))) else (some (⟨#[]⟩ : ByteArray))) = some r := by rw [if_pos rfl] at H; exact H
                  clear H
                  have H := H1
                  clear H1
                  by_cases c38 : a1.toList = ([] : List UInt8)
                  · rw [if_pos c38] at H
                    have c38b0 : (a1.toList == ([] : List UInt8)) = true := beq_iff_eq.mpr c38
                    have c38b1 : (a1.toList != ([] : List UInt8)) = false := bne_eq_false_iff_eq.mpr c38
                    clear c38
                    obtain ⟨y153, hy153⟩ : ∃ y_ : List ByteArray, y_ = (([(⟨#[68, 65, 84, 65]⟩ : ByteArray), (⟨#[81, 85, 73, 84]⟩ : ByteArray)] : List ByteArray)) := ⟨_, rfl⟩
                    replace H : (if 0 ≤ (wrap64 (a0 - 5)) then (if (wrap64 (a0 - 5)) < (y153.length : Int) then (if (rdOf ByteArray.empty y153 (wrap64 (a0 - 5))).size + 2 ≤ 9223372036854775807 then (some ((rdOf ByteArray.empty y153 (wrap64 (a0 - 5))) ++ (⟨#[13, 10]⟩ : ByteArray))) else (none)) else (none)) else (none)) = some r := by first | (rw [hy153]; with_reducible exact H) | (have H2_ := (Option.bind_some _ _).symm.trans H; rw [hy153]; with_reducible exact H2_) | (have H2_ := (Option.bind_some _ _).symm.trans H; with_reducible exact H2_) | with_reducible exact H | (rw [hy153]; exact H) | exact H
                    have Ny153 := Aside0.mk hy153
                    clear hy153
                    obtain ⟨ji39, hji39⟩ : ∃ j_ : Int, (wrap64 (a0 - 5)) = j_ := ⟨_, rfl⟩
                    replace H : (if 0 ≤ (ji39) then (if (ji39) < (y153.length : Int) then (if (rdOf ByteArray.empty y153 (ji39)).size + 2 ≤ 9223372036854775807 then (some ((rdOf ByteArray.empty y153 (ji39)) ++ (⟨#[13, 10]⟩ : ByteArray))) else (none)) else (none)) else (none)) = some r := by first | (rw [hji39] at H; exact H) | (simp only [hji39] at H ⊢; exact H)
                    have hji39w : (IntKind.i64.wrap (a0 - 5)) = ji39 := (i64_w _).trans hji39
                    by_cases c40 : 0 ≤ (ji39)
                    · rw [if_pos c40] at H
                      have c40b0 : decide (0 ≤ (ji39)) = true := decide_eq_true c40
                      clear c40
                      by_cases c41 : (ji39) < (y153.length : Int)
                      · rw [if_pos c41] at H
                        have c41b0 : decide ((ji39) < (y153.length : Int)) = true := decide_eq_true c41
                        clear c41
                        by_cases c42 : (rdOf ByteArray.empty y153 (ji39)).size + 2 ≤ 9223372036854775807
                        · rw [if_pos c42] at H
                          have c42b0 := eq_true c42
                          have c42b1 : decide ((rdOf ByteArray.empty y153 (ji39)).size + 2 ≤ 9223372036854775807) = true := decide_eq_true c42
                          try have c42b2 : (9223372036854775807 < (rdOf ByteArray.empty y153 (ji39)).size + 2) = False := eq_false (Nat.not_lt.2 c42)
                          obtain rfl := Option.some.inj H
                          go_wp2_with (first | ((with_reducible refine gate_dst (N := 42) rfl ?_); refine Kd.R_lit Kd.string _ 9 ?hg (N := 42) ?hd (xs := ([(⟨#[68, 65, 84, 65]⟩ : ByteArray), (⟨#[81, 85, 73, 84]⟩ : ByteArray)] : List ByteArray)) (inner := [.string (⟨#[68, 65, 84, 65]⟩ : ByteArray), .string (⟨#[81, 85, 73, 84]⟩ : ByteArray)]) (ok := fun _ => True) (okp := fun _ => True) ?hr ?hp (fun _ hk => hk) trivial (Below.refl _ _) (Nat.le_refl _) (by simp) ?_; (case hd => rfl); (case hg => rfl); (case hr => first | (go_simp; done) | (go_simp; rfl)); (case hp => exact (Reps.one (show Kd.M Kd.string _ _ _ (⟨#[68, 65, 84, 65]⟩ : ByteArray) [.string (⟨#[68, 65, 84, 65]⟩ : ByteArray)] from rfl) (Reps.one (show Kd.M Kd.string _ _ _ (⟨#[81, 85, 73, 84]⟩ : ByteArray) [.string (⟨#[81, 85, 73, 84]⟩ : ByteArray)] from rfl) (Reps.none _ _)))); intro v154 w43 ho44 hb hg_ hnew_; clear hg_ hnew_; (first | rw [← Ny153.out] at ho44 | (simp only [Int.reduceToNat] at ho44; rw [← Ny153.out] at ho44)); have n0_ := Aside0.mk (Kd.R_lower ho44 (below_size (by repeat (first | (with_reducible first | exact HB.out | apply below_alloc | apply pw_below_drewN | apply below_drew1) | exact HB.out)))); have n1_ := Aside0.mk (below_step (by repeat (first | (with_reducible first | exact HB.out | apply below_alloc | apply pw_below_drewN | apply below_drew1) | exact HB.out)) hb); clear HB; have HO155 := n0_; have HB := n1_; clear n0_ n1_; clear hb ho44; obtain ⟨Ao45, co45, eo45⟩ := Kd.R_slice HO155.out; subst eo45; have p156 : 0 ≤ ((ji39) : Int) := of_decide_eq_true (by first | (with_reducible assumption) | assumption); have q156 : (ji39) < (y153.length : Int) := of_decide_eq_true (by first | (with_reducible assumption) | assumption); obtain ⟨ad156, e156, hx156_0⟩ := Kd.at_string (Kd.R_reads' HO155.out).2.2 (ji39) p156 q156; cases e156; replace p156 := eq_true p156; replace q156 := eq_true q156))
                          go_ret
                          exact ⟨by first | rfl | (simp [errW_none, errW_some] <;> rfl) | (simp only [← hji39]; first | rfl | (simp [errW_none, errW_some] <;> rfl)) | (simp [*, errW_none, errW_some] <;> rfl), by repeat (first | (with_reducible first | exact HB.out | apply below_alloc | apply pw_below_drewN | apply below_drew1) | exact HB.out)⟩
                        · rw [if_neg c42] at H
                          exact absurd H (by simp)
                      · rw [if_neg c41] at H
                        exact absurd H (by simp)
                    · rw [if_neg c40] at H
                      exact absurd H (by simp)
                  · rw [if_neg c38] at H
                    have c38b0 : (a1.toList == ([] : List UInt8)) = false := beq_eq_false_iff_ne.mpr c38
                    have c38b1 : (a1.toList != ([] : List UInt8)) = true := bne_iff_ne.mpr c38
                    obtain rfl := Option.some.inj H
                    go_wp2
                    go_ret
                    exact ⟨by first | rfl | (simp [errW_none, errW_some] <;> rfl) | (simp [*, errW_none, errW_some] <;> rfl), by repeat (first | (with_reducible first | exact HB.out | apply below_alloc | apply pw_below_drewN | apply below_drew1) | exact HB.out)⟩
                · replace c37 := Bool.eq_false_iff.mpr c37
                  subst c37
                  have H1 : (some (⟨#[]⟩ : ByteArray)) = some r := by rw [if_neg (show ¬ (false = true) by decide)] at H; exact H
                  clear H
                  have H := H1
                  clear H1
                  obtain rfl := Option.some.inj H
                  go_wp2
                  go_ret
                  exact ⟨by first | rfl | (simp [errW_none, errW_some] <;> rfl) | (simp [*, errW_none, errW_some] <;> rfl), by repeat (first | (with_reducible first | exact HB.out | apply below_alloc | apply pw_below_drewN | apply below_drew1) | exact HB.out)⟩

end Go.Proofs.YtdhkfbjbohpppaaDoor.X
