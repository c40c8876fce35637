/- Part 5 of the proof of laws.FnExactUnpackRecord: contracts of functions that it reaches, and laws of what these compute. No condition beyond what each theorem says. -/
import Derived.BigQuiet
import Derived.Deep.QuietTactic
import Derived.IntWalk
import Derived.Laws.RangeAny
import Derived.Laws.Runes
import Derived.Lib.OthersKept
import Derived.Lib.ShelfFacts
import Derived.Outline
import Derived.WalkMore
import Derived.WalkSpells
import Derived.Test.YtnlembpmcbnpnaaGreatDoorKM2
import Derived.Test.YtnlembpmcbnpnaaGreatDoorKM4
namespace Go.Proofs.YtnlembpmcbnpnaaGreatDoor.X
open Go.RowKit Go.Proofs.YtnlembpmcbnpnaaGreatDoorW.PrintWords Go.Proofs.YtnlembpmcbnpnaaGreatDoorW.PrintLast Go.Proofs.YtnlembpmcbnpnaaGreatDoorW.PrintMore
set_option linter.unusedVariables false
set_option linter.unusedSimpArgs false
theorem z9_0_ {P : Prop} (h : P := by (try simp only [List.map_toArray, List.map_cons, List.map_nil]); first | done | rfl | (simp only [List.length_drop, List.length_take]; rfl)) : P := h
theorem z9_1_ {P : Prop} (h : P := by first | (with_reducible assumption) | assumption) : P := h
/-! ### impl_ValidAddress: function 162 -/
def impl_ValidAddress.j0 : Nat → ByteArray → Bool → Option (Bool)
 | 0, _, _ => none
 | k + 1, x3, x34 => if x34 = true then (some false) else ((impl_all_impl_ValidAddress_1.f x3).bind fun t153 => (if t153 = true then (if 0 < (x3.size : Int) then (if (bt x3 0) = 46 then (some false) else (if 0 ≤ (wrap64 ((x3.size : Int) - 1)) then (if (wrap64 ((x3.size : Int) - 1)) < (x3.size : Int) then (if (bt x3 (wrap64 ((x3.size : Int) - 1))) = 46 then (some false) else ((strings_Contains.f x3 (⟨#[46, 46]⟩ : ByteArray)).bind fun t154 => (some (!t154)))) else (none)) else (none))) else (none)) else (some false)))
def impl_ValidAddress.f (k : Nat) (a0 : ByteArray) : Option (Bool) := (strings_Cut.f a0 (⟨#[64]⟩ : ByteArray)).bind fun bt149 => (if bt149.2.2 = true then (if (a0.size : Int) > 160 then (impl_ValidAddress.j0 k bt149.1 true) else ((impl_ValidDomain.f k bt149.2.1).bind fun t152 => (if t152 = true then (if (bt149.1.size : Int) < 1 then (impl_ValidAddress.j0 k bt149.1 true) else (impl_ValidAddress.j0 k bt149.1 (decide ((bt149.1.size : Int) > 64)))) else (impl_ValidAddress.j0 k bt149.1 true)))) else (impl_ValidAddress.j0 k bt149.1 true))
theorem impl_ValidAddress.mono_l : ∀ k, (∀ y0 y1, LeO (impl_ValidAddress.j0 k y0 y1) (impl_ValidAddress.j0 (k + 1) y0 y1))
 | 0 => fun _ _ r h => by simp [impl_ValidAddress.j0] at h
 | k + 1 => by
  have ih0 := impl_ValidAddress.mono_l k
  ·intro y0 y1
   unfold impl_ValidAddress.j0
   repeat' first
   | (with_reducible exact ih0 _ _)
   | (with_reducible exact impl_ValidDomain.mono _ _)
   | (with_reducible exact LeO.refl _)
   | (with_reducible exact LeO.none _)
   | (with_reducible refine LeO.ite ?_ ?_)
   | (with_reducible refine LeO.bind ?_ (fun _ => ?_))
   | exact ih0 _ _
   | exact impl_ValidDomain.mono _ _
   | exact LeO.none _
   | refine LeO.ite ?_ ?_
   | refine LeO.bind ?_ (fun _ => ?_)
theorem impl_ValidAddress.mono : ∀ a0 k, LeO (impl_ValidAddress.f k a0) (impl_ValidAddress.f (k + 1) a0) := by
 intro a0 k
 have ih0 := impl_ValidAddress.mono_l k
 unfold impl_ValidAddress.f
 repeat' first
   | (with_reducible exact ih0 _ _)
   | (with_reducible exact impl_ValidDomain.mono _ _)
   | (with_reducible exact LeO.refl _)
   | (with_reducible exact LeO.none _)
   | (with_reducible refine LeO.ite ?_ ?_)
   | (with_reducible refine LeO.bind ?_ (fun _ => ?_))
   | exact ih0 _ _
   | exact impl_ValidDomain.mono _ _
   | exact LeO.none _
   | refine LeO.ite ?_ ?_
   | refine LeO.bind ?_ (fun _ => ?_)
set_option maxHeartbeats 8000000 in
set_option maxRecDepth 100000 in
theorem impl_ValidAddress.calls (k : Nat) (a0 : ByteArray) (r : Bool) (w : World) (hGM : GlM w) (h : impl_ValidAddress.f k a0 = some r) :
  Calls Tryz.prog 162 #[.string a0] w fun e w' => e = .returned (.bool r) ∧ Below w.heap.size w w' := by
 have HB := Aside0.mk (Below.refl w.heap.size w)
 have H := h
 unfold impl_ValidAddress.f at H
 clear h
 obtain ⟨⟨t149, t150, t151⟩, A2, H⟩ := zbi H
 try dsimp only at H
 have HC3 := Aside0.mk H
 clear H
 go_enter Tryz.func162, Tryz.ntmps162
 go_upto_region 2 with (first | ((with_reducible refine gate_callee (f := 61) rfl ?_); refine goesL_ (some 9) rfl rfl Tryz.func61 (by kernel_rfl) rfl #[.string a0, .string (⟨#[64]⟩ : ByteArray)] rfl z9_0_ ?_; (with_reducible refine (strings_Cut.calls a0 (⟨#[64]⟩ : ByteArray) t149 t150 t151 _ ?side1 A2.out).mono ?_); (case side1 => exact GlM.below hGM (bq_)); rintro e w' ⟨rfl, ⟨nd, rfl⟩⟩; refine ⟨_, rfl, ?_⟩))
 (try simp only [Act.put, List.setIfInBounds_toArray, List.set_cons_zero, List.set_cons_succ])
 go_cut [34] (fun v34 wc => ∃ (kq : Nat) (x34_2 : Bool), v34 = .bool x34_2 ∧ Aside0 (impl_ValidAddress.j0 kq t149 x34_2 = some r) ∧ Aside0 (kq ≤ k) ∧ Aside0 (Below w.heap.size w wc))
 case first =>
  have H := HC3.out
  clear HC3
  by_cases c4 : t151 = true
  ·subst c4
   rw [if_pos rfl] at H
   by_cases c5 : (a0.size : Int) > 160
   ·rw [if_pos c5] at H
    have c5b0 : decide (160 < (a0.size : Int)) = true := decide_eq_true c5
    have c5b1 : decide (160 < a0.size) = true := decide_eq_true (by omega)
    clear c5
    (first | rw [c5b0] | (simp only [i64_w, i32_w]; rw [c5b0]) | rw [c5b1] | simp only [c5b2, decide_true, decide_false] | skip)
    have H' := Aside0.mk H
    clear H
    go_wp2
    go_meet
    case rel => exact ⟨_, (true), (by first | rfl | (simp; done) | (simp [*]; done)), H', ⟨(by first | omega | exact Nat.le_refl _)⟩, ⟨bq_⟩⟩
   ·rw [if_neg c5] at H
    have c5b0 : decide (160 < (a0.size : Int)) = false := decide_eq_false c5
    have c5b1 : decide (160 < a0.size) = false := decide_eq_false (by omega)
    clear c5
    (first | rw [c5b0] | (simp only [i64_w, i32_w]; rw [c5b0]) | rw [c5b1] | simp only [c5b2, decide_true, decide_false] | skip)
    obtain ⟨t152, A6, H⟩ := zbi H
    by_cases c7 : t152 = true
    ·subst c7
     rw [if_pos rfl] at H
     by_cases c8 : (t149.size : Int) < 1
     ·rw [if_pos c8] at H
      have c8b0 : decide ((t149.size : Int) < 1) = true := decide_eq_true c8
      have c8b1 : decide (t149.size < 1) = true := decide_eq_true (by omega)
      clear c8
      have H' := Aside0.mk H
      clear H
      go_wp2_with (first | (go_at_call 161; (with_reducible refine (impl_ValidDomain.calls k t150 true _ ?side1 A6.out).mono ?_); (case side1 => exact GlM.below hGM (bq_)); rintro e w9 ⟨rfl, hb⟩; replace HB := Aside0.mk (below_step (bq_) hb); clear hb))
      go_meet
      case rel => exact ⟨_, (true), (by first | rfl | (simp; done) | (simp [*]; done)), H', ⟨(by first | omega | exact Nat.le_refl _)⟩, ⟨bq_⟩⟩
     ·rw [if_neg c8] at H
      have c8b0 : decide ((t149.size : Int) < 1) = false := decide_eq_false c8
      have c8b1 : decide (t149.size < 1) = false := decide_eq_false (by omega)
      clear c8
      have H' := Aside0.mk H
      clear H
      go_wp2_with (first | (go_at_call 161; (with_reducible refine (impl_ValidDomain.calls k t150 true _ ?side1 A6.out).mono ?_); (case side1 => exact GlM.below hGM (bq_)); rintro e w10 ⟨rfl, hb⟩; replace HB := Aside0.mk (below_step (bq_) hb); clear hb))
      go_meet
      case rel => exact ⟨_, (decide ((t149.size : Int) > 64)), (by first | rfl | (simp; done) | (simp [*]; done)), H', ⟨(by first | omega | exact Nat.le_refl _)⟩, ⟨bq_⟩⟩
    ·replace c7 := Bool.eq_false_iff.mpr c7
     subst c7
     rw [if_neg (show ¬ (false = true) by decide)] at H
     have H' := Aside0.mk H
     clear H
     go_wp2_with (first | (go_at_call 161; (with_reducible refine (impl_ValidDomain.calls k t150 false _ ?side1 A6.out).mono ?_); (case side1 => exact GlM.below hGM (bq_)); rintro e w11 ⟨rfl, hb⟩; replace HB := Aside0.mk (below_step (bq_) hb); clear hb))
     go_meet
     case rel => exact ⟨_, (true), (by first | rfl | (simp; done) | (simp [*]; done)), H', ⟨(by first | omega | exact Nat.le_refl _)⟩, ⟨bq_⟩⟩
  ·replace c4 := Bool.eq_false_iff.mpr c4
   subst c4
   rw [if_neg (show ¬ (false = true) by decide)] at H
   have H' := Aside0.mk H
   clear H
   go_wp2
   go_meet
   case rel => exact ⟨_, (true), (by first | rfl | (simp; done) | (simp [*]; done)), H', ⟨(by first | omega | exact Nat.le_refl _)⟩, ⟨bq_⟩⟩
 case rest =>
  clear HC3
  try clear c1
  try clear p2
  try clear c4
  try clear c5
  try clear c5b0
  try clear c5b1
  try clear c6
  try clear c7
  try clear c8
  try clear c8b0
  try clear c8b1
  obtain ⟨kq, x34_2, rfl, HA, HJ2, HB⟩ := hcut
  cases kq with
  | zero => exact absurd HA.out (by simp [impl_ValidAddress.j0])
  | succ kj2 =>
   have H := HA.out
   clear HA
   simp only [impl_ValidAddress.j0] at H
   by_cases c12 : x34_2 = true
   ·subst c12
    rw [if_pos rfl] at H
    obtain rfl := Option.some.inj H
    go_wp2
    go_ret
    exact ⟨(by first | rfl | (simp [errW_none, errW_some] <;> rfl) | (simp [*, errW_none, errW_some] <;> rfl)), bq_⟩
   ·replace c12 := Bool.eq_false_iff.mpr c12
    subst c12
    rw [if_neg (show ¬ (false = true) by decide)] at H
    obtain ⟨t153, A13, H⟩ := zbi H
    by_cases c14 : t153 = true
    ·subst c14
     rw [if_pos rfl] at H
     by_cases c15 : 0 < (t149.size : Int)
     ·rw [if_pos c15] at H
      have c15b0 : decide (0 < (t149.size : Int)) = true := decide_eq_true c15
      have c15b1 : decide (0 < t149.size) = true := decide_eq_true (by omega)
      clear c15
      by_cases c17 : (bt t149 0) = 46
      ·rw [if_pos c17] at H
       have c17b0 : ((bt t149 0) == 46) = true := beq_iff_eq.mpr c17
       have c17b1 : ((bt t149 0) != 46) = false := bne_eq_false_iff_eq.mpr c17
       clear c17
       obtain rfl := Option.some.inj H
       go_wp2_with (first | ((with_reducible refine gate_callee (f := 167) rfl ?_); refine goesL_ (some 37) rfl rfl Tryz.func167 (by kernel_rfl) rfl #[.string t149, (.func (.func 171) #[] #[])] rfl z9_0_ ?_; (with_reducible refine (impl_all_impl_ValidAddress_1.calls t149 true _ A13.out).mono ?_); rintro e w' ⟨rfl, ⟨nd, rfl⟩⟩; refine ⟨_, rfl, ?_⟩; have p16 : 0 ≤ (0 : Int) := (by omega); have q16 : 0 < t149.size := (by have : (0 : Int) < (t149.size : Int) := of_decide_eq_true z9_1_; omega); have hx16 : ∀ h : 0 < t149.size, ((t149[0]'h).toNat : Int) = bt t149 0 := bt_at t149 0; clear p16; have qi16 : (0 < (t149.size : Int)) = True := eq_true (of_decide_eq_true z9_1_); replace q16 := eq_true q16))
       go_ret
       exact ⟨(by first | rfl | (simp [errW_none, errW_some] <;> rfl) | (simp [*, errW_none, errW_some] <;> rfl)), bq_⟩
      ·rw [if_neg c17] at H
       have c17b0 : ((bt t149 0) == 46) = false := beq_eq_false_iff_ne.mpr c17
       have c17b1 : ((bt t149 0) != 46) = true := bne_iff_ne.mpr c17
       obtain ⟨ji18, hji18⟩ : ∃ j_ : Int, (wrap64 ((t149.size : Int) - 1)) = j_ := ⟨_, rfl⟩
       replace H : (if 0 ≤ (ji18) then (if (ji18) < (t149.size : Int) then (if (bt t149 (ji18)) = 46 then (some false) else ((strings_Contains.f t149 (⟨#[46, 46]⟩ : ByteArray)).bind fun t154 => (some (!t154)))) else (none)) else (none)) = some r := by first | (rw [hji18] at H; exact H) | (simp only [hji18] at H ⊢; exact H)
       (try rw [hji18] at A13)
       have hji18w : (IntKind.i64.wrap ((t149.size : Int) - 1)) = ji18 := (i64_w _).trans hji18
       by_cases c19 : 0 ≤ (ji18)
       ·rw [if_pos c19] at H
        have c19b0 : decide (0 ≤ (ji18)) = true := decide_eq_true c19
        clear c19
        by_cases c20 : (ji18) < (t149.size : Int)
        ·rw [if_pos c20] at H
         have c20b0 : decide ((ji18) < (t149.size : Int)) = true := decide_eq_true c20
         clear c20
         by_cases c22 : (bt t149 (ji18)) = 46
         ·rw [if_pos c22] at H
          have c22b0 : ((bt t149 (ji18)) == 46) = true := beq_iff_eq.mpr c22
          have c22b1 : ((bt t149 (ji18)) != 46) = false := bne_eq_false_iff_eq.mpr c22
          clear c22
          obtain rfl := Option.some.inj H
          go_wp2_with (first | ((with_reducible refine gate_callee (f := 167) rfl ?_); refine goesL_ (some 37) rfl rfl Tryz.func167 (by kernel_rfl) rfl #[.string t149, (.func (.func 171) #[] #[])] rfl z9_0_ ?_; (with_reducible refine (impl_all_impl_ValidAddress_1.calls t149 true _ A13.out).mono ?_); rintro e w' ⟨rfl, ⟨nd, rfl⟩⟩; refine ⟨_, rfl, ?_⟩; have p16 : 0 ≤ (0 : Int) := (by omega); have q16 : 0 < t149.size := (by have : (0 : Int) < (t149.size : Int) := of_decide_eq_true z9_1_; omega); have hx16 : ∀ h : 0 < t149.size, ((t149[0]'h).toNat : Int) = bt t149 0 := bt_at t149 0; clear p16; have qi16 : (0 < (t149.size : Int)) = True := eq_true (of_decide_eq_true z9_1_); replace q16 := eq_true q16; have p21 : 0 ≤ ((ji18) : Int) := of_decide_eq_true z9_1_; have q21 : (ji18) < (t149.size : Int) := of_decide_eq_true z9_1_; have hx21 := bt_at t149 (ji18); replace p21 := eq_true p21; replace q21 := eq_true q21))
          go_ret
          exact ⟨(by first | rfl | (simp [errW_none, errW_some] <;> rfl) | (simp only [← hji18]; first | rfl | (simp [errW_none, errW_some] <;> rfl)) | (simp [*, errW_none, errW_some] <;> rfl)), bq_⟩
         ·rw [if_neg c22] at H
          have c22b0 : ((bt t149 (ji18)) == 46) = false := beq_eq_false_iff_ne.mpr c22
          have c22b1 : ((bt t149 (ji18)) != 46) = true := bne_iff_ne.mpr c22
          obtain ⟨t154, A23, H⟩ := zbi H
          obtain rfl := Option.some.inj H
          go_wp2_with (first | ((with_reducible refine gate_callee (f := 167) rfl ?_); refine goesL_ (some 37) rfl rfl Tryz.func167 (by kernel_rfl) rfl #[.string t149, (.func (.func 171) #[] #[])] rfl z9_0_ ?_; (with_reducible refine (impl_all_impl_ValidAddress_1.calls t149 true _ A13.out).mono ?_); rintro e w' ⟨rfl, ⟨nd, rfl⟩⟩; refine ⟨_, rfl, ?_⟩; have p16 : 0 ≤ (0 : Int) := (by omega); have q16 : 0 < t149.size := (by have : (0 : Int) < (t149.size : Int) := of_decide_eq_true z9_1_; omega); have hx16 : ∀ h : 0 < t149.size, ((t149[0]'h).toNat : Int) = bt t149 0 := bt_at t149 0; clear p16; have qi16 : (0 < (t149.size : Int)) = True := eq_true (of_decide_eq_true z9_1_); replace q16 := eq_true q16; have p21 : 0 ≤ ((ji18) : Int) := of_decide_eq_true z9_1_; have q21 : (ji18) < (t149.size : Int) := of_decide_eq_true z9_1_; have hx21 := bt_at t149 (ji18); replace p21 := eq_true p21; replace q21 := eq_true q21) | (go_at_call 173; (with_reducible refine (strings_Contains.calls t149 (⟨#[46, 46]⟩ : ByteArray) t154 _ ?side1 A23.out).mono ?_); (case side1 => exact GlM.below hGM (bq_)); rintro e w' ⟨rfl, ⟨nd, rfl⟩⟩))
          go_ret
          exact ⟨(by first | rfl | (simp [errW_none, errW_some] <;> rfl) | (simp only [← hji18]; first | rfl | (simp [errW_none, errW_some] <;> rfl)) | (simp [*, errW_none, errW_some] <;> rfl)), bq_⟩
        ·rw [if_neg c20] at H
         exact absurd H (by simp)
       ·rw [if_neg c19] at H
        exact absurd H (by simp)
     ·rw [if_neg c15] at H
      exact absurd H (by simp)
    ·replace c14 := Bool.eq_false_iff.mpr c14
     subst c14
     rw [if_neg (show ¬ (false = true) by decide)] at H
     obtain rfl := Option.some.inj H
     go_wp2_with (first | ((with_reducible refine gate_callee (f := 167) rfl ?_); refine goesL_ (some 37) rfl rfl Tryz.func167 (by kernel_rfl) rfl #[.string t149, (.func (.func 171) #[] #[])] rfl z9_0_ ?_; (with_reducible refine (impl_all_impl_ValidAddress_1.calls t149 false _ A13.out).mono ?_); rintro e w' ⟨rfl, ⟨nd, rfl⟩⟩; refine ⟨_, rfl, ?_⟩))
     go_ret
     exact ⟨(by first | rfl | (simp [errW_none, errW_some] <;> rfl) | (simp [*, errW_none, errW_some] <;> rfl)), bq_⟩
end Go.Proofs.YtnlembpmcbnpnaaGreatDoor.X
namespace Go.Proofs.YtnlembpmcbnpnaaGreatDoor.X
open Go.RowKit Go.Proofs.YtnlembpmcbnpnaaGreatDoorW.PrintWords Go.Proofs.YtnlembpmcbnpnaaGreatDoorW.PrintLast Go.Proofs.YtnlembpmcbnpnaaGreatDoorW.PrintMore
set_option linter.unusedVariables false
set_option linter.unusedSimpArgs false
/-! ### impl_lines: function 174 -/
def impl_lines.f (a0 : ByteArray) : Option (List ByteArray) := (strings_SplitAfter.f a0 (⟨#[13, 10]⟩ : ByteArray)).bind fun t155 => (some t155)
set_option maxHeartbeats 8000000 in
set_option maxRecDepth 100000 in
theorem impl_lines.calls (a0 : ByteArray) (r : List ByteArray) (w : World) (hGM : GlM w) (h : impl_lines.f a0 = some r) :
  Calls Tryz.prog 174 #[.string a0] w fun e w' => ∃ v0_ : Value, e = .returned (v0_) ∧ Kd.R Kd.string 9 w' w.heap.size (fun _ => True) v0_ r ∧ Below w.heap.size w w' := by
 have HB := Aside0.mk (Below.refl w.heap.size w)
 have H : ((strings_SplitAfter.f a0 (⟨#[13, 10]⟩ : ByteArray)).bind fun t155 => (some t155)) = some r := h
 clear h
 obtain ⟨t155, A2, H⟩ := zbi H
 obtain rfl := Option.some.inj H
 go_enter Tryz.func174, Tryz.ntmps174
 go_wp2_with (first | ((with_reducible refine gate_callee (f := 180) rfl ?_); refine goesL_ (some 4) rfl rfl Tryz.func180 (by kernel_rfl) rfl #[.string a0, .string (⟨#[13, 10]⟩ : ByteArray)] rfl (by (try simp only [List.map_toArray, List.map_cons, List.map_nil]); first | done | rfl | (simp only [List.length_drop, List.length_take]; rfl)) ?_; (with_reducible refine (strings_SplitAfter.calls a0 (⟨#[13, 10]⟩ : ByteArray) t155 _ ?side1 A2.out).mono ?_); (case side1 => exact GlM.below hGM (bq_)); rintro e w3 ⟨v156, rfl, ho0, hb⟩; refine ⟨_, rfl, ?_⟩; have HO157 := Aside0.mk (Kd.R_lower ho0 (below_size (bq_))); replace HB := Aside0.mk (below_step (bq_) hb); clear hb; (try clear ho0)))
 go_ret
 exact ⟨_, (by first | rfl | (simp [errW_none, errW_some] <;> rfl) | (simp [*, errW_none, errW_some] <;> rfl)), (by (with_reducible repeat (first | apply Kd.R_alloc | apply Kd.R_drewN | apply Kd.R_drew)); exact HO157.out), bq_⟩
end Go.Proofs.YtnlembpmcbnpnaaGreatDoor.X
/- Contract of strings.ContainsAny at a cutset of two ASCII bytes or more, at every text shorter than 4294967281 bytes, in the form in which this seat's printed functions are told. -/
namespace Go.Proofs.YtnlembpmcbnpnaaGreatDoor.X
open Go.RowKit Go.Proofs.YtnlembpmcbnpnaaGreatDoorW.PrintWords
theorem indexByte_none : ∀ (l : List UInt8) (c : UInt8), (∀ b ∈ l, b ≠ c) → Lib.indexByte l c = -1
  | [], _, _ => rfl
  | b :: l, c, h => by
    have hb : b ≠ c := h b List.mem_cons_self
    have ih := indexByte_none l c (fun x hx => h x (List.mem_cons_of_mem _ hx))
    unfold Lib.indexByte
    simp [hb, ih]
set_option maxHeartbeats 4000000 in
set_option maxRecDepth 1000000 in
theorem indexRune_high (chars : ByteArray) (r : Int) (w : World) (hc : chars.size ≤ 1000) (hA : ∀ (j : Nat) b, chars.data.toList[j]? = some b → b.toNat < 128) (h128 : 128 ≤ r) (hr : r ≤ 2147483647) :
    Calls Tryz.prog 184 #[.string chars, .int .i32 r] w fun e w' => e = .returned (.int .i64 (-1)) ∧ Below w.heap.size w w' := by
  have HA := Lib.hid hA
  clear hA
  have b0 : decide ((0 : Int) ≤ r) = true := decide_eq_true (by omega)
  have b1 : decide (r < (128 : Int)) = false := decide_eq_false (by omega)
  by_cases he : r = 65533
  · have b2 : (r == (65533 : Int)) = true := beq_iff_eq.2 he
    clear he
    go_enter Tryz.func184, Tryz.ntmps184
    go_wp2_with fail
    go_loopg [5, 6] chars.size (fun g _ _ wx => ∃ i : Nat, i + g = chars.size ∧ wx = w.iter chars i)
    case atStart => exact ⟨0, by omega, rfl⟩
    case round =>
      obtain ⟨i, hig, rfl⟩ := hrel
      cases gk with
      | zero =>
        obtain rfl : i = chars.size := by omega
        have hnx := run_next_end (P := Tryz.prog) w chars chars.size
        go_wp2
        go_ret
        exact ⟨rfl, (Below.refl _ _).alloc (Nat.le_refl _) _⟩
      | succ g =>
        have hi : i < chars.size := by omega
        obtain ⟨x, hx⟩ : ∃ x : UInt8, chars[i]'hi = x := ⟨_, rfl⟩
        have hx128 : x.toNat < 128 := HA.out i x (by rw [← hx]; exact Lib.data_getElem? chars i hi)
        have hnx := fun ty => run_next_ascii (P := Tryz.prog) w chars i ty hi (by rw [hx]; exact hx128)
        rw [hx] at hnx
        have hq : ((x.toNat : Int) == 65533) = false := beq_eq_false_iff_ne.2 (by omega)
        clear hx hx128
        go_wp2_with fail
        go_roundg g
        case measure => omega
        case rel => exact ⟨i + 1, by omega, rfl⟩
  · have b2 : (r == (65533 : Int)) = false := beq_eq_false_iff_ne.2 he
    clear he
    cases hv : Lib.validRune r with
    | false =>
      have HV := Lib.hid hv
      clear hv
      go_enter Tryz.func184, Tryz.ntmps184
      go_wp2_with fail
      refine (Tryz.utf8_ValidRune r _).mono ?_
      rintro e w' ⟨rfl, rfl⟩
      rw [HV.out]
      go_wp2_with fail
      go_ret
      exact ⟨rfl, Below.refl _ _⟩
    | true =>
      have hval : Utf8.valid r = true := by
        unfold Lib.validRune at hv
        have := of_decide_eq_true hv
        unfold Utf8.valid
        simp
        omega
      obtain ⟨e2, e4, e128⟩ := encode_facts r hval h128
      have HE := Lib.hid e128
      have HV := Lib.hid hv
      clear hv hval e128
      obtain ⟨i, hi⟩ : ∃ i : Int, ((Utf8.encode r).size : Int) - 1 = i := ⟨_, rfl⟩
      have i0 : 0 ≤ i := by omega
      have i2 : i < ((Utf8.encode r).size : Int) := by omega
      have hrs : 128 ≤ bt (Utf8.encode r) i := by
        unfold bt
        rw [dif_pos (show i.toNat < (Utf8.encode r).size by omega)]
        have h := HE.out (by omega)
        have e : i.toNat = (Utf8.encode r).size - 1 := by omega
        simp only [e]
        omega
      have HI := Lib.hid hi
      have HRS := Lib.hid hrs
      clear hrs
      by_cases hl : (Utf8.encode r).size - 1 < chars.size
      · have i1 : i < (chars.size : Int) := by omega
        have hch : bt chars i < 128 := by
          unfold bt
          have hlt : i.toNat < chars.size := by omega
          rw [dif_pos hlt]
          have := HA.out i.toNat (chars[i.toNat]'hlt) (Lib.data_getElem? chars i.toNat hlt)
          omega
        have hin : Lib.indexByte (List.take (chars.size - (i + 1).toNat) (List.drop (i + 1).toNat chars.data.toList)) (UInt8.ofNat (bt (Utf8.encode r) i).toNat) = -1 := by
          refine indexByte_none _ _ fun b hb he => ?_
          obtain ⟨j, hj, rfl⟩ := List.getElem_of_mem (List.mem_of_mem_drop (List.mem_of_mem_take hb))
          have h1 := HA.out j _ (List.getElem?_eq_getElem hj)
          have h2 := bt_range (Utf8.encode r) i
          have h3 := HRS.out
          rw [he] at h1
          simp at h1
          omega
        have HIN := Lib.hid hin
        have HNE := Lib.hid (show (bt chars i != bt (Utf8.encode r) i) = true by rw [bne_iff_ne]; have := HRS.out; omega)
        clear hi hch hin
        go_enter Tryz.func184, Tryz.ntmps184
        go_wp2_with fail
        refine (Tryz.utf8_ValidRune r _).mono ?_
        rintro e w' ⟨rfl, rfl⟩
        rw [HV.out]
        go_wp2_with fail
        go_step3
        go_wp2_with fail
        refine wp_loop_rounds 1 ?_
        rw [rounds_succ]
        go_wp2_with fail
        go_step3
        go_wp2_with fail
        rw [HI.out]
        clear e2 e4 hl
        have p1 := eq_true i0
        have p2 := eq_true i1
        have p3 := eq_true i2
        have hx1 := bt_at chars i
        have hx2 := bt_at (Utf8.encode r) i
        have hne := HNE.out
        have HI0 := Lib.hid i0
        have HI1 := Lib.hid i1
        clear i0 i1 i2
        go_quiet (fail)
        go_wp2_with fail
        have HB1 := Aside0.mk (pw_below_drewN (Below.refl w'.heap.size w') nq)
        generalize w'.drewN nq = w2 at HB1 ⊢
        clear p1 p2 hx1 hne
        have ew : IntKind.i64.wrap (i + 1) = i + 1 := IntWalk.i64_in _ (by have := HI.out; have := HI1.out; have := HI0.out; omega)
        have p1 : (0 ≤ i) = True := eq_true HI0.out
        have q1 : (0 ≤ i + 1) = True := eq_true (by have := HI0.out; omega)
        have q2 : (i + 1 ≤ (chars.size : Int)) = True := eq_true (by have := HI1.out; omega)
        go_quiet ((go_at_call 172; exact Calls.quiet_of_same (Tryz.strings_IndexByte _ _ _)))
        have hin := HIN.out
        go_wp2_with fail
        repeat (rw [Exit.noGoto_ret]; try go_wp2_with fail)
        go_ret
        exact ⟨rfl, pw_below_drewN HB1.out _⟩
      · clear hi i0 i2
        go_enter Tryz.func184, Tryz.ntmps184
        go_wp2_with fail
        refine (Tryz.utf8_ValidRune r _).mono ?_
        rintro e w' ⟨rfl, rfl⟩
        rw [HV.out]
        go_wp2_with fail
        go_step3
        go_wp2_with fail
        refine wp_loop_rounds 1 ?_
        rw [rounds_succ]
        go_wp2_with fail
        rw [Exit.noGoto_ret]
        go_ret
        exact ⟨rfl, Below.refl _ _⟩
theorem decode_span (s : ByteArray) (pos : Nat) (h : pos < s.size) (ha : 128 ≤ (s[pos]'h).toNat) :
    pos + (Utf8.decode s pos).2 ≤ s.size ∧ ∀ j (hj : pos + j < s.size), j < (Utf8.decode s pos).2 → 128 ≤ (s[pos + j]'hj).toNat := by
  have hg : ∀ k (hk : pos + k < s.size), s.get! (pos + k) = s[pos + k]'hk := fun k hk => by simp [ByteArray.get!, getElem!_pos, hk]; rfl
  have h0 : ∀ (hj : pos + 0 < s.size), 128 ≤ (s[pos + 0]'hj).toNat := fun _ => ha
  have key : ∀ n : Nat, (∀ k, k < n → 1 ≤ k → pos + k < s.size ∧ (s.get! (pos + k)).toNat / 64 = 2) → 1 ≤ n → pos + n ≤ s.size ∧ ∀ j (hj : pos + j < s.size), j < n → 128 ≤ (s[pos + j]'hj).toNat := by
    intro n hn h1
    refine ⟨?_, fun j hj hjn => ?_⟩
    · rcases Nat.lt_or_ge 1 n with h2 | h2
      · have := (hn (n - 1) (by omega) (by omega)).1
        omega
      · omega
    · rcases Nat.eq_zero_or_pos j with rfl | hp
      · exact h0 hj
      · have := (hn j hjn hp).2
        rw [hg j hj] at this
        omega
  have hn : ¬ (s[pos]'h).toNat < 128 := by omega
  have one : pos + 1 ≤ s.size ∧ ∀ j (hj : pos + j < s.size), j < 1 → 128 ≤ (s[pos + j]'hj).toNat := key 1 (fun k h2 h3 => by omega) (Nat.le_refl _)
  simp only [Utf8.decode, get_at s pos h, hn, if_false]
  split
  · rename_i h1
    simp only [Bool.and_eq_true, beq_iff_eq, decide_eq_true_eq] at h1
    split
    · exact key 2 (fun k h2 h3 => by obtain rfl : k = 1 := (by omega); exact ⟨h1.2.1, h1.2.2⟩) (by omega)
    · exact one
  · split
    · rename_i h1
      simp only [Bool.and_eq_true, beq_iff_eq, decide_eq_true_eq] at h1
      split
      · exact key 3 (fun k h2 h3 => by
          rcases (show k = 1 ∨ k = 2 by omega) with rfl | rfl
          · exact ⟨h1.1.2.1, h1.1.2.2⟩
          · exact ⟨h1.2.1, h1.2.2⟩) (by omega)
      · exact one
    · split
      · rename_i h1
        simp only [Bool.and_eq_true, beq_iff_eq, decide_eq_true_eq] at h1
        split
        · exact key 4 (fun k h2 h3 => by
            rcases (show k = 1 ∨ k = 2 ∨ k = 3 by omega) with rfl | rfl | rfl
            · exact ⟨h1.1.1.2.1, h1.1.1.2.2⟩
            · exact ⟨h1.1.2.1, h1.1.2.2⟩
            · exact ⟨h1.2.1, h1.2.2⟩) (by omega)
        · exact one
      · exact one
theorem noAny_span {s : ByteArray} {chars : List UInt8} {i n : Nat} (hA : ∀ (j : Nat) b, chars[j]? = some b → b.toNat < 128) (h : Lib.NoAny s.data.toList chars i) (hs : ∀ j (hj : i + j < s.size), j < n → 128 ≤ (s[i + j]'hj).toNat) : Lib.NoAny s.data.toList chars (i + n) := by
  intro j b hj hb
  rcases Nat.lt_or_ge j i with hlt | hge
  · exact h j b hlt hb
  · have hjs : j < s.size := by have := (List.getElem?_eq_some_iff.1 hb).1; rw [data_length] at this; exact this
    have e : i + (j - i) = j := by omega
    have h1 := hs (j - i) (by omega) (by omega)
    have h2 : s.data.toList[j]? = some (s[j]'hjs) := Lib.data_getElem? s j hjs
    rw [h2] at hb
    have hb' := Option.some.inj hb
    simp only [e] at h1
    rw [hb'] at h1
    cases hc : chars.contains b with
    | false => rfl
    | true =>
      have hm : b ∈ chars := by simpa using hc
      obtain ⟨k, hk, hk2⟩ := List.getElem_of_mem hm
      have := hA k b (by rw [List.getElem?_eq_getElem hk, hk2])
      omega
set_option maxHeartbeats 1000000 in
set_option maxRecDepth 1000000 in
theorem indexAny_any (s chars : ByteArray) (w : World) (h2 : 2 ≤ chars.size) (hc : chars.size ≤ 1000) (h8 : s.size ≤ 8) (hA : ∀ (j : Nat) b, chars.data.toList[j]? = some b → b.toNat < 128) :
    Calls Tryz.prog 181 #[.string s, .string chars] w fun e w' => e = .returned (.int .i64 (Lib.indexAny s.data.toList chars.data.toList)) ∧ Below w.heap.size w w' := by
  have HA := Lib.hid hA
  clear hA
  have hemp : chars.toList.isEmpty = false := by
    rw [Lib.toList_data]
    cases h : chars.data.toList with
    | nil => have := Lib.size_eq chars; rw [h, List.length_nil] at this; omega
    | cons _ _ => rfl
  have hn1 : ((chars.size : Int) == 1) = false := beq_eq_false_iff_ne.2 (by omega)
  have h8z : decide ((8 : Int) < (s.size : Int)) = false := decide_eq_false (by omega)
  go_enter Tryz.func181, Tryz.ntmps181
  go_wp2_with fail
  refine (Tryz.strings_shouldUseASCIISet _ _).mono ?_
  rintro e w' ⟨rfl, rfl⟩
  rw [h8z]
  go_wp2_with fail
  go_loopg [9, 10] s.size (fun g _ _ wx => ∃ i : Nat, i ≤ s.size ∧ s.size ≤ i + g ∧ Aside0 (wx.heap[w'.heap.size]? = some (.stringIter s i)) ∧ Aside0 (Below w'.heap.size w' wx) ∧ Aside0 (Lib.NoAny s.data.toList chars.data.toList i))
  case atStart => exact ⟨0, by omega, by omega, ⟨World.iter_heap _ _ _⟩, ⟨(Below.refl _ _).alloc (Nat.le_refl _) _⟩, ⟨Lib.NoAny.zero _ _⟩⟩
  case round =>
    obtain ⟨i, hi, hg, hit, hb, hno⟩ := hrel
    by_cases hlt : i < s.size
    · obtain ⟨g, rfl⟩ : ∃ g, gk = g + 1 := ⟨gk - 1, by omega⟩
      obtain ⟨x, hx⟩ : ∃ x : UInt8, s[i]'hlt = x := ⟨_, rfl⟩
      have HB2 : ∀ n, Aside0 (Below w'.heap.size w' (wr.iterAt w'.heap.size s n)) := fun n => ⟨Lib.below_iterAt hb.out (Nat.le_refl _) s n⟩
      have HI2 : ∀ n, Aside0 ((wr.iterAt w'.heap.size s n).heap[w'.heap.size]? = some (.stringIter s n)) := fun n => ⟨Lib.iterAt_heap _ _ _ _ _ hit.out⟩
      by_cases hhi : 128 ≤ x.toNat
      · have hnx := fun ty => Lib.run_next_any_at (P := Tryz.prog) wr w'.heap.size s i ty hit.out hlt
        have hd := decode_high s i hlt (by rw [hx]; exact hhi)
        have hdl := decode_le s i
        have hsp := decode_span s i hlt (by rw [hx]; exact hhi)
        obtain ⟨c, hc0⟩ : ∃ c, (Utf8.decode s i).1 = c := ⟨_, rfl⟩
        obtain ⟨n, hn0⟩ : ∃ n, (Utf8.decode s i).2 = n := ⟨_, rfl⟩
        rw [hc0] at hd hdl
        rw [hn0] at hd hsp
        simp only [hc0, hn0] at hnx
        have HN : Aside0 (Lib.NoAny s.data.toList chars.data.toList (i + n)) := ⟨noAny_span HA.out hno.out hsp.2⟩
        have hb2 := HB2 (i + n)
        have hi2 := HI2 (i + n)
        generalize wr.iterAt w'.heap.size s (i + n) = wy at hnx hb2 hi2
        have HS := Lib.hid hsp.1
        clear hsp hc0 hn0 HB2 HI2 hx
        have hc128 : (128 : Int) ≤ (c : Int) := by omega
        have hcl : (c : Int) ≤ 2147483647 := by omega
        have hn1' : 1 ≤ n := hd.2
        clear hd hdl
        go_wp2_with fail
        refine (indexRune_high chars c _ hc HA.out hc128 hcl).mono ?_
        rintro e w3 ⟨rfl, hb3⟩
        have HB3 := Aside0.mk hb3
        clear hb3
        go_wp2_with fail
        have hs1 := HS.out
        go_roundg g
        case measure => omega
        case rel => exact ⟨i + n, by omega, by omega, ⟨(HB3.out.block _ (by have := (Array.getElem?_eq_some_iff.1 hi2.out).1; exact this)).trans hi2.out⟩, ⟨below_then hb2.out hb2.out.size HB3.out⟩, HN⟩
      · have hx128 : x.toNat < 128 := by omega
        have hnx := fun ty => Lib.run_next_ascii_at (P := Tryz.prog) wr w'.heap.size s i ty hit.out hlt (by rw [hx]; exact hx128)
        rw [hx] at hnx
        have Hx : Aside0 (s.data.toList[i]? = some x) := ⟨by rw [← hx]; exact Lib.data_getElem? s i hlt⟩
        have hcon := Lib.contains_iff_indexByte chars.data.toList x
        have hback : ((x.toNat : Int)).toNat.toUInt8 = x := by simp
        have hb2 := HB2 (i + 1)
        have hi2 := HI2 (i + 1)
        generalize wr.iterAt w'.heap.size s (i + 1) = wy at hnx hb2 hi2
        have HK := Lib.hid hback
        clear HB2 HI2 hx hhi hback
        cases hin : chars.data.toList.contains x
        · rw [hin] at hcon
          have hneg : decide ((0 : Int) ≤ Lib.indexByte chars.data.toList x) = false := hcon.symm
          have HN := Aside0.mk (hno.out.succ Hx.out hin)
          clear hcon hin
          go_wp2_with fail
          refine (Tryz.strings_IndexRune_ascii chars x.toNat _ (by omega) (by omega)).mono ?_
          rw [HK.out]
          rintro e w3 ⟨rfl, rfl⟩
          go_wp2_with fail
          go_roundg g
          case measure => omega
          case rel => exact ⟨i + 1, by omega, by omega, hi2, hb2, HN⟩
        · rw [hin] at hcon
          have hneg : decide ((0 : Int) ≤ Lib.indexByte chars.data.toList x) = true := hcon.symm
          have HN := Aside0.mk (Lib.indexAny_hit hno.out Hx.out hin)
          clear hcon hin
          go_wp2_with fail
          refine (Tryz.strings_IndexRune_ascii chars x.toNat _ (by omega) (by omega)).mono ?_
          rw [HK.out]
          rintro e w3 ⟨rfl, rfl⟩
          go_wp2_with fail
          go_ret
          exact ⟨by rw [HN.out]; rfl, hb2.out⟩
    · obtain rfl : i = s.size := by omega
      have hnx := fun ty => Lib.run_next_end_at (P := Tryz.prog) wr w'.heap.size s s.size ty hit.out (by omega)
      have HN := Aside0.mk (Lib.indexAny_none (chars := chars.data.toList) (s := s.data.toList) (by rw [← Lib.size_eq]; exact hno.out))
      go_wp2_with fail
      go_ret
      exact ⟨by rw [HN.out]; rfl, hb.out⟩
def strings_ContainsAny.f (a0 a1 : ByteArray) : Option Bool := if a0.size < 4294967281 ∧ 2 ≤ a1.size ∧ a1.size ≤ 1000 ∧ (a1.data.toList.all fun b => decide (b.toNat < 128)) = true then some (Lib.containsAny a0.data.toList a1.data.toList) else none
theorem zero_asciiSet (w : World) : (zeroValue 184).run Tryz.prog w = .ok (.agg (Array.replicate 256 (.bool false))) w := by kernel_rfl
set_option maxHeartbeats 1000000 in
theorem strings_ContainsAny.calls (a0 a1 : ByteArray) (r : Bool) (w : World) (h : strings_ContainsAny.f a0 a1 = some r) :
    Calls Tryz.prog 175 #[.string a0, .string a1] w fun e w' => e = .returned (.bool r) ∧ Below w.heap.size w w' := by
  unfold strings_ContainsAny.f at h
  split at h
  · rename_i hc
    obtain rfl := Option.some.inj h
    obtain ⟨hs, h2, h1000, hall⟩ := hc
    have hA : ∀ (j : Nat) b, a1.data.toList[j]? = some b → b.toNat < 128 := fun j b hb => by
      have := List.all_eq_true.1 hall b (List.mem_of_getElem? hb)
      simpa using this
    have key : Calls Tryz.prog 181 #[.string a0, .string a1] w fun e w' => e = .returned (.int .i64 (Lib.indexAny a0.data.toList a1.data.toList)) ∧ Below w.heap.size w w' := by
      by_cases h8 : a0.size ≤ 8
      · exact indexAny_any a0 a1 w h2 h1000 h8 hA
      · refine (Tryz.strings_IndexAny_long zero_asciiSet a0 a1 w h2 (by omega) hs (by omega) hA).mono ?_
        rintro e w' ⟨rfl, rfl⟩
        exact ⟨rfl, ((Below.refl _ _).alloc (Nat.le_refl _) _).alloc (by simp) _⟩
    have K := Lib.hid key
    clear key hA hall h2 hs h1000
    unfold Lib.containsAny
    go_enter Tryz.func175, Tryz.ntmps175
    go_wp2_with fail
    refine K.out.mono ?_
    rintro e w' ⟨rfl, hb⟩
    have HB := Lib.hid hb
    clear hb
    go_wp2_with fail
    go_ret
    exact ⟨rfl, HB.out⟩
  · cases h
end Go.Proofs.YtnlembpmcbnpnaaGreatDoor.X
namespace Go.Proofs.YtnlembpmcbnpnaaGreatDoor.X
open Go.RowKit Go.Proofs.YtnlembpmcbnpnaaGreatDoorW.PrintWords Go.Proofs.YtnlembpmcbnpnaaGreatDoorW.PrintLast Go.Proofs.YtnlembpmcbnpnaaGreatDoorW.PrintMore
set_option linter.unusedVariables false
set_option linter.unusedSimpArgs false
theorem z11_0_ {P : Prop} (h : P := by (try simp only [List.map_toArray, List.map_cons, List.map_nil]); first | done | rfl | (simp only [List.length_drop, List.length_take]; rfl)) : P := h
theorem z11_1_ {P : Prop} (h : P := by repeat (first | (with_reducible first | exact HB.out | apply below_alloc | apply pw_below_drewN | apply below_drew1 | refine below_set ?_ GE174.out | refine below_set ?_ GE175.out | refine below_set ?_ GE176.out) | exact HB.out)) : P := h
theorem z11_2_ {P : Prop} (h : P := by first | rfl | (simp [errW_none, errW_some] <;> rfl) | (simp [*, errW_none, errW_some] <;> rfl)) : P := h
theorem z11_3_ {P : Prop} (h : P := by first | rfl | (simp; done) | (simp [*]; done)) : P := h
theorem z11_4_ {P : Prop} (h : P := by first | (with_reducible assumption) | assumption) : P := h
/-! ### impl_ValidBody: function 163 -/
def impl_ValidBody.l0 : Nat → List ByteArray → Int → Int → Option (Bool)
 | 0, _, _, _ => none
 | k + 1, x22, x23, x24 => if x24 < x23 then (if 0 ≤ x24 then (if x24 < (x22.length : Int) then (if 0 ≤ (wrap64 (((rdOf ByteArray.empty x22 x24).size : Int) - 2)) then (if (wrap64 (((rdOf ByteArray.empty x22 x24).size : Int) - 2)) ≤ ((rdOf ByteArray.empty x22 x24).size : Int) then (if (((rdOf ByteArray.empty x22 x24).extract 0 ((wrap64 (((rdOf ByteArray.empty x22 x24).size : Int) - 2)) : Int).toNat).size : Int) > 998 then (some false) else ((strings_ContainsAny.f ((rdOf ByteArray.empty x22 x24).extract 0 ((wrap64 (((rdOf ByteArray.empty x22 x24).size : Int) - 2)) : Int).toNat) (⟨#[13, 10, 0]⟩ : ByteArray)).bind fun t167 => (if t167 = true then (some false) else (impl_ValidBody.l0 k x22 x23 (wrap64 (x24 + 1)))))) else (none)) else (none)) else (none)) else (none)) else (some true)
def impl_ValidBody.f (k : Nat) (a0 : ByteArray) : Option (Bool) := if (a0.size : Int) > 3000 then (some false) else ((impl_lines.f a0).bind fun t158 => (if 0 ≤ (wrap64 ((t158.length : Int) - 1)) then (if (wrap64 ((t158.length : Int) - 1)) < (t158.length : Int) then (if (rdOf ByteArray.empty t158 (wrap64 ((t158.length : Int) - 1))).toList = ([] : List UInt8) then (if (wrap64 ((t158.length : Int) - 1)) ≤ (t158.length : Int) then ((some (t158.take ((wrap64 ((t158.length : Int) - 1)) : Int).toNat : List ByteArray)).bind fun y162 => (impl_ValidBody.l0 k y162 (y162.length : Int) 0)) else (none)) else (some false)) else (none)) else (none)))
theorem impl_ValidBody.mono_l : ∀ k, (∀ y0 y1 y2, LeO (impl_ValidBody.l0 k y0 y1 y2) (impl_ValidBody.l0 (k + 1) y0 y1 y2))
 | 0 => fun _ _ _ r h => by simp [impl_ValidBody.l0] at h
 | k + 1 => by
  have ih0 := impl_ValidBody.mono_l k
  ·intro y0 y1 y2
   unfold impl_ValidBody.l0
   repeat' first
   | (with_reducible exact ih0 _ _ _)
   | (with_reducible exact LeO.refl _)
   | (with_reducible exact LeO.none _)
   | (with_reducible refine LeO.ite ?_ ?_)
   | (with_reducible refine LeO.bind ?_ (fun _ => ?_))
   | exact ih0 _ _ _
   | exact LeO.none _
   | refine LeO.ite ?_ ?_
   | refine LeO.bind ?_ (fun _ => ?_)
theorem impl_ValidBody.mono : ∀ a0 k, LeO (impl_ValidBody.f k a0) (impl_ValidBody.f (k + 1) a0) := by
 intro a0 k
 have ih0 := impl_ValidBody.mono_l k
 unfold impl_ValidBody.f
 repeat' first
   | (with_reducible exact ih0 _ _ _)
   | (with_reducible exact LeO.refl _)
   | (with_reducible exact LeO.none _)
   | (with_reducible refine LeO.ite ?_ ?_)
   | (with_reducible refine LeO.bind ?_ (fun _ => ?_))
   | exact ih0 _ _ _
   | exact LeO.none _
   | refine LeO.ite ?_ ?_
   | refine LeO.bind ?_ (fun _ => ?_)
set_option maxHeartbeats 8000000 in
set_option maxRecDepth 100000 in
theorem impl_ValidBody.calls (k : Nat) (a0 : ByteArray) (r : Bool) (w : World) (hGM : GlM w) (h : impl_ValidBody.f k a0 = some r) :
  Calls Tryz.prog 163 #[.string a0] w fun e w' => e = .returned (.bool r) ∧ Below w.heap.size w w' := by
 have HB := Aside0.mk (Below.refl w.heap.size w)
 have H := h
 unfold impl_ValidBody.f at H
 clear h
 by_cases c2 : (a0.size : Int) > 3000
 ·rw [if_pos c2] at H
  have c2b0 : decide (3000 < (a0.size : Int)) = true := decide_eq_true c2
  have c2b1 : decide (3000 < a0.size) = true := decide_eq_true (by omega)
  clear c2
  obtain rfl := Option.some.inj H
  go_enter Tryz.func163, Tryz.ntmps163
  go_wp2
  go_ret
  exact ⟨z11_2_, bq_⟩
 ·rw [if_neg c2] at H
  have c2b0 : decide (3000 < (a0.size : Int)) = false := decide_eq_false c2
  have c2b1 : decide (3000 < a0.size) = false := decide_eq_false (by omega)
  clear c2
  obtain ⟨t158, A3, H⟩ := zbi H
  obtain ⟨ji4, hji4⟩ : ∃ j_ : Int, (wrap64 ((t158.length : Int) - 1)) = j_ := ⟨_, rfl⟩
  replace H : (if 0 ≤ (ji4) then (if (ji4) < (t158.length : Int) then (if (rdOf ByteArray.empty t158 (ji4)).toList = ([] : List UInt8) then (if (ji4) ≤ (t158.length : Int) then ((some (t158.take ((ji4) : Int).toNat : List ByteArray)).bind fun y162 => (impl_ValidBody.l0 k y162 (y162.length : Int) 0)) else (none)) else (some false)) else (none)) else (none)) = some r := by first | (rw [hji4] at H; exact H) | (simp only [hji4] at H ⊢; exact H)
  (try rw [hji4] at A3)
  have hji4w : (IntKind.i64.wrap ((t158.length : Int) - 1)) = ji4 := (i64_w _).trans hji4
  by_cases c5 : 0 ≤ (ji4)
  ·rw [if_pos c5] at H
   have c5b0 : decide (0 ≤ (ji4)) = true := decide_eq_true c5
   clear c5
   by_cases c6 : (ji4) < (t158.length : Int)
   ·rw [if_pos c6] at H
    have c6b0 : decide ((ji4) < (t158.length : Int)) = true := decide_eq_true c6
    clear c6
    have HS7 := Aside0.mk H
    clear H
    go_enter Tryz.func163, Tryz.ntmps163
    go_upto_if 17 with (first | ((with_reducible refine gate_callee (f := 174) rfl ?_); refine goesL_ (some 10) rfl rfl Tryz.func174 (by kernel_rfl) rfl #[.string a0] rfl z11_0_ ?_; (with_reducible refine (impl_lines.calls a0 t158 _ ?side1 A3.out).mono ?_); (case side1 => exact GlM.below hGM (bq_)); rintro e w8 ⟨v159, rfl, ho0, hb⟩; refine ⟨_, rfl, ?_⟩; have HO160 := Aside0.mk (Kd.R_lower ho0 (below_size (bq_))); replace HB := Aside0.mk (below_step (bq_) hb); clear hb; (try clear ho0); obtain ⟨Ao9, co9, eo9⟩ := Kd.R_slice HO160.out; subst eo9; have p161 : 0 ≤ ((ji4) : Int) := of_decide_eq_true z11_4_; have q161 : (ji4) < (t158.length : Int) := of_decide_eq_true z11_4_; obtain ⟨ad161, e161, hx161_0⟩ := Kd.at_string (Kd.R_reads' HO160.out).2.2 (ji4) p161 q161; cases e161; replace p161 := eq_true p161; replace q161 := eq_true q161))
    (try simp only [Act.put, List.setIfInBounds_toArray, List.set_cons_zero, List.set_cons_succ])
    have H := HS7.out
    clear HS7
    by_cases c10 : (rdOf ByteArray.empty t158 (ji4)).toList = ([] : List UInt8)
    ·rw [if_pos c10] at H
     have c10b0 : ((rdOf ByteArray.empty t158 (ji4)).toList == ([] : List UInt8)) = true := beq_iff_eq.mpr c10
     have c10b7 : (rdOf ByteArray.empty t158 (ji4)).toList.isEmpty = true := by rw [c10]; rfl
     have c10b1 : ((rdOf ByteArray.empty t158 (ji4)).toList != ([] : List UInt8)) = false := bne_eq_false_iff_eq.mpr c10
     clear c10
     (first | rw [c10b0] | rw [c10b7] | (simp only [i64_w, i32_w]; rw [c10b0]) | rw [c10b1] | simp only [c10b2, decide_true, decide_false] | skip)
     have c11b0 := eq_true (of_decide_eq_true z11_4_ : 0 ≤ (ji4))
     by_cases c12 : (ji4) ≤ (t158.length : Int)
     ·rw [if_pos c12] at H
      have c12b0 := eq_true c12
      have c12b1 : decide ((ji4) ≤ (t158.length : Int)) = true := decide_eq_true c12
      clear c12
      obtain ⟨y162, hy162⟩ : ∃ y_ : List ByteArray, y_ = (t158.take ((ji4) : Int).toNat) := ⟨_, rfl⟩
      replace H : (impl_ValidBody.l0 k y162 (y162.length : Int) 0) = some r := by first | (rw [hy162]; with_reducible exact H) | (have H2_ := (Option.bind_some _ _).symm.trans H; rw [hy162]; with_reducible exact H2_) | (have H2_ := (Option.bind_some _ _).symm.trans H; with_reducible exact H2_) | with_reducible exact H | (rw [hy162]; exact H) | exact H
      have Ny162 := Aside0.mk hy162
      clear hy162
      have H' := Aside0.mk H
      clear H
      have q13 : ((ji4) : Int) ≤ ((t158.length : Int) : Int) := of_decide_eq_true z11_4_
      obtain ⟨i013, hi013, _, hsz13, _⟩ := info_parts info9
      have hroom13 : t158.length ≤ co9 := (Kd.R_reads' HO160.out).2.1
      have hC13 : Kd.C Kd.string _ (some ad161) t158.length t158 := (Kd.R_reads' HO160.out).2.2
      have hcut13 := cut_to (P := Tryz.prog) 22 9 .i64 Tryz.underlying22 hi013 (some ad161) t158.length co9 (ji4) (of_decide_eq_true z11_4_) q13 hroom13
      have hr13 := Kd.C_take (m := ((ji4) : Int).toNat) hC13 (by omega)
      have hy13 : y162.length = ((ji4) : Int).toNat := (by rw [Ny162.out, List.length_take]; omega)
      rw [← Ny162.out] at hr13
      rw [← hy13] at hcut13
      have HR165 := Aside0.mk hr13
      have HC165 := Aside0.mk (show y162.length ≤ co9 from by omega)
      clear hr13 hC13 hroom13 hi013 hsz13
      have KY13 := Aside0.mk hy13
      clear hy13
      have KL13 := Aside0.mk (show ((ji4) : Int).toNat ≤ t158.length from by omega)
      replace q13 := eq_true q13
      go_wp2
      go_loopg [24] k (fun kq v24 w' => ∃ (x24_1 : Int), v24 = .int .i64 x24_1 ∧ Aside0 (impl_ValidBody.l0 kq y162 (y162.length : Int) x24_1 = some r) ∧ Aside0 (kq ≤ k) ∧ Aside0 (Kd.C Kd.string w' (some ad161) y162.length y162) ∧ Aside0 (Below w.heap.size w w'))
      case atStart => exact ⟨(0), z11_3_, H', ⟨Nat.le_refl _⟩, ⟨(by repeat (first | (with_reducible exact HR165.out) | (with_reducible refine Kd.C_alloc ?_ _) | (with_reducible refine Kd.C_drewN ?_ _) | (with_reducible refine Kd.C_drew ?_) | exact HR165.out))⟩, ⟨bq_⟩⟩
      case round =>
       clear H'
       try clear c1
       try clear p1
       try clear q1
       try clear hx1
       try clear c2
       try clear c2b0
       try clear c2b1
       try clear p2
       try clear c5
       try clear c5b0
       try clear c6
       try clear c6b0
       try clear p6
       try clear c10
       try clear c10b0
       try clear c10b1
       try clear c11
       try clear c11b0
       try clear c12
       try clear c12b0
       try clear c12b1
       try clear q13
       try clear hx161_0
       try clear p161
       try clear q13
       try clear q161
       obtain ⟨x24_1, rfl, HA, HK1, HR165, HB⟩ := hrel
       cases gk with
       | zero => exact absurd HA.out (by simp [impl_ValidBody.l0])
       | succ k1 =>
        have H := HA.out
        clear HA
        simp only [impl_ValidBody.l0] at H
        by_cases c14 : x24_1 < (y162.length : Int)
        ·rw [if_pos c14] at H
         have c14b0 : decide (x24_1 < (y162.length : Int)) = true := decide_eq_true c14
         clear c14
         by_cases c15 : 0 ≤ x24_1
         ·rw [if_pos c15] at H
          have c15b0 : decide (0 ≤ x24_1) = true := decide_eq_true c15
          clear c15
          by_cases c16 : x24_1 < (y162.length : Int)
          ·rw [if_pos c16] at H
           have c16b0 : decide (x24_1 < (y162.length : Int)) = true := decide_eq_true c16
           clear c16
           obtain ⟨ji17, hji17⟩ : ∃ j_ : Int, (wrap64 (((rdOf ByteArray.empty y162 x24_1).size : Int) - 2)) = j_ := ⟨_, rfl⟩
           replace H : (if 0 ≤ (ji17) then (if (ji17) ≤ ((rdOf ByteArray.empty y162 x24_1).size : Int) then (if (((rdOf ByteArray.empty y162 x24_1).extract 0 ((ji17) : Int).toNat).size : Int) > 998 then (some false) else ((strings_ContainsAny.f ((rdOf ByteArray.empty y162 x24_1).extract 0 ((ji17) : Int).toNat) (⟨#[13, 10, 0]⟩ : ByteArray)).bind fun t167 => (if t167 = true then (some false) else (impl_ValidBody.l0 k1 y162 (y162.length : Int) (wrap64 (x24_1 + 1)))))) else (none)) else (none)) = some r := by first | (rw [hji17] at H; exact H) | (simp only [hji17] at H ⊢; exact H)
           have hji17w : (IntKind.i64.wrap (((rdOf ByteArray.empty y162 x24_1).size : Int) - 2)) = ji17 := (i64_w _).trans hji17
           by_cases c18 : 0 ≤ (ji17)
           ·rw [if_pos c18] at H
            have c18b0 := eq_true c18
            have c18b1 : decide (0 ≤ (ji17)) = true := decide_eq_true c18
            clear c18
            by_cases c19 : (ji17) ≤ ((rdOf ByteArray.empty y162 x24_1).size : Int)
            ·rw [if_pos c19] at H
             have c19b0 := eq_true c19
             have c19b1 : decide ((ji17) ≤ ((rdOf ByteArray.empty y162 x24_1).size : Int)) = true := decide_eq_true c19
             clear c19
             by_cases c20 : (((rdOf ByteArray.empty y162 x24_1).extract 0 ((ji17) : Int).toNat).size : Int) > 998
             ·rw [if_pos c20] at H
              try have c20b4 : (998 < max (ji17) 0) = True := eq_true (by have hq_ := c20; rw [ByteArray.size_extract] at hq_; have h0_ : 0 ≤ (ji17) := (by first | omega | simp [*]); have h1_ : (ji17) ≤ ((rdOf ByteArray.empty y162 x24_1).size : Int) := (by first | omega | simp [*]); omega)
              have c20b0 : decide (998 < (((rdOf ByteArray.empty y162 x24_1).extract 0 ((ji17) : Int).toNat).size : Int)) = true := decide_eq_true c20
              have c20b1 : decide (998 < ((rdOf ByteArray.empty y162 x24_1).extract 0 ((ji17) : Int).toNat).size) = true := decide_eq_true (by omega)
              clear c20
              obtain rfl := Option.some.inj H
              have p166 : 0 ≤ (x24_1 : Int) := of_decide_eq_true z11_4_
              have q166 : x24_1 < (y162.length : Int) := of_decide_eq_true z11_4_
              obtain ⟨ad166, e166, hx166_0⟩ := Kd.at_string HR165.out x24_1 p166 q166
              obtain rfl : ad161 = ad166 := (by injection e166)
              try replace hx166_0 := (HB.out.cell (World.block_lt_of_cell? w _ hx166_0)).trans hx166_0
              replace p166 := eq_true p166
              replace q166 := eq_true q166
              go_wp2
              go_ret
              exact ⟨(by first | rfl | (simp [errW_none, errW_some] <;> rfl) | (simp only [← hji4, ← hji17]; first | rfl | (simp [errW_none, errW_some] <;> rfl)) | (simp [*, errW_none, errW_some] <;> rfl)), bq_⟩
             ·rw [if_neg c20] at H
              try have c20b4 : (998 < max (ji17) 0) = False := eq_false (by have hq_ := c20; rw [ByteArray.size_extract] at hq_; have h0_ : 0 ≤ (ji17) := (by first | omega | simp [*]); have h1_ : (ji17) ≤ ((rdOf ByteArray.empty y162 x24_1).size : Int) := (by first | omega | simp [*]); omega)
              have c20b0 : decide (998 < (((rdOf ByteArray.empty y162 x24_1).extract 0 ((ji17) : Int).toNat).size : Int)) = false := decide_eq_false c20
              have c20b1 : decide (998 < ((rdOf ByteArray.empty y162 x24_1).extract 0 ((ji17) : Int).toNat).size) = false := decide_eq_false (by omega)
              clear c20
              obtain ⟨t167, A21, H⟩ := zbi H
              have HS22 := Aside0.mk H
              clear H
              have p166 : 0 ≤ (x24_1 : Int) := of_decide_eq_true z11_4_
              have q166 : x24_1 < (y162.length : Int) := of_decide_eq_true z11_4_
              obtain ⟨ad166, e166, hx166_0⟩ := Kd.at_string HR165.out x24_1 p166 q166
              obtain rfl : ad161 = ad166 := (by injection e166)
              try replace hx166_0 := (HB.out.cell (World.block_lt_of_cell? w _ hx166_0)).trans hx166_0
              replace p166 := eq_true p166
              replace q166 := eq_true q166
              go_upto_if 39 with (first | (go_at_call 175; (with_reducible refine (strings_ContainsAny.calls ((rdOf ByteArray.empty y162 x24_1).extract 0 ((ji17) : Int).toNat) (⟨#[13, 10, 0]⟩ : ByteArray) t167 _ A21.out).mono ?_); rintro e w23 ⟨rfl, hb⟩; replace HR165 := Aside0.mk (Kd.C_below (by repeat (first | (with_reducible exact HR165.out) | (with_reducible refine Kd.C_alloc ?_ _) | (with_reducible refine Kd.C_drewN ?_ _) | (with_reducible refine Kd.C_drew ?_) | exact HR165.out)) hb); replace HB := Aside0.mk (below_step (bq_) hb); clear hb))
              (try simp only [Act.put, List.setIfInBounds_toArray, List.set_cons_zero, List.set_cons_succ])
              have H := HS22.out
              clear HS22
              by_cases c24 : t167 = true
              ·subst c24
               rw [if_pos rfl] at H
               obtain rfl := Option.some.inj H
               go_wp2
               go_ret
               exact ⟨(by first | rfl | (simp [errW_none, errW_some] <;> rfl) | (simp only [← hji4, ← hji17]; first | rfl | (simp [errW_none, errW_some] <;> rfl)) | (simp [*, errW_none, errW_some] <;> rfl)), bq_⟩
              ·replace c24 := Bool.eq_false_iff.mpr c24
               subst c24
               rw [if_neg (show ¬ (false = true) by decide)] at H
               have H' := Aside0.mk H
               clear H
               go_wp2
               go_roundg k1
               case measure => have := HK1.out; omega
               case rel => exact ⟨(wrap64 (x24_1 + 1)), z11_3_, H', ⟨(by have := HK1.out; omega)⟩, ⟨(by repeat (first | (with_reducible exact HR165.out) | (with_reducible refine Kd.C_alloc ?_ _) | (with_reducible refine Kd.C_drewN ?_ _) | (with_reducible refine Kd.C_drew ?_) | exact HR165.out))⟩, ⟨bq_⟩⟩
            ·rw [if_neg c19] at H
             exact absurd H (by simp)
           ·rw [if_neg c18] at H
            exact absurd H (by simp)
          ·rw [if_neg c16] at H
           exact absurd H (by simp)
         ·rw [if_neg c15] at H
          exact absurd H (by simp)
        ·rw [if_neg c14] at H
         have c14b0 : decide (x24_1 < (y162.length : Int)) = false := decide_eq_false c14
         clear c14
         obtain rfl := Option.some.inj H
         go_wp2
         go_ret
         exact ⟨(by first | rfl | (simp [errW_none, errW_some] <;> rfl) | (simp only [← hji4]; first | rfl | (simp [errW_none, errW_some] <;> rfl)) | (simp [*, errW_none, errW_some] <;> rfl)), bq_⟩
     ·rw [if_neg c12] at H
      exact absurd H (by simp)
    ·rw [if_neg c10] at H
     have c10b0 : ((rdOf ByteArray.empty t158 (ji4)).toList == ([] : List UInt8)) = false := beq_eq_false_iff_ne.mpr c10
     have c10b7 : (rdOf ByteArray.empty t158 (ji4)).toList.isEmpty = false := by simpa using c10
     have c10b1 : ((rdOf ByteArray.empty t158 (ji4)).toList != ([] : List UInt8)) = true := bne_iff_ne.mpr c10
     (first | rw [c10b0] | rw [c10b7] | (simp only [i64_w, i32_w]; rw [c10b0]) | rw [c10b1] | simp only [c10b2, decide_true, decide_false] | skip)
     obtain rfl := Option.some.inj H
     go_wp2
     go_ret
     exact ⟨(by first | rfl | (simp [errW_none, errW_some] <;> rfl) | (simp only [← hji4]; first | rfl | (simp [errW_none, errW_some] <;> rfl)) | (simp [*, errW_none, errW_some] <;> rfl)), bq_⟩
   ·rw [if_neg c6] at H
    exact absurd H (by simp)
  ·rw [if_neg c5] at H
   exact absurd H (by simp)
/-! ### impl_right: function 156 -/
mutual
def impl_right.j0 : Nat → List ByteArray → Bool → Option (Bool)
 | 0, _, _ => none
 | k + 1, x2, x37 => if x37 = true then (some false) else (impl_right.l0 k x2 (x2.length : Int) 0)
def impl_right.l0 : Nat → List ByteArray → Int → Int → Option (Bool)
 | 0, _, _, _ => none
 | k + 1, x38, x39, x40 => if x40 < x39 then (if 0 ≤ x40 then (if x40 < (x38.length : Int) then ((impl_ValidAddress.f k (rdOf ByteArray.empty x38 x40)).bind fun t173 => (if t173 = true then (impl_right.l0 k x38 x39 (wrap64 (x40 + 1))) else (some false))) else (none)) else (none)) else (some true)
end
def impl_right.f (k : Nat) (a0 : ByteArray) (a1 : ByteArray) (l2 : List ByteArray) (a3 : ByteArray) : Option (Bool) := (impl_ValidDomain.f k a0).bind fun t168 => (if t168 = true then (if a1.toList = ([] : List UInt8) then (if (l2.length : Int) < 1 then (impl_right.j0 k l2 true) else (if (l2.length : Int) > 20 then (impl_right.j0 k l2 true) else ((impl_ValidBody.f k a3).bind fun t169 => (impl_right.j0 k l2 (!t169))))) else ((impl_ValidAddress.f k a1).bind fun t170 => (if t170 = true then (if (l2.length : Int) < 1 then (impl_right.j0 k l2 true) else (if (l2.length : Int) > 20 then (impl_right.j0 k l2 true) else ((impl_ValidBody.f k a3).bind fun t171 => (impl_right.j0 k l2 (!t171))))) else (impl_right.j0 k l2 true)))) else (impl_right.j0 k l2 true))
theorem impl_right.mono_l : ∀ k, (∀ y0 y1, LeO (impl_right.j0 k y0 y1) (impl_right.j0 (k + 1) y0 y1)) ∧ (∀ y0 y1 y2, LeO (impl_right.l0 k y0 y1 y2) (impl_right.l0 (k + 1) y0 y1 y2))
 | 0 => ⟨fun _ _ r h => by simp [impl_right.j0] at h, fun _ _ _ r h => by simp [impl_right.l0] at h⟩
 | k + 1 => by
  obtain ⟨ih0, ih1⟩ := impl_right.mono_l k
  refine ⟨?_, ?_⟩
  ·intro y0 y1
   unfold impl_right.j0
   repeat' first
   | (with_reducible exact ih0 _ _)
   | (with_reducible exact ih1 _ _ _)
   | (with_reducible exact impl_ValidAddress.mono _ _)
   | (with_reducible exact impl_ValidBody.mono _ _)
   | (with_reducible exact impl_ValidDomain.mono _ _)
   | (with_reducible exact LeO.refl _)
   | (with_reducible exact LeO.none _)
   | (with_reducible refine LeO.ite ?_ ?_)
   | (with_reducible refine LeO.bind ?_ (fun _ => ?_))
   | exact ih0 _ _
   | exact ih1 _ _ _
   | exact impl_ValidAddress.mono _ _
   | exact impl_ValidBody.mono _ _
   | exact impl_ValidDomain.mono _ _
   | exact LeO.none _
   | refine LeO.ite ?_ ?_
   | refine LeO.bind ?_ (fun _ => ?_)
  ·intro y0 y1 y2
   unfold impl_right.l0
   repeat' first
   | (with_reducible exact ih0 _ _)
   | (with_reducible exact ih1 _ _ _)
   | (with_reducible exact impl_ValidAddress.mono _ _)
   | (with_reducible exact impl_ValidBody.mono _ _)
   | (with_reducible exact impl_ValidDomain.mono _ _)
   | (with_reducible exact LeO.refl _)
   | (with_reducible exact LeO.none _)
   | (with_reducible refine LeO.ite ?_ ?_)
   | (with_reducible refine LeO.bind ?_ (fun _ => ?_))
   | exact ih0 _ _
   | exact ih1 _ _ _
   | exact impl_ValidAddress.mono _ _
   | exact impl_ValidBody.mono _ _
   | exact impl_ValidDomain.mono _ _
   | exact LeO.none _
   | refine LeO.ite ?_ ?_
   | refine LeO.bind ?_ (fun _ => ?_)
theorem impl_right.mono : ∀ a0 a1 a2 a3 k, LeO (impl_right.f k a0 a1 a2 a3) (impl_right.f (k + 1) a0 a1 a2 a3) := by
 intro a0 a1 a2 a3 k
 obtain ⟨ih0, ih1⟩ := impl_right.mono_l k
 unfold impl_right.f
 repeat' first
   | (with_reducible exact ih0 _ _)
   | (with_reducible exact ih1 _ _ _)
   | (with_reducible exact impl_ValidAddress.mono _ _)
   | (with_reducible exact impl_ValidBody.mono _ _)
   | (with_reducible exact impl_ValidDomain.mono _ _)
   | (with_reducible exact LeO.refl _)
   | (with_reducible exact LeO.none _)
   | (with_reducible refine LeO.ite ?_ ?_)
   | (with_reducible refine LeO.bind ?_ (fun _ => ?_))
   | exact ih0 _ _
   | exact ih1 _ _ _
   | exact impl_ValidAddress.mono _ _
   | exact impl_ValidBody.mono _ _
   | exact impl_ValidDomain.mono _ _
   | exact LeO.none _
   | refine LeO.ite ?_ ?_
   | refine LeO.bind ?_ (fun _ => ?_)
set_option maxHeartbeats 8000000 in
set_option maxRecDepth 100000 in
theorem impl_right.calls (k : Nat) (a0 : ByteArray) (a1 : ByteArray) (A2 : Option Addr) (c2 : Nat) (l2 : List ByteArray) (a3 : ByteArray) (r : Bool) (w : World) (hGM : GlM w) (hr2 : Kd.C Kd.string w A2 l2.length l2) (hc2 : l2.length ≤ c2) (h : impl_right.f k a0 a1 l2 a3 = some r) :
  Calls Tryz.prog 156 #[.string a0, .string a1, .slice A2 l2.length c2, .string a3] w fun e w' => e = .returned (.bool r) ∧ Below w.heap.size w w' := by
 have HR2 := Aside0.mk hr2
 have HC2 := Aside0.mk hc2
 clear hr2 hc2
 have HB := Aside0.mk (Below.refl w.heap.size w)
 have H := h
 unfold impl_right.f at H
 clear h
 have HC5 := Aside0.mk H
 clear H
 go_enter Tryz.func156, Tryz.ntmps156
 go_upto_region 1 with (fail)
 go_cut [37] (fun v37 wc => ∃ (kq : Nat) (x37_4 : Bool), v37 = .bool x37_4 ∧ Aside0 (impl_right.j0 kq l2 x37_4 = some r) ∧ Aside0 (kq ≤ k) ∧ Aside0 (Below w.heap.size w wc))
 case first =>
  have H := HC5.out
  clear HC5
  obtain ⟨t168, A6, H⟩ := zbi H
  by_cases c7 : t168 = true
  ·subst c7
   rw [if_pos rfl] at H
   by_cases c8 : a1.toList = ([] : List UInt8)
   ·rw [if_pos c8] at H
    have c8b0 : (a1.toList == ([] : List UInt8)) = true := beq_iff_eq.mpr c8
    have c8b7 : a1.toList.isEmpty = true := by rw [c8]; rfl
    have c8b1 : (a1.toList != ([] : List UInt8)) = false := bne_eq_false_iff_eq.mpr c8
    clear c8
    (first | rw [c8b0] | rw [c8b7] | (simp only [i64_w, i32_w]; rw [c8b0]) | rw [c8b1] | simp only [c8b2, decide_true, decide_false] | skip)
    by_cases c9 : (l2.length : Int) < 1
    ·rw [if_pos c9] at H
     have c9b0 : decide ((l2.length : Int) < 1) = true := decide_eq_true c9
     have c9b1 : decide (l2.length < 1) = true := decide_eq_true (by omega)
     clear c9
     have H' := Aside0.mk H
     clear H
     go_wp2_with (first | ((with_reducible refine gate_callee (f := 161) rfl ?_); refine goesL_ (some 12) rfl rfl Tryz.func161 (by kernel_rfl) rfl #[.string a0] rfl z11_0_ ?_; (with_reducible refine (impl_ValidDomain.calls k a0 true _ ?side1 A6.out).mono ?_); (case side1 => exact GlM.below hGM (bq_)); rintro e w10 ⟨rfl, hb⟩; refine ⟨_, rfl, ?_⟩; replace HB := Aside0.mk (below_step (bq_) hb); clear hb))
     go_meet
     case rel => exact ⟨_, (true), z11_3_, H', ⟨(by first | omega | exact Nat.le_refl _)⟩, ⟨bq_⟩⟩
    ·rw [if_neg c9] at H
     have c9b0 : decide ((l2.length : Int) < 1) = false := decide_eq_false c9
     have c9b1 : decide (l2.length < 1) = false := decide_eq_false (by omega)
     clear c9
     by_cases c11 : (l2.length : Int) > 20
     ·rw [if_pos c11] at H
      have c11b0 : decide (20 < (l2.length : Int)) = true := decide_eq_true c11
      have c11b1 : decide (20 < l2.length) = true := decide_eq_true (by omega)
      clear c11
      have H' := Aside0.mk H
      clear H
      go_wp2_with (first | ((with_reducible refine gate_callee (f := 161) rfl ?_); refine goesL_ (some 12) rfl rfl Tryz.func161 (by kernel_rfl) rfl #[.string a0] rfl z11_0_ ?_; (with_reducible refine (impl_ValidDomain.calls k a0 true _ ?side1 A6.out).mono ?_); (case side1 => exact GlM.below hGM (bq_)); rintro e w12 ⟨rfl, hb⟩; refine ⟨_, rfl, ?_⟩; replace HB := Aside0.mk (below_step (bq_) hb); clear hb))
      go_meet
      case rel => exact ⟨_, (true), z11_3_, H', ⟨(by first | omega | exact Nat.le_refl _)⟩, ⟨bq_⟩⟩
     ·rw [if_neg c11] at H
      have c11b0 : decide (20 < (l2.length : Int)) = false := decide_eq_false c11
      have c11b1 : decide (20 < l2.length) = false := decide_eq_false (by omega)
      clear c11
      obtain ⟨t169, A13, H⟩ := zbi H
      have H' := Aside0.mk H
      clear H
      go_wp2_with (first | ((with_reducible refine gate_callee (f := 161) rfl ?_); refine goesL_ (some 12) rfl rfl Tryz.func161 (by kernel_rfl) rfl #[.string a0] rfl z11_0_ ?_; (with_reducible refine (impl_ValidDomain.calls k a0 true _ ?side1 A6.out).mono ?_); (case side1 => exact GlM.below hGM (bq_)); rintro e w14 ⟨rfl, hb⟩; refine ⟨_, rfl, ?_⟩; replace HB := Aside0.mk (below_step (bq_) hb); clear hb) | (go_at_call 163; (with_reducible refine (impl_ValidBody.calls k a3 t169 _ ?side1 A13.out).mono ?_); (case side1 => exact GlM.below hGM (bq_)); rintro e w15 ⟨rfl, hb⟩; replace HB := Aside0.mk (below_step (bq_) hb); clear hb))
      go_meet
      case rel => exact ⟨_, (!t169), z11_3_, H', ⟨(by first | omega | exact Nat.le_refl _)⟩, ⟨bq_⟩⟩
   ·rw [if_neg c8] at H
    have c8b0 : (a1.toList == ([] : List UInt8)) = false := beq_eq_false_iff_ne.mpr c8
    have c8b7 : a1.toList.isEmpty = false := by simpa using c8
    have c8b1 : (a1.toList != ([] : List UInt8)) = true := bne_iff_ne.mpr c8
    (first | rw [c8b0] | rw [c8b7] | (simp only [i64_w, i32_w]; rw [c8b0]) | rw [c8b1] | simp only [c8b2, decide_true, decide_false] | skip)
    obtain ⟨t170, A16, H⟩ := zbi H
    by_cases c17 : t170 = true
    ·subst c17
     rw [if_pos rfl] at H
     by_cases c18 : (l2.length : Int) < 1
     ·rw [if_pos c18] at H
      have c18b0 : decide ((l2.length : Int) < 1) = true := decide_eq_true c18
      have c18b1 : decide (l2.length < 1) = true := decide_eq_true (by omega)
      clear c18
      have H' := Aside0.mk H
      clear H
      go_wp2_with (first | ((with_reducible refine gate_callee (f := 161) rfl ?_); refine goesL_ (some 12) rfl rfl Tryz.func161 (by kernel_rfl) rfl #[.string a0] rfl z11_0_ ?_; (with_reducible refine (impl_ValidDomain.calls k a0 true _ ?side1 A6.out).mono ?_); (case side1 => exact GlM.below hGM (bq_)); rintro e w19 ⟨rfl, hb⟩; refine ⟨_, rfl, ?_⟩; replace HB := Aside0.mk (below_step (bq_) hb); clear hb) | (go_at_call 162; (with_reducible refine (impl_ValidAddress.calls k a1 true _ ?side1 A16.out).mono ?_); (case side1 => exact GlM.below hGM (bq_)); rintro e w20 ⟨rfl, hb⟩; replace HB := Aside0.mk (below_step (bq_) hb); clear hb))
      go_meet
      case rel => exact ⟨_, (true), z11_3_, H', ⟨(by first | omega | exact Nat.le_refl _)⟩, ⟨bq_⟩⟩
     ·rw [if_neg c18] at H
      have c18b0 : decide ((l2.length : Int) < 1) = false := decide_eq_false c18
      have c18b1 : decide (l2.length < 1) = false := decide_eq_false (by omega)
      clear c18
      by_cases c21 : (l2.length : Int) > 20
      ·rw [if_pos c21] at H
       have c21b0 : decide (20 < (l2.length : Int)) = true := decide_eq_true c21
       have c21b1 : decide (20 < l2.length) = true := decide_eq_true (by omega)
       clear c21
       have H' := Aside0.mk H
       clear H
       go_wp2_with (first | ((with_reducible refine gate_callee (f := 161) rfl ?_); refine goesL_ (some 12) rfl rfl Tryz.func161 (by kernel_rfl) rfl #[.string a0] rfl z11_0_ ?_; (with_reducible refine (impl_ValidDomain.calls k a0 true _ ?side1 A6.out).mono ?_); (case side1 => exact GlM.below hGM (bq_)); rintro e w22 ⟨rfl, hb⟩; refine ⟨_, rfl, ?_⟩; replace HB := Aside0.mk (below_step (bq_) hb); clear hb) | (go_at_call 162; (with_reducible refine (impl_ValidAddress.calls k a1 true _ ?side1 A16.out).mono ?_); (case side1 => exact GlM.below hGM (bq_)); rintro e w23 ⟨rfl, hb⟩; replace HB := Aside0.mk (below_step (bq_) hb); clear hb))
       go_meet
       case rel => exact ⟨_, (true), z11_3_, H', ⟨(by first | omega | exact Nat.le_refl _)⟩, ⟨bq_⟩⟩
      ·rw [if_neg c21] at H
       have c21b0 : decide (20 < (l2.length : Int)) = false := decide_eq_false c21
       have c21b1 : decide (20 < l2.length) = false := decide_eq_false (by omega)
       clear c21
       obtain ⟨t171, A24, H⟩ := zbi H
       have H' := Aside0.mk H
       clear H
       go_wp2_with (first | ((with_reducible refine gate_callee (f := 161) rfl ?_); refine goesL_ (some 12) rfl rfl Tryz.func161 (by kernel_rfl) rfl #[.string a0] rfl z11_0_ ?_; (with_reducible refine (impl_ValidDomain.calls k a0 true _ ?side1 A6.out).mono ?_); (case side1 => exact GlM.below hGM (bq_)); rintro e w25 ⟨rfl, hb⟩; refine ⟨_, rfl, ?_⟩; replace HB := Aside0.mk (below_step (bq_) hb); clear hb) | (go_at_call 162; (with_reducible refine (impl_ValidAddress.calls k a1 true _ ?side1 A16.out).mono ?_); (case side1 => exact GlM.below hGM (bq_)); rintro e w26 ⟨rfl, hb⟩; replace HB := Aside0.mk (below_step (bq_) hb); clear hb) | (go_at_call 163; (with_reducible refine (impl_ValidBody.calls k a3 t171 _ ?side1 A24.out).mono ?_); (case side1 => exact GlM.below hGM (bq_)); rintro e w27 ⟨rfl, hb⟩; replace HB := Aside0.mk (below_step (bq_) hb); clear hb))
       go_meet
       case rel => exact ⟨_, (!t171), z11_3_, H', ⟨(by first | omega | exact Nat.le_refl _)⟩, ⟨bq_⟩⟩
    ·replace c17 := Bool.eq_false_iff.mpr c17
     subst c17
     rw [if_neg (show ¬ (false = true) by decide)] at H
     have H' := Aside0.mk H
     clear H
     go_wp2_with (first | ((with_reducible refine gate_callee (f := 161) rfl ?_); refine goesL_ (some 12) rfl rfl Tryz.func161 (by kernel_rfl) rfl #[.string a0] rfl z11_0_ ?_; (with_reducible refine (impl_ValidDomain.calls k a0 true _ ?side1 A6.out).mono ?_); (case side1 => exact GlM.below hGM (bq_)); rintro e w28 ⟨rfl, hb⟩; refine ⟨_, rfl, ?_⟩; replace HB := Aside0.mk (below_step (bq_) hb); clear hb) | (go_at_call 162; (with_reducible refine (impl_ValidAddress.calls k a1 false _ ?side1 A16.out).mono ?_); (case side1 => exact GlM.below hGM (bq_)); rintro e w29 ⟨rfl, hb⟩; replace HB := Aside0.mk (below_step (bq_) hb); clear hb))
     go_meet
     case rel => exact ⟨_, (true), z11_3_, H', ⟨(by first | omega | exact Nat.le_refl _)⟩, ⟨bq_⟩⟩
  ·replace c7 := Bool.eq_false_iff.mpr c7
   subst c7
   rw [if_neg (show ¬ (false = true) by decide)] at H
   have H' := Aside0.mk H
   clear H
   go_wp2_with (first | ((with_reducible refine gate_callee (f := 161) rfl ?_); refine goesL_ (some 12) rfl rfl Tryz.func161 (by kernel_rfl) rfl #[.string a0] rfl z11_0_ ?_; (with_reducible refine (impl_ValidDomain.calls k a0 false _ ?side1 A6.out).mono ?_); (case side1 => exact GlM.below hGM (bq_)); rintro e w30 ⟨rfl, hb⟩; refine ⟨_, rfl, ?_⟩; replace HB := Aside0.mk (below_step (bq_) hb); clear hb))
   go_meet
   case rel => exact ⟨_, (true), z11_3_, H', ⟨(by first | omega | exact Nat.le_refl _)⟩, ⟨bq_⟩⟩
 case rest =>
  clear HC5
  try clear c1
  try clear c2
  try clear p2
  try clear c7
  try clear c8
  try clear c8b0
  try clear c8b1
  try clear c9
  try clear c9b0
  try clear c9b1
  try clear c11
  try clear c11b0
  try clear c11b1
  try clear c15
  try clear c16
  try clear c17
  try clear c18
  try clear c18b0
  try clear c18b1
  try clear c21
  try clear c21b0
  try clear c21b1
  obtain ⟨kq, x37_4, rfl, HA, HJ4, HB⟩ := hcut
  cases kq with
  | zero => exact absurd HA.out (by simp [impl_right.j0])
  | succ kj4 =>
   have H := HA.out
   clear HA
   simp only [impl_right.j0] at H
   by_cases c31 : x37_4 = true
   ·subst c31
    rw [if_pos rfl] at H
    obtain rfl := Option.some.inj H
    go_wp2
    go_ret
    exact ⟨z11_2_, bq_⟩
   ·replace c31 := Bool.eq_false_iff.mpr c31
    subst c31
    rw [if_neg (show ¬ (false = true) by decide)] at H
    have H' := Aside0.mk H
    clear H
    go_wp2
    go_loopg [40] kj4 (fun kq v40 w' => ∃ (x40_2 : Int), v40 = .int .i64 x40_2 ∧ Aside0 (impl_right.l0 kq l2 (l2.length : Int) x40_2 = some r) ∧ Aside0 (kq ≤ kj4) ∧ Aside0 (Below w.heap.size w w'))
    case atStart => exact ⟨(0), z11_3_, H', ⟨Nat.le_refl _⟩, ⟨bq_⟩⟩
    case round =>
     clear H'
     try clear c1
     try clear c2
     try clear p2
     try clear c3
     try clear c7
     try clear c8
     try clear c8b0
     try clear c8b1
     try clear c9
     try clear c9b0
     try clear c9b1
     try clear c11
     try clear c11b0
     try clear c11b1
     try clear c15
     try clear c16
     try clear c17
     try clear c18
     try clear c18b0
     try clear c18b1
     try clear c21
     try clear c21b0
     try clear c21b1
     try clear c31
     try clear p2
     obtain ⟨x40_2, rfl, HA, HK2, HB⟩ := hrel
     cases gk with
     | zero => exact absurd HA.out (by simp [impl_right.l0])
     | succ k2 =>
      have H := HA.out
      clear HA
      simp only [impl_right.l0] at H
      by_cases c32 : x40_2 < (l2.length : Int)
      ·rw [if_pos c32] at H
       have c32b0 : decide (x40_2 < (l2.length : Int)) = true := decide_eq_true c32
       clear c32
       by_cases c33 : 0 ≤ x40_2
       ·rw [if_pos c33] at H
        have c33b0 : decide (0 ≤ x40_2) = true := decide_eq_true c33
        clear c33
        by_cases c34 : x40_2 < (l2.length : Int)
        ·rw [if_pos c34] at H
         have c34b0 : decide (x40_2 < (l2.length : Int)) = true := decide_eq_true c34
         clear c34
         obtain ⟨t173, A35, H⟩ := zbi H
         have HS36 := Aside0.mk H
         clear H
         have p172 : 0 ≤ (x40_2 : Int) := of_decide_eq_true z11_4_
         have q172 : x40_2 < (l2.length : Int) := of_decide_eq_true z11_4_
         obtain ⟨ad172, e172, hx172_0⟩ := Kd.at_string HR2.out x40_2 p172 q172
         cases e172
         try replace hx172_0 := (HB.out.cell (World.block_lt_of_cell? w _ hx172_0)).trans hx172_0
         replace p172 := eq_true p172
         replace q172 := eq_true q172
         go_upto_if 46 with (first | ((with_reducible refine gate_callee (f := 162) rfl ?_); refine goesL_ (some 45) rfl rfl Tryz.func162 (by kernel_rfl) rfl #[.string (rdOf ByteArray.empty l2 x40_2)] rfl z11_0_ ?_; (with_reducible refine (impl_ValidAddress.calls k2 (rdOf ByteArray.empty l2 x40_2) t173 _ ?side1 A35.out).mono ?_); (case side1 => exact GlM.below hGM (bq_)); rintro e w37 ⟨rfl, hb⟩; refine ⟨_, rfl, ?_⟩; replace HB := Aside0.mk (below_step (bq_) hb); clear hb))
         (try simp only [Act.put, List.setIfInBounds_toArray, List.set_cons_zero, List.set_cons_succ])
         have H := HS36.out
         clear HS36
         by_cases c38 : t173 = true
         ·subst c38
          rw [if_pos rfl] at H
          have H' := Aside0.mk H
          clear H
          go_wp2
          go_roundg k2
          case measure => have := HJ4.out; have := HK2.out; omega
          case rel => exact ⟨(wrap64 (x40_2 + 1)), z11_3_, H', ⟨(by have := HJ4.out; have := HK2.out; omega)⟩, ⟨bq_⟩⟩
         ·replace c38 := Bool.eq_false_iff.mpr c38
          subst c38
          rw [if_neg (show ¬ (false = true) by decide)] at H
          obtain rfl := Option.some.inj H
          go_wp2
          go_ret
          exact ⟨z11_2_, bq_⟩
        ·rw [if_neg c34] at H
         exact absurd H (by simp)
       ·rw [if_neg c33] at H
        exact absurd H (by simp)
      ·rw [if_neg c32] at H
       have c32b0 : decide (x40_2 < (l2.length : Int)) = false := decide_eq_false c32
       clear c32
       obtain rfl := Option.some.inj H
       go_wp2
       go_ret
       exact ⟨z11_2_, bq_⟩
/-! ### impl_messageKind_right: function 151 -/
def impl_messageKind_right.f (k : Nat)  (a1_0 : Int) (a1_1 : Int) (a1_2 : Int) (a1_3 : ByteArray) (l1_4 : List ByteArray) (a1_5 : ByteArray) (a1_6 : Int) (a1_7 : Int) (a1_8 : Int) (a1_9 : Int) (a1_10 : ByteArray) (a1_11 : Int) (a1_12 : Int) : Option (Bool) := (impl_in.f a1_1 1 999999).bind fun t177 => (if t177 = true then ((impl_in.f a1_2 0 20000000).bind fun t178 => (if t178 = true then ((impl_right.f k (⟨#[111, 117, 116, 46, 101, 120, 97, 109, 112, 108, 101]⟩ : ByteArray) a1_3 l1_4 a1_5).bind fun t179 => (some t179)) else (some false))) else (some false))
theorem impl_messageKind_right.mono : ∀ a0 a1 a2 a3 a4 a5 a6 a7 a8 a9 a10 a11 a12 k, LeO (impl_messageKind_right.f k a0 a1 a2 a3 a4 a5 a6 a7 a8 a9 a10 a11 a12) (impl_messageKind_right.f (k + 1) a0 a1 a2 a3 a4 a5 a6 a7 a8 a9 a10 a11 a12) := by
 intro a0 a1 a2 a3 a4 a5 a6 a7 a8 a9 a10 a11 a12 k
 unfold impl_messageKind_right.f
 repeat' first
   | (with_reducible exact impl_right.mono _ _ _ _ _)
   | (with_reducible exact LeO.refl _)
   | (with_reducible exact LeO.none _)
   | (with_reducible refine LeO.ite ?_ ?_)
   | (with_reducible refine LeO.bind ?_ (fun _ => ?_))
   | exact impl_right.mono _ _ _ _ _
   | exact LeO.none _
   | refine LeO.ite ?_ ?_
   | refine LeO.bind ?_ (fun _ => ?_)
set_option maxHeartbeats 8000000 in
set_option maxRecDepth 100000 in
theorem impl_messageKind_right.calls (k : Nat)  (a1_0 : Int) (a1_1 : Int) (a1_2 : Int) (a1_3 : ByteArray) (A1_4 : Option Addr) (c1_4 : Nat) (l1_4 : List ByteArray) (a1_5 : ByteArray) (a1_6 : Int) (a1_7 : Int) (a1_8 : Int) (a1_9 : Int) (a1_10 : ByteArray) (a1_11 : Int) (a1_12 : Int) (r : Bool) (w : World) (hGM : GlM w) (hr1_4 : Kd.C Kd.string w A1_4 l1_4.length l1_4) (hc1_4 : l1_4.length ≤ c1_4) (h : impl_messageKind_right.f k a1_0 a1_1 a1_2 a1_3 l1_4 a1_5 a1_6 a1_7 a1_8 a1_9 a1_10 a1_11 a1_12 = some r) :
  Calls Tryz.prog 151 #[.agg #[], .agg #[.int .i64 a1_0, .int .i64 a1_1, .int .i64 a1_2, .string a1_3, .slice A1_4 l1_4.length c1_4, .string a1_5, .int .i64 a1_6, .int .i64 a1_7, .int .i64 a1_8, .int .i64 a1_9, .string a1_10, .int .i64 a1_11, .int .i64 a1_12]] w fun e w' => e = .returned (.bool r) ∧ Below w.heap.size w w' := by
 have hu111 := Tryz.underlying111
 have hu28 := Tryz.underlying28
 have hu24 := Tryz.underlying24
 have HR1_4 := Aside0.mk hr1_4
 have HC1_4 := Aside0.mk hc1_4
 clear hr1_4 hc1_4
 have HB := Aside0.mk (Below.refl w.heap.size w)
 have H := h
 unfold impl_messageKind_right.f at H
 clear h
 have HS3 := Aside0.mk H
 clear H
 go_enter Tryz.func151, Tryz.ntmps151
 go_upto_region 2 with (first | ((with_reducible refine gate_dst (N := 2) rfl ?_); refine box_event (by rfl) (N := 2) (by rfl) (cs := #[]) (t := 111) (by first | (go_simp; done) | (go_simp; rfl)) ?_; intro gb174 hg w4 hbox hb; have BK174 := Aside0.mk (hbox); have GW174 := Aside0.mk ((by rw [hg]; exact (below_size (bq_)) : w.heap.size ≤ gb174)); have GE174 := GW174; replace HB := Aside0.mk (below_step (bq_) hb); clear hb hbox hg) | ((with_reducible refine gate_dst (N := 3) rfl ?_); refine box_event (by rfl) (N := 3) (by rfl) (cs := #[.int .i64 a1_0, .int .i64 a1_1, .int .i64 a1_2, .string a1_3, .slice A1_4 l1_4.length c1_4, .string a1_5, .int .i64 a1_6, .int .i64 a1_7, .int .i64 a1_8, .int .i64 a1_9, .string a1_10, .int .i64 a1_11, .int .i64 a1_12]) (t := 28) (by first | (go_simp; done) | (go_simp; rfl)) ?_; intro gb175 hg w5 hbox hb; have BK175 := Aside0.mk (hbox); have GW175 := Aside0.mk ((by rw [hg]; exact (below_size (by repeat (first | (with_reducible first | exact HB.out | apply below_alloc | apply pw_below_drewN | apply below_drew1 | refine below_set ?_ GE174.out) | exact HB.out))) : w.heap.size ≤ gb175)); have GE175 := GW175; replace HB := Aside0.mk (below_step (by repeat (first | (with_reducible first | exact HB.out | apply below_alloc | apply pw_below_drewN | apply below_drew1 | refine below_set ?_ GE174.out) | exact HB.out)) hb); have NB174_175 := Aside0.mk ((by rw [hg]; exact Nat.ne_of_lt (blk_lt (g := gb174) (o := .cells #[] 111 (0, 0)) (by (with_reducible repeat (first | refine blk_drewN ?_ _ | refine blk_drew ?_ | refine blk_alloc ?_ _)); exact BK174.out)) : gb174 ≠ gb175)); have NB175_174 := Aside0.mk NB174_175.out.symm; replace BK174 := Aside0.mk (zbb BK174.out hb); clear hb hbox hg; have hnb6 := NB175_174.out; have hnc6 := NB174_175.out; obtain ⟨q7_0, q7_1, q7_2, q7_3, q7_4, q7_5, q7_6, q7_7, q7_8, q7_9, q7_10, q7_11, q7_12⟩ := zc13 BK175.out; obtain ⟨f7_0, f7_1, f7_2, f7_3, f7_4, f7_5, f7_6, f7_7, f7_8, f7_9, f7_10, f7_11, f7_12⟩ := zf13 BK175.out) | ((with_reducible refine gate_dst (N := 5) rfl ?_); refine box_event (by rfl) (N := 5) (by rfl) (cs := #[.int .i64 0, .int .i64 0, .string (⟨#[]⟩ : ByteArray), .slice none 0 0, .string (⟨#[]⟩ : ByteArray)]) (t := 24) (by first | (go_simp; done) | (go_simp; rfl)) ?_; intro gb176 hg w8 hbox hb; have BK176 := Aside0.mk (hbox); have GW176 := Aside0.mk ((by rw [hg]; exact (below_size (by repeat (first | (with_reducible first | exact HB.out | apply below_alloc | apply pw_below_drewN | apply below_drew1 | refine below_set ?_ GE174.out | refine below_set ?_ GE175.out) | exact HB.out))) : w.heap.size ≤ gb176)); have GE176 := GW176; replace HB := Aside0.mk (below_step (by repeat (first | (with_reducible first | exact HB.out | apply below_alloc | apply pw_below_drewN | apply below_drew1 | refine below_set ?_ GE174.out | refine below_set ?_ GE175.out) | exact HB.out)) hb); have NB174_176 := Aside0.mk ((by rw [hg]; exact Nat.ne_of_lt (blk_lt (g := gb174) (o := .cells #[] 111 (0, 0)) (by (with_reducible repeat (first | refine blk_drewN ?_ _ | refine blk_drew ?_ | refine blk_alloc ?_ _)); exact BK174.out)) : gb174 ≠ gb176)); have NB176_174 := Aside0.mk NB174_176.out.symm; replace BK174 := Aside0.mk (zbb BK174.out hb); have NB175_176 := Aside0.mk ((by rw [hg]; exact Nat.ne_of_lt (blk_lt (g := gb175) (o := .cells #[.int .i64 a1_0, .int .i64 a1_1, .int .i64 a1_2, .string a1_3, .slice A1_4 l1_4.length c1_4, .string a1_5, .int .i64 a1_6, .int .i64 a1_7, .int .i64 a1_8, .int .i64 a1_9, .string a1_10, .int .i64 a1_11, .int .i64 a1_12] 28 (0, 0)) (by (with_reducible repeat (first | refine blk_drewN ?_ _ | refine blk_drew ?_ | refine blk_alloc ?_ _)); exact BK175.out)) : gb175 ≠ gb176)); have NB176_175 := Aside0.mk NB175_176.out.symm; replace BK175 := Aside0.mk (zbb BK175.out hb); clear hb hbox hg; have hnb9 := NB176_174.out; have hnc9 := NB174_176.out; have hnb10 := NB176_175.out; have hnc10 := NB175_176.out; obtain ⟨q11_0, q11_1, q11_2, q11_3, q11_4⟩ := zc5 BK176.out; obtain ⟨f11_0, f11_1, f11_2, f11_3, f11_4⟩ := zf5 BK176.out))
 (try simp only [Act.put, List.setIfInBounds_toArray, List.set_cons_zero, List.set_cons_succ])
 have H := HS3.out
 clear HS3
 obtain ⟨t177, A12, H⟩ := zbi H
 by_cases c13 : t177 = true
 ·subst c13
  rw [if_pos rfl] at H
  obtain ⟨t178, A14, H⟩ := zbi H
  by_cases c15 : t178 = true
  ·subst c15
   rw [if_pos rfl] at H
   obtain ⟨t179, A16, H⟩ := zbi H
   obtain rfl := Option.some.inj H
   have hnb17 := NB176_174.out
   have hnc17 := NB174_176.out
   have hnb18 := NB176_175.out
   have hnc18 := NB175_176.out
   obtain ⟨q19_0, q19_1, q19_2, q19_3, q19_4⟩ := zc5 BK176.out
   obtain ⟨f19_0, f19_1, f19_2, f19_3, f19_4⟩ := zf5 BK176.out
   go_wp2_with (first | ((with_reducible refine gate_callee (f := 155) rfl ?_); refine goesL_ (some 10) rfl rfl Tryz.func155 (by kernel_rfl) rfl #[.int .i64 a1_1, .int .i64 1, .int .i64 999999] rfl z11_0_ ?_; (with_reducible refine (impl_in.calls a1_1 1 999999 true _ A12.out).mono ?_); rintro e w' ⟨rfl, ⟨nd, rfl⟩⟩; refine ⟨_, rfl, ?_⟩) | (go_at_call 155; (with_reducible refine (impl_in.calls a1_2 0 20000000 true _ A14.out).mono ?_); rintro e w' ⟨rfl, ⟨nd, rfl⟩⟩) | (go_at_call 156; (with_reducible refine (impl_right.calls k (⟨#[111, 117, 116, 46, 101, 120, 97, 109, 112, 108, 101]⟩ : ByteArray) a1_3 _ _ l1_4 a1_5 t179 _ ?side1 ?side2 ?side3 A16.out).mono ?_); (case side1 => exact GlM.below hGM z11_1_); (case side2 => exact Kd.C_below HR1_4.out z11_1_); (case side3 => exact HC1_4.out); rintro e w20 ⟨rfl, hb⟩; replace BK174 := Aside0.mk (blk_below (g := gb174) (o := .cells #[] 111 (0, 0)) (by (with_reducible repeat (first | refine blk_drewN ?_ _ | refine blk_drew ?_ | refine blk_alloc ?_ _)); (iterate 5 (refine blk_far ?_ NB174_176.out _; (with_reducible repeat (first | refine blk_drewN ?_ _ | refine blk_drew ?_ | refine blk_alloc ?_ _)))); exact BK174.out) hb); replace BK175 := Aside0.mk (blk_below (g := gb175) (o := .cells #[.int .i64 a1_0, .int .i64 a1_1, .int .i64 a1_2, .string a1_3, .slice A1_4 l1_4.length c1_4, .string a1_5, .int .i64 a1_6, .int .i64 a1_7, .int .i64 a1_8, .int .i64 a1_9, .string a1_10, .int .i64 a1_11, .int .i64 a1_12] 28 (0, 0)) (by (with_reducible repeat (first | refine blk_drewN ?_ _ | refine blk_drew ?_ | refine blk_alloc ?_ _)); (iterate 5 (refine blk_far ?_ NB175_176.out _; (with_reducible repeat (first | refine blk_drewN ?_ _ | refine blk_drew ?_ | refine blk_alloc ?_ _)))); exact BK175.out) hb); replace BK176 := Aside0.mk (blk_below (g := gb176) (o := .cells #[.int .i64 a1_1, .int .i64 a1_2, .string a1_3, .slice A1_4 l1_4.length c1_4, .string a1_5] 24 (0, 0)) (by (with_reducible repeat (first | refine blk_drewN ?_ _ | refine blk_drew ?_ | refine blk_alloc ?_ _)); apply zp5; (with_reducible repeat (first | refine blk_drewN ?_ _ | refine blk_drew ?_ | refine blk_alloc ?_ _)); exact BK176.out) hb); replace HB := Aside0.mk (below_step z11_1_ hb); clear hb))
   go_ret
   exact ⟨z11_2_, z11_1_⟩
  ·replace c15 := Bool.eq_false_iff.mpr c15
   subst c15
   rw [if_neg (show ¬ (false = true) by decide)] at H
   obtain rfl := Option.some.inj H
   have hnb21 := NB176_174.out
   have hnc21 := NB174_176.out
   have hnb22 := NB176_175.out
   have hnc22 := NB175_176.out
   obtain ⟨q23_0, q23_1, q23_2, q23_3, q23_4⟩ := zc5 BK176.out
   obtain ⟨f23_0, f23_1, f23_2, f23_3, f23_4⟩ := zf5 BK176.out
   go_wp2_with (first | ((with_reducible refine gate_callee (f := 155) rfl ?_); refine goesL_ (some 10) rfl rfl Tryz.func155 (by kernel_rfl) rfl #[.int .i64 a1_1, .int .i64 1, .int .i64 999999] rfl z11_0_ ?_; (with_reducible refine (impl_in.calls a1_1 1 999999 true _ A12.out).mono ?_); rintro e w' ⟨rfl, ⟨nd, rfl⟩⟩; refine ⟨_, rfl, ?_⟩) | (go_at_call 155; (with_reducible refine (impl_in.calls a1_2 0 20000000 false _ A14.out).mono ?_); rintro e w' ⟨rfl, ⟨nd, rfl⟩⟩))
   go_ret
   exact ⟨z11_2_, z11_1_⟩
 ·replace c13 := Bool.eq_false_iff.mpr c13
  subst c13
  rw [if_neg (show ¬ (false = true) by decide)] at H
  obtain rfl := Option.some.inj H
  have hnb24 := NB176_174.out
  have hnc24 := NB174_176.out
  have hnb25 := NB176_175.out
  have hnc25 := NB175_176.out
  obtain ⟨q26_0, q26_1, q26_2, q26_3, q26_4⟩ := zc5 BK176.out
  obtain ⟨f26_0, f26_1, f26_2, f26_3, f26_4⟩ := zf5 BK176.out
  go_wp2_with (first | ((with_reducible refine gate_callee (f := 155) rfl ?_); refine goesL_ (some 10) rfl rfl Tryz.func155 (by kernel_rfl) rfl #[.int .i64 a1_1, .int .i64 1, .int .i64 999999] rfl z11_0_ ?_; (with_reducible refine (impl_in.calls a1_1 1 999999 false _ A12.out).mono ?_); rintro e w' ⟨rfl, ⟨nd, rfl⟩⟩; refine ⟨_, rfl, ?_⟩))
  go_ret
  exact ⟨z11_2_, z11_1_⟩
/-! ### impl_verdictKind_only: function 193 -/
def impl_verdictKind_only.f  (a1_0 : Int) (a1_1 : Int) (a1_2 : Int) (a1_3 : ByteArray) (l1_4 : List ByteArray) (a1_5 : ByteArray) (a1_6 : Int) (a1_7 : Int) (a1_8 : Int) (a1_9 : Int) (a1_10 : ByteArray) (a1_11 : Int) (a1_12 : Int) : Option (Int × Int × Int × ByteArray × List ByteArray × ByteArray × Int × Int × Int × Int × ByteArray × Int × Int) := some (a1_0, 0, 0, (⟨#[]⟩ : ByteArray), ([] : List ByteArray), (⟨#[]⟩ : ByteArray), a1_6, a1_7, a1_8, a1_9, a1_10, 0, 0)
set_option maxHeartbeats 8000000 in
set_option maxRecDepth 100000 in
theorem impl_verdictKind_only.calls  (a1_0 : Int) (a1_1 : Int) (a1_2 : Int) (a1_3 : ByteArray) (A1_4 : Option Addr) (c1_4 : Nat) (l1_4 : List ByteArray) (a1_5 : ByteArray) (a1_6 : Int) (a1_7 : Int) (a1_8 : Int) (a1_9 : Int) (a1_10 : ByteArray) (a1_11 : Int) (a1_12 : Int) (r1 : Int) (r2 : Int) (r3 : Int) (r4 : ByteArray) (r5 : List ByteArray) (r6 : ByteArray) (r7 : Int) (r8 : Int) (r9 : Int) (r10 : Int) (r11 : ByteArray) (r12 : Int) (r13 : Int) (w : World) (hr1_4 : Kd.C Kd.string w A1_4 l1_4.length l1_4) (hc1_4 : l1_4.length ≤ c1_4) (h : impl_verdictKind_only.f a1_0 a1_1 a1_2 a1_3 l1_4 a1_5 a1_6 a1_7 a1_8 a1_9 a1_10 a1_11 a1_12 = some (r1, r2, r3, r4, r5, r6, r7, r8, r9, r10, r11, r12, r13)) :
  Calls Tryz.prog 193 #[.agg #[], .agg #[.int .i64 a1_0, .int .i64 a1_1, .int .i64 a1_2, .string a1_3, .slice A1_4 l1_4.length c1_4, .string a1_5, .int .i64 a1_6, .int .i64 a1_7, .int .i64 a1_8, .int .i64 a1_9, .string a1_10, .int .i64 a1_11, .int .i64 a1_12]] w fun e w' => ∃ v4_ : Value, e = .returned (.agg #[.int .i64 r1, .int .i64 r2, .int .i64 r3, .string r4, v4_, .string r6, .int .i64 r7, .int .i64 r8, .int .i64 r9, .int .i64 r10, .string r11, .int .i64 r12, .int .i64 r13]) ∧ Kd.R Kd.string 9 w' w.heap.size (fun _ => True) v4_ r5 ∧ Below w.heap.size w w' := by
 have hu112 := Tryz.underlying112
 have hu28 := Tryz.underlying28
 have hu26 := Tryz.underlying26
 have HR1_4 := Aside0.mk hr1_4
 have HC1_4 := Aside0.mk hc1_4
 clear hr1_4 hc1_4
 have HB := Aside0.mk (Below.refl w.heap.size w)
 have H : (some (a1_0, 0, 0, (⟨#[]⟩ : ByteArray), ([] : List ByteArray), (⟨#[]⟩ : ByteArray), a1_6, a1_7, a1_8, a1_9, a1_10, 0, 0)) = some (r1, r2, r3, r4, r5, r6, r7, r8, r9, r10, r11, r12, r13) := h
 clear h
 simp only [Option.some.injEq, Prod.mk.injEq] at H
 obtain ⟨rfl, rfl, rfl, rfl, rfl, rfl, rfl, rfl, rfl, rfl, rfl, rfl, rfl⟩ := H
 go_enter Tryz.func193, Tryz.ntmps193
 go_wp2_with (first | ((with_reducible refine gate_dst (N := 2) rfl ?_); refine box_event (by rfl) (N := 2) (by rfl) (cs := #[]) (t := 112) (by first | (go_simp; done) | (go_simp; rfl)) ?_; intro gb180 hg w3 hbox hb; have BK180 := Aside0.mk (hbox); have GW180 := Aside0.mk ((by rw [hg]; exact (below_size (bq_)) : w.heap.size ≤ gb180)); have GE180 := GW180; replace HB := Aside0.mk (below_step (bq_) hb); clear hb hbox hg) | ((with_reducible refine gate_dst (N := 3) rfl ?_); refine box_event (by rfl) (N := 3) (by rfl) (cs := #[.int .i64 a1_0, .int .i64 a1_1, .int .i64 a1_2, .string a1_3, .slice A1_4 l1_4.length c1_4, .string a1_5, .int .i64 a1_6, .int .i64 a1_7, .int .i64 a1_8, .int .i64 a1_9, .string a1_10, .int .i64 a1_11, .int .i64 a1_12]) (t := 28) (by first | (go_simp; done) | (go_simp; rfl)) ?_; intro gb181 hg w4 hbox hb; have BK181 := Aside0.mk (hbox); have GW181 := Aside0.mk ((by rw [hg]; exact (below_size (by repeat (first | (with_reducible first | exact HB.out | apply below_alloc | apply pw_below_drewN | apply below_drew1 | refine below_set ?_ GE180.out) | exact HB.out))) : w.heap.size ≤ gb181)); have GE181 := GW181; replace HB := Aside0.mk (below_step (by repeat (first | (with_reducible first | exact HB.out | apply below_alloc | apply pw_below_drewN | apply below_drew1 | refine below_set ?_ GE180.out) | exact HB.out)) hb); have NB180_181 := Aside0.mk ((by rw [hg]; exact Nat.ne_of_lt (blk_lt (g := gb180) (o := .cells #[] 112 (0, 0)) (by (with_reducible repeat (first | refine blk_drewN ?_ _ | refine blk_drew ?_ | refine blk_alloc ?_ _)); exact BK180.out)) : gb180 ≠ gb181)); have NB181_180 := Aside0.mk NB180_181.out.symm; replace BK180 := Aside0.mk (zbb BK180.out hb); clear hb hbox hg) | ((with_reducible refine gate_dst (N := 4) rfl ?_); refine box_event (by rfl) (N := 4) (by rfl) (cs := #[.int .i64 0, .int .i64 0, .int .i64 0, .string (⟨#[]⟩ : ByteArray), .slice none 0 0, .string (⟨#[]⟩ : ByteArray), .int .i64 0, .int .i64 0, .int .i64 0, .int .i64 0, .string (⟨#[]⟩ : ByteArray), .int .i64 0, .int .i64 0]) (t := 28) (by first | (go_simp; done) | (go_simp; rfl)) ?_; intro gb182 hg w5 hbox hb; have BK182 := Aside0.mk (hbox); have GW182 := Aside0.mk ((by rw [hg]; exact (below_size (by repeat (first | (with_reducible first | exact HB.out | apply below_alloc | apply pw_below_drewN | apply below_drew1 | refine below_set ?_ GE180.out | refine below_set ?_ GE181.out) | exact HB.out))) : w.heap.size ≤ gb182)); have GE182 := GW182; replace HB := Aside0.mk (below_step (by repeat (first | (with_reducible first | exact HB.out | apply below_alloc | apply pw_below_drewN | apply below_drew1 | refine below_set ?_ GE180.out | refine below_set ?_ GE181.out) | exact HB.out)) hb); have NB180_182 := Aside0.mk ((by rw [hg]; exact Nat.ne_of_lt (blk_lt (g := gb180) (o := .cells #[] 112 (0, 0)) (by (with_reducible repeat (first | refine blk_drewN ?_ _ | refine blk_drew ?_ | refine blk_alloc ?_ _)); exact BK180.out)) : gb180 ≠ gb182)); have NB182_180 := Aside0.mk NB180_182.out.symm; replace BK180 := Aside0.mk (zbb BK180.out hb); have NB181_182 := Aside0.mk ((by rw [hg]; exact Nat.ne_of_lt (blk_lt (g := gb181) (o := .cells #[.int .i64 a1_0, .int .i64 a1_1, .int .i64 a1_2, .string a1_3, .slice A1_4 l1_4.length c1_4, .string a1_5, .int .i64 a1_6, .int .i64 a1_7, .int .i64 a1_8, .int .i64 a1_9, .string a1_10, .int .i64 a1_11, .int .i64 a1_12] 28 (0, 0)) (by (with_reducible repeat (first | refine blk_drewN ?_ _ | refine blk_drew ?_ | refine blk_alloc ?_ _)); exact BK181.out)) : gb181 ≠ gb182)); have NB182_181 := Aside0.mk NB181_182.out.symm; replace BK181 := Aside0.mk (zbb BK181.out hb); clear hb hbox hg; have hnb6 := NB181_180.out; have hnc6 := NB180_181.out; have hnb7 := NB181_182.out; have hnc7 := NB182_181.out; obtain ⟨q8_0, q8_1, q8_2, q8_3, q8_4, q8_5, q8_6, q8_7, q8_8, q8_9, q8_10, q8_11, q8_12⟩ := zc13 BK181.out; obtain ⟨f8_0, f8_1, f8_2, f8_3, f8_4, f8_5, f8_6, f8_7, f8_8, f8_9, f8_10, f8_11, f8_12⟩ := zf13 BK181.out; have hnb9 := NB182_180.out; have hnc9 := NB180_182.out; obtain ⟨q10_0, q10_1, q10_2, q10_3, q10_4, q10_5, q10_6, q10_7, q10_8, q10_9, q10_10, q10_11, q10_12⟩ := zc13 BK182.out; obtain ⟨f10_0, f10_1, f10_2, f10_3, f10_4, f10_5, f10_6, f10_7, f10_8, f10_9, f10_10, f10_11, f10_12⟩ := zf13 BK182.out))
 refine bodyPost_ret (results_cell_row rfl _ _ gb182 28 #[.int .i64 a1_0, .int .i64 0, .int .i64 0, .string (⟨#[]⟩ : ByteArray), .slice none 0 0, .string (⟨#[]⟩ : ByteArray), .int .i64 a1_6, .int .i64 a1_7, .int .i64 a1_8, .int .i64 a1_9, .string a1_10, .int .i64 0, .int .i64 0] (0, 0) _ rfl (by (with_reducible repeat (first | refine blk_drewN ?_ _ | refine blk_drew ?_ | refine blk_alloc ?_ _)); apply zp13; (with_reducible repeat (first | refine blk_drewN ?_ _ | refine blk_drew ?_ | refine blk_alloc ?_ _)); exact BK182.out) Tryz.underlying28 rfl (by kernel_rfl)) rfl ?_
 exact ⟨_, z11_2_, (by first | exact Kd.R_nil _ _ _ _ _ | exact Kd.N_nil _ _ _ _ _ | exact Kd.V_nil _ _ _ _ _ | exact Kd.Q_nil _ _ _ _ _ | exact Kd.S_nil _ _ _ _ _), (by repeat (first | (with_reducible first | exact HB.out | apply below_alloc | apply pw_below_drewN | apply below_drew1 | refine below_set ?_ GE180.out | refine below_set ?_ GE181.out | refine below_set ?_ GE182.out) | exact HB.out))⟩
end Go.Proofs.YtnlembpmcbnpnaaGreatDoor.X
namespace Go.Proofs.YtnlembpmcbnpnaaGreatDoor.X
open Go.RowKit Go.Proofs.YtnlembpmcbnpnaaGreatDoorW.PrintWords Go.Proofs.YtnlembpmcbnpnaaGreatDoorW.PrintLast Go.Proofs.YtnlembpmcbnpnaaGreatDoorW.PrintMore
set_option linter.unusedVariables false
set_option linter.unusedSimpArgs false
theorem z12_0_ {P : Prop} (h : P := by repeat (first | (with_reducible first | exact HB.out | apply below_alloc | apply pw_below_drewN | apply below_drew1 | refine below_set ?_ GE183.out | refine below_set ?_ GE184.out) | exact HB.out)) : P := h
theorem z12_1_ {P : Prop} (h : P := by (try simp only [List.map_toArray, List.map_cons, List.map_nil]); first | done | rfl | (simp only [List.length_drop, List.length_take]; rfl)) : P := h
theorem z12_2_ {P : Prop} (h : P := by repeat (first | (with_reducible first | exact HB.out | apply below_alloc | apply pw_below_drewN | apply below_drew1 | refine below_set ?_ GE203.out | refine below_set ?_ GE204.out) | exact HB.out)) : P := h
theorem z12_3_ {P : Prop} (h : P := by repeat (first | (with_reducible first | exact HB.out | apply below_alloc | apply pw_below_drewN | apply below_drew1 | refine below_set ?_ GE194.out | refine below_set ?_ GE195.out) | exact HB.out)) : P := h
theorem z12_4_ {P : Prop} (h : P := by first | rfl | (simp [errW_none, errW_some] <;> rfl) | (simp [*, errW_none, errW_some] <;> rfl)) : P := h
/-! ### impl_verdictKind_pack: function 194 -/
def impl_verdictKind_pack.f  (a1_0 : Int) (a1_1 : Int) (a1_2 : Int) (a1_3 : ByteArray) (l1_4 : List ByteArray) (a1_5 : ByteArray) (a1_6 : Int) (a1_7 : Int) (a1_8 : Int) (a1_9 : Int) (a1_10 : ByteArray) (a1_11 : Int) (a1_12 : Int) : Option (ByteArray) := (impl_num.f a1_6).bind fun t185 => ((impl_num.f a1_7).bind fun t186 => ((impl_num.f a1_8).bind fun t187 => ((impl_num.f a1_9).bind fun t188 => ((impl_str.f a1_10).bind fun t189 => ((strings_Join.f (([(⟨#[86]⟩ : ByteArray), t185, t186, t187, t188, t189] : List ByteArray)) (⟨#[32]⟩ : ByteArray)).bind fun t193 => (some t193))))))
def impl_verdictKind_pack.T1 : Bool × List (List Nat × List Nat) := (true, [([], []), ([0], [0]), ([1], [1]), ([], []), ([3], [3]), ([4, 2], [4]), ([], []), ([6], [6]), ([7], [7]), ([8, 5], [8]), ([], []), ([10], [10]), ([11], [11]), ([12, 9], [12]), ([], []), ([14], [14]), ([15], [15]), ([16, 13], [16]), ([2, 5, 9, 13, 17], [2, 5, 9, 13, 17]), ([18, 17], [18]), ([19, 19, 0, 1, 2, 3, 4, 5, 6, 7, 8, 9, 10, 11, 12, 13, 14, 15, 16, 17, 18, 19], [19])])
def impl_verdictKind_pack.B1 : List Nat := [0, 1, 3, 0, 8, 31, 0, 64, 192, 511, 0, 1024, 3072, 8191, 0, 16384, 49152, 131071, 262143, 524287, 1048575]
theorem impl_verdictKind_pack.tab1 : rtab .any (opsOf Tryz.f194 1) = impl_verdictKind_pack.T1 := by kernel_rfl
theorem impl_verdictKind_pack.bits1 : waitsOk impl_verdictKind_pack.T1.2 impl_verdictKind_pack.B1 = true := by kernel_rfl
set_option maxHeartbeats 8000000 in
set_option maxRecDepth 100000 in
theorem impl_verdictKind_pack.calls  (a1_0 : Int) (a1_1 : Int) (a1_2 : Int) (a1_3 : ByteArray) (A1_4 : Option Addr) (c1_4 : Nat) (l1_4 : List ByteArray) (a1_5 : ByteArray) (a1_6 : Int) (a1_7 : Int) (a1_8 : Int) (a1_9 : Int) (a1_10 : ByteArray) (a1_11 : Int) (a1_12 : Int) (r : ByteArray) (w : World) (hGI : GlI w) (hr1_4 : Kd.C Kd.string w A1_4 l1_4.length l1_4) (hc1_4 : l1_4.length ≤ c1_4) (h : impl_verdictKind_pack.f a1_0 a1_1 a1_2 a1_3 l1_4 a1_5 a1_6 a1_7 a1_8 a1_9 a1_10 a1_11 a1_12 = some r) :
  Calls Tryz.prog 194 #[.agg #[], .agg #[.int .i64 a1_0, .int .i64 a1_1, .int .i64 a1_2, .string a1_3, .slice A1_4 l1_4.length c1_4, .string a1_5, .int .i64 a1_6, .int .i64 a1_7, .int .i64 a1_8, .int .i64 a1_9, .string a1_10, .int .i64 a1_11, .int .i64 a1_12]] w fun e w' => e = .returned (.string r) ∧ Below w.heap.size w w' := by
 have hu112 := Tryz.underlying112
 have hu28 := Tryz.underlying28
 have HR1_4 := Aside0.mk hr1_4
 have HC1_4 := Aside0.mk hc1_4
 clear hr1_4 hc1_4
 have HB := Aside0.mk (Below.refl w.heap.size w)
 have H : ((impl_num.f a1_6).bind fun t185 => ((impl_num.f a1_7).bind fun t186 => ((impl_num.f a1_8).bind fun t187 => ((impl_num.f a1_9).bind fun t188 => ((impl_str.f a1_10).bind fun t189 => ((strings_Join.f (([(⟨#[86]⟩ : ByteArray), t185, t186, t187, t188, t189] : List ByteArray)) (⟨#[32]⟩ : ByteArray)).bind fun t193 => (some t193))))))) = some r := h
 clear h
 obtain ⟨t185, A3, H⟩ := zbi H
 obtain ⟨t186, A4, H⟩ := zbi H
 obtain ⟨t187, A5, H⟩ := zbi H
 obtain ⟨t188, A6, H⟩ := zbi H
 obtain ⟨t189, A7, H⟩ := zbi H
 obtain ⟨y190, hy190⟩ : ∃ y_ : List ByteArray, y_ = (([(⟨#[86]⟩ : ByteArray), t185, t186, t187, t188, t189] : List ByteArray)) := ⟨_, rfl⟩
 replace H : ((strings_Join.f y190 (⟨#[32]⟩ : ByteArray)).bind fun t193 => (some t193)) = some r := by first | (rw [hy190]; with_reducible exact H) | (have H2_ := (Option.bind_some _ _).symm.trans H; rw [hy190]; with_reducible exact H2_) | (have H2_ := (Option.bind_some _ _).symm.trans H; with_reducible exact H2_) | with_reducible exact H | (rw [hy190]; exact H) | exact H
 have Ny190 := Aside0.mk hy190
 clear hy190
 obtain ⟨t193, A8, H⟩ := zbi H
 obtain rfl := Option.some.inj H
 go_enter Tryz.func194, Tryz.ntmps194
 try go_wp2_with (first | ((with_reducible refine gate_dst (N := 2) rfl ?_); refine box_event (by rfl) (N := 2) (by rfl) (cs := #[]) (t := 112) (by first | (go_simp; done) | (go_simp; rfl)) ?_; intro gb183 hg w9 hbox hb; have BK183 := Aside0.mk (hbox); have GW183 := Aside0.mk ((by rw [hg]; exact (below_size (bq_)) : w.heap.size ≤ gb183)); have GE183 := GW183; replace HB := Aside0.mk (below_step (bq_) hb); clear hb hbox hg) | ((with_reducible refine gate_dst (N := 3) rfl ?_); refine box_event (by rfl) (N := 3) (by rfl) (cs := #[.int .i64 a1_0, .int .i64 a1_1, .int .i64 a1_2, .string a1_3, .slice A1_4 l1_4.length c1_4, .string a1_5, .int .i64 a1_6, .int .i64 a1_7, .int .i64 a1_8, .int .i64 a1_9, .string a1_10, .int .i64 a1_11, .int .i64 a1_12]) (t := 28) (by first | (go_simp; done) | (go_simp; rfl)) ?_; intro gb184 hg w10 hbox hb; have BK184 := Aside0.mk (hbox); have GW184 := Aside0.mk ((by rw [hg]; exact (below_size (by repeat (first | (with_reducible first | exact HB.out | apply below_alloc | apply pw_below_drewN | apply below_drew1 | refine below_set ?_ GE183.out) | exact HB.out))) : w.heap.size ≤ gb184)); have GE184 := GW184; replace HB := Aside0.mk (below_step (by repeat (first | (with_reducible first | exact HB.out | apply below_alloc | apply pw_below_drewN | apply below_drew1 | refine below_set ?_ GE183.out) | exact HB.out)) hb); have NB183_184 := Aside0.mk ((by rw [hg]; exact Nat.ne_of_lt (blk_lt (g := gb183) (o := .cells #[] 112 (0, 0)) (by (with_reducible repeat (first | refine blk_drewN ?_ _ | refine blk_drew ?_ | refine blk_alloc ?_ _)); exact BK183.out)) : gb183 ≠ gb184)); have NB184_183 := Aside0.mk NB183_184.out.symm; replace BK183 := Aside0.mk (zbb BK183.out hb); clear hb hbox hg))
 replace BK183 := Aside0.mk (blk_drew BK183.out)
 replace BK184 := Aside0.mk (blk_drew BK184.out)
 replace HB := Aside0.mk (below_drew1 HB.out)
 refine start_ (n := 21) (S := fun w' => w'.cell? ⟨gb184, 0, none⟩ = some (.int .i64 a1_0) ∧ w'.cell? ⟨gb184, 1, none⟩ = some (.int .i64 a1_1) ∧ w'.cell? ⟨gb184, 2, none⟩ = some (.int .i64 a1_2) ∧ w'.cell? ⟨gb184, 3, none⟩ = some (.string a1_3) ∧ w'.cell? ⟨gb184, 4, none⟩ = some (.slice A1_4 l1_4.length c1_4) ∧ w'.cell? ⟨gb184, 5, none⟩ = some (.string a1_5) ∧ w'.cell? ⟨gb184, 6, none⟩ = some (.int .i64 a1_6) ∧ w'.cell? ⟨gb184, 7, none⟩ = some (.int .i64 a1_7) ∧ w'.cell? ⟨gb184, 8, none⟩ = some (.int .i64 a1_8) ∧ w'.cell? ⟨gb184, 9, none⟩ = some (.int .i64 a1_9) ∧ w'.cell? ⟨gb184, 10, none⟩ = some (.string a1_10) ∧ w'.cell? ⟨gb184, 11, none⟩ = some (.int .i64 a1_11) ∧ w'.cell? ⟨gb184, 12, none⟩ = some (.int .i64 a1_12)) (ds := []) (zfl 21 []) (by kernel_rfl) rfl rfl ⟨(blk_cell BK184.out 0).trans rfl, (blk_cell BK184.out 1).trans rfl, (blk_cell BK184.out 2).trans rfl, (blk_cell BK184.out 3).trans rfl, (blk_cell BK184.out 4).trans rfl, (blk_cell BK184.out 5).trans rfl, (blk_cell BK184.out 6).trans rfl, (blk_cell BK184.out 7).trans rfl, (blk_cell BK184.out 8).trans rfl, (blk_cell BK184.out 9).trans rfl, (blk_cell BK184.out 10).trans rfl, (blk_cell BK184.out 11).trans rfl, (blk_cell BK184.out 12).trans rfl⟩ (fun hHeld => ?_); refine with_tabW impl_verdictKind_pack.tab1 impl_verdictKind_pack.bits1 (fun HT_ HW_ => ?_)
 generalize w10.drew = w11 at BK183 BK184 HB hHeld ⊢
 refine zpu 0 5 (zfl 21 [0]) HT_ ?_
 refine zpu 3 8 (zfl 21 [0, 3]) HT_ ?_
 refine zpu 6 11 (zfl 21 [0, 3, 6]) HT_ ?_
 refine zpu 7 12 (zfl 21 [0, 3, 6, 7]) HT_ ?_
 refine zpu 10 15 (zfl 21 [0, 3, 6, 7, 10]) HT_ ?_
 refine zpu 11 16 (zfl 21 [0, 3, 6, 7, 10, 11]) HT_ ?_
 refine zpu 14 19 (zfl 21 [0, 3, 6, 7, 10, 11, 14]) HT_ ?_
 refine zpu 15 20 (zfl 21 [0, 3, 6, 7, 10, 11, 14, 15]) HT_ ?_
 refine ztk 1 6 (zfl 21 [0, 1, 3, 6, 7, 10, 11, 14, 15]) HT_ HW_ hHeld ?_
 refine ztk 4 9 (zfl 21 [0, 1, 3, 4, 6, 7, 10, 11, 14, 15]) HT_ HW_ hHeld ?_
 refine ztk 8 13 (zfl 21 [0, 1, 3, 4, 6, 7, 8, 10, 11, 14, 15]) HT_ HW_ hHeld ?_
 refine ztk 12 17 (zfl 21 [0, 1, 3, 4, 6, 7, 8, 10, 11, 12, 14, 15]) HT_ HW_ hHeld ?_
 refine ztk 16 21 (zfl 21 [0, 1, 3, 4, 6, 7, 8, 10, 11, 12, 14, 15, 16]) HT_ HW_ hHeld ?_
 refine zon 2 7 (zfl 21 [0, 1, 2, 3, 4, 6, 7, 8, 10, 11, 12, 14, 15, 16]) HT_ (fun K hK => ?_)
 refine goes_ Tryz.func152 (by kernel_rfl) rfl #[.int .i64 a1_6] (by rfl) rfl rfl z12_1_ ?_
 with_reducible refine (impl_num.calls a1_6 t185 _ ?side1 A3.out).mono ?_
 (case side1 => exact GlI.below hGI z12_0_)
 rintro e w12 ⟨rfl, hb⟩
 refine ⟨_, rfl, ?_⟩
 replace BK183 := Aside0.mk (zbb BK183.out hb)
 replace BK184 := Aside0.mk (zbb BK184.out hb)
 replace HB := Aside0.mk (below_step z12_0_ hb)
 (try clear hb)
 (try clear hb2)
 (try clear hk)
 (try clear hi)
 refine hK.out _ _ ⟨(blk_cell BK184.out 0).trans rfl, (blk_cell BK184.out 1).trans rfl, (blk_cell BK184.out 2).trans rfl, (blk_cell BK184.out 3).trans rfl, (blk_cell BK184.out 4).trans rfl, (blk_cell BK184.out 5).trans rfl, (blk_cell BK184.out 6).trans rfl, (blk_cell BK184.out 7).trans rfl, (blk_cell BK184.out 8).trans rfl, (blk_cell BK184.out 9).trans rfl, (blk_cell BK184.out 10).trans rfl, (blk_cell BK184.out 11).trans rfl, (blk_cell BK184.out 12).trans rfl⟩ (fun hHeld => ?_)
 clear hK K
 refine znm ?_
 refine zon 5 10 (zfl 21 [0, 1, 2, 3, 4, 5, 6, 7, 8, 10, 11, 12, 14, 15, 16]) HT_ (fun K hK => ?_)
 refine goes_ Tryz.func152 (by kernel_rfl) rfl #[.int .i64 a1_7] (by rfl) rfl rfl z12_1_ ?_
 with_reducible refine (impl_num.calls a1_7 t186 _ ?side1 A4.out).mono ?_
 (case side1 => exact GlI.below hGI z12_0_)
 rintro e w13 ⟨rfl, hb⟩
 refine ⟨_, rfl, ?_⟩
 replace BK183 := Aside0.mk (zbb BK183.out hb)
 replace BK184 := Aside0.mk (zbb BK184.out hb)
 replace HB := Aside0.mk (below_step z12_0_ hb)
 (try clear hb)
 (try clear hb2)
 (try clear hk)
 (try clear hi)
 refine hK.out _ _ ⟨(blk_cell BK184.out 0).trans rfl, (blk_cell BK184.out 1).trans rfl, (blk_cell BK184.out 2).trans rfl, (blk_cell BK184.out 3).trans rfl, (blk_cell BK184.out 4).trans rfl, (blk_cell BK184.out 5).trans rfl, (blk_cell BK184.out 6).trans rfl, (blk_cell BK184.out 7).trans rfl, (blk_cell BK184.out 8).trans rfl, (blk_cell BK184.out 9).trans rfl, (blk_cell BK184.out 10).trans rfl, (blk_cell BK184.out 11).trans rfl, (blk_cell BK184.out 12).trans rfl⟩ (fun hHeld => ?_)
 clear hK K
 refine znm ?_
 refine zon 9 14 (zfl 21 [0, 1, 2, 3, 4, 5, 6, 7, 8, 9, 10, 11, 12, 14, 15, 16]) HT_ (fun K hK => ?_)
 refine goes_ Tryz.func152 (by kernel_rfl) rfl #[.int .i64 a1_8] (by rfl) rfl rfl z12_1_ ?_
 with_reducible refine (impl_num.calls a1_8 t187 _ ?side1 A5.out).mono ?_
 (case side1 => exact GlI.below hGI z12_0_)
 rintro e w14 ⟨rfl, hb⟩
 refine ⟨_, rfl, ?_⟩
 replace BK183 := Aside0.mk (zbb BK183.out hb)
 replace BK184 := Aside0.mk (zbb BK184.out hb)
 replace HB := Aside0.mk (below_step z12_0_ hb)
 (try clear hb)
 (try clear hb2)
 (try clear hk)
 (try clear hi)
 refine hK.out _ _ ⟨(blk_cell BK184.out 0).trans rfl, (blk_cell BK184.out 1).trans rfl, (blk_cell BK184.out 2).trans rfl, (blk_cell BK184.out 3).trans rfl, (blk_cell BK184.out 4).trans rfl, (blk_cell BK184.out 5).trans rfl, (blk_cell BK184.out 6).trans rfl, (blk_cell BK184.out 7).trans rfl, (blk_cell BK184.out 8).trans rfl, (blk_cell BK184.out 9).trans rfl, (blk_cell BK184.out 10).trans rfl, (blk_cell BK184.out 11).trans rfl, (blk_cell BK184.out 12).trans rfl⟩ (fun hHeld => ?_)
 clear hK K
 refine znm ?_
 refine zon 13 18 (zfl 21 [0, 1, 2, 3, 4, 5, 6, 7, 8, 9, 10, 11, 12, 13, 14, 15, 16]) HT_ (fun K hK => ?_)
 refine goes_ Tryz.func152 (by kernel_rfl) rfl #[.int .i64 a1_9] (by rfl) rfl rfl z12_1_ ?_
 with_reducible refine (impl_num.calls a1_9 t188 _ ?side1 A6.out).mono ?_
 (case side1 => exact GlI.below hGI z12_0_)
 rintro e w15 ⟨rfl, hb⟩
 refine ⟨_, rfl, ?_⟩
 replace BK183 := Aside0.mk (zbb BK183.out hb)
 replace BK184 := Aside0.mk (zbb BK184.out hb)
 replace HB := Aside0.mk (below_step z12_0_ hb)
 (try clear hb)
 (try clear hb2)
 (try clear hk)
 (try clear hi)
 refine hK.out _ _ ⟨(blk_cell BK184.out 0).trans rfl, (blk_cell BK184.out 1).trans rfl, (blk_cell BK184.out 2).trans rfl, (blk_cell BK184.out 3).trans rfl, (blk_cell BK184.out 4).trans rfl, (blk_cell BK184.out 5).trans rfl, (blk_cell BK184.out 6).trans rfl, (blk_cell BK184.out 7).trans rfl, (blk_cell BK184.out 8).trans rfl, (blk_cell BK184.out 9).trans rfl, (blk_cell BK184.out 10).trans rfl, (blk_cell BK184.out 11).trans rfl, (blk_cell BK184.out 12).trans rfl⟩ (fun hHeld => ?_)
 clear hK K
 refine znm ?_
 refine zon 17 22 (zfl 21 [0, 1, 2, 3, 4, 5, 6, 7, 8, 9, 10, 11, 12, 13, 14, 15, 16, 17]) HT_ (fun K hK => ?_)
 refine goes_ Tryz.func153 (by kernel_rfl) rfl #[.string a1_10] (by rfl) rfl rfl z12_1_ ?_
 with_reducible refine (impl_str.calls a1_10 t189 _ ?side1 A7.out).mono ?_
 (case side1 => exact GlI.below hGI z12_0_)
 rintro e w16 ⟨rfl, hb⟩
 refine ⟨_, rfl, ?_⟩
 replace BK183 := Aside0.mk (zbb BK183.out hb)
 replace BK184 := Aside0.mk (zbb BK184.out hb)
 replace HB := Aside0.mk (below_step z12_0_ hb)
 (try clear hb)
 (try clear hb2)
 (try clear hk)
 (try clear hi)
 refine hK.out _ _ ⟨(blk_cell BK184.out 0).trans rfl, (blk_cell BK184.out 1).trans rfl, (blk_cell BK184.out 2).trans rfl, (blk_cell BK184.out 3).trans rfl, (blk_cell BK184.out 4).trans rfl, (blk_cell BK184.out 5).trans rfl, (blk_cell BK184.out 6).trans rfl, (blk_cell BK184.out 7).trans rfl, (blk_cell BK184.out 8).trans rfl, (blk_cell BK184.out 9).trans rfl, (blk_cell BK184.out 10).trans rfl, (blk_cell BK184.out 11).trans rfl, (blk_cell BK184.out 12).trans rfl⟩ (fun hHeld => ?_)
 clear hK K
 refine znm ?_
 refine zon 18 23 (zfl 21 [0, 1, 2, 3, 4, 5, 6, 7, 8, 9, 10, 11, 12, 13, 14, 15, 16, 17, 18]) HT_ (fun K hK => ?_)
 refine Kd.R_lit_step Kd.string _ 9 ?hg (N := 23) ?hd (xs := ([(⟨#[86]⟩ : ByteArray), t185, t186, t187, t188, t189] : List ByteArray)) (inner := [.string (⟨#[86]⟩ : ByteArray), .string t185, .string t186, .string t187, .string t188, .string t189]) (ok := fun _ => True) (okp := fun _ => True) ?hr ?hp (fun _ hk => hk) trivial (Below.refl _ _) (Nat.le_refl _) (by simp) ?_; (case hd => rfl); (case hg => rfl); (case hr => first | (go_simp; done) | (go_simp; rfl)); (case hp => exact (Reps.one (show Kd.M Kd.string _ _ _ (⟨#[86]⟩ : ByteArray) [.string (⟨#[86]⟩ : ByteArray)] from rfl) (Reps.one (show Kd.M Kd.string _ _ _ t185 [.string t185] from rfl) (Reps.one (show Kd.M Kd.string _ _ _ t186 [.string t186] from rfl) (Reps.one (show Kd.M Kd.string _ _ _ t187 [.string t187] from rfl) (Reps.one (show Kd.M Kd.string _ _ _ t188 [.string t188] from rfl) (Reps.one (show Kd.M Kd.string _ _ _ t189 [.string t189] from rfl) (Reps.none _ _))))))))
 intro v191 w17 ho18 hb hg_ hnew_
 clear hg_ hnew_
 (first | rw [← Ny190.out] at ho18 | (simp only [Int.reduceToNat] at ho18; rw [← Ny190.out] at ho18))
 have HO192 := Aside0.mk (Kd.R_lower ho18 (below_size z12_0_))
 replace BK183 := Aside0.mk (zbb BK183.out hb)
 replace BK184 := Aside0.mk (zbb BK184.out hb)
 replace HB := Aside0.mk (below_step z12_0_ hb)
 clear hb ho18
 obtain ⟨Ao19, co19, eo19⟩ := Kd.R_slice HO192.out
 (first | subst eo19 | (injection eo19 with f1_ f2_ f3_; have f4_ := f1_.symm; have f5_ := f3_.symm; clear f1_ f2_ f3_; subst f4_; subst f5_))
 refine hK.out _ _ ⟨(blk_cell BK184.out 0).trans rfl, (blk_cell BK184.out 1).trans rfl, (blk_cell BK184.out 2).trans rfl, (blk_cell BK184.out 3).trans rfl, (blk_cell BK184.out 4).trans rfl, (blk_cell BK184.out 5).trans rfl, (blk_cell BK184.out 6).trans rfl, (blk_cell BK184.out 7).trans rfl, (blk_cell BK184.out 8).trans rfl, (blk_cell BK184.out 9).trans rfl, (blk_cell BK184.out 10).trans rfl, (blk_cell BK184.out 11).trans rfl, (blk_cell BK184.out 12).trans rfl⟩ (fun hHeld => ?_)
 clear hK K
 refine znm ?_
 refine zon 19 24 (zfl 21 [0, 1, 2, 3, 4, 5, 6, 7, 8, 9, 10, 11, 12, 13, 14, 15, 16, 17, 18, 19]) HT_ (fun K hK => ?_)
 refine goes_ Tryz.func154 (by kernel_rfl) rfl #[.slice Ao19 y190.length co19, .string (⟨#[32]⟩ : ByteArray)] (by rfl) rfl rfl z12_1_ ?_
 with_reducible refine (strings_Join.calls _ _ y190 (⟨#[32]⟩ : ByteArray) t193 _ ?side1 ?side2 A8.out).mono ?_
 (case side1 => exact (by repeat (first | exact (Kd.R_reads' HO192.out).2.2 | (with_reducible refine Kd.C_alloc ?_ _) | (with_reducible refine Kd.C_drewN ?_ _) | (with_reducible refine Kd.C_drew ?_))))
 (case side2 => exact (Kd.R_reads' HO192.out).2.1)
 rintro e w20 ⟨rfl, hb⟩
 refine ⟨_, rfl, ?_⟩
 replace HO192 := Aside0.mk (Kd.R_below (by (with_reducible repeat (first | apply Kd.R_alloc | apply Kd.R_drewN | apply Kd.R_drew)); exact HO192.out) hb)
 replace BK183 := Aside0.mk (zbb BK183.out hb)
 replace BK184 := Aside0.mk (zbb BK184.out hb)
 replace HB := Aside0.mk (below_step z12_0_ hb)
 (try clear hb)
 (try clear hb2)
 (try clear hk)
 (try clear hi)
 refine hK.out _ _ ⟨(blk_cell BK184.out 0).trans rfl, (blk_cell BK184.out 1).trans rfl, (blk_cell BK184.out 2).trans rfl, (blk_cell BK184.out 3).trans rfl, (blk_cell BK184.out 4).trans rfl, (blk_cell BK184.out 5).trans rfl, (blk_cell BK184.out 6).trans rfl, (blk_cell BK184.out 7).trans rfl, (blk_cell BK184.out 8).trans rfl, (blk_cell BK184.out 9).trans rfl, (blk_cell BK184.out 10).trans rfl, (blk_cell BK184.out 11).trans rfl, (blk_cell BK184.out 12).trans rfl⟩ (fun hHeld => ?_)
 clear hK K
 refine znm ?_
 refine zpu 20 4 (zfl 21 [0, 1, 2, 3, 4, 5, 6, 7, 8, 9, 10, 11, 12, 13, 14, 15, 16, 17, 18, 19, 20]) HT_ ?_
 refine done_ (done_of HT_.out (by kernel_rfl)) ?_
 try go_wp2
 go_ret
 exact ⟨z12_4_, z12_0_⟩
/-! ### impl_codeOk: function 196 -/
def impl_codeOk.f (a0 : Int) : Option (Bool) := if a0 = 0 then (some true) else (if a0 ≥ 200 then (some (decide (a0 ≤ 599))) else (some false))
set_option maxHeartbeats 8000000 in
set_option maxRecDepth 100000 in
theorem impl_codeOk.calls (a0 : Int) (r : Bool) (w : World) (h : impl_codeOk.f a0 = some r) :
  Calls Tryz.prog 196 #[.int .i64 a0] w fun e w' => e = .returned (.bool r) ∧ Drawn0 w w' := by
 have H : (if a0 = 0 then (some true) else (if a0 ≥ 200 then (some (decide (a0 ≤ 599))) else (some false))) = some r := h
 clear h
 by_cases c2 : a0 = 0
 ·rw [if_pos c2] at H
  have c2b0 : (a0 == 0) = true := beq_iff_eq.mpr c2
  have c2b1 : (a0 != 0) = false := bne_eq_false_iff_eq.mpr c2
  clear c2
  obtain rfl := Option.some.inj H
  go_enter Tryz.func196, Tryz.ntmps196
  go_wp2
  go_ret
  exact ⟨(by first | rfl | (simp; done) | (simp [*]; done)), (by repeat (first | exact Drawn0.refl _ | apply Drawn0.step))⟩
 ·rw [if_neg c2] at H
  have c2b0 : (a0 == 0) = false := beq_eq_false_iff_ne.mpr c2
  have c2b1 : (a0 != 0) = true := bne_iff_ne.mpr c2
  by_cases c3 : a0 ≥ 200
  ·rw [if_pos c3] at H
   have c3b0 : decide (200 ≤ a0) = true := decide_eq_true c3
   clear c3
   obtain rfl := Option.some.inj H
   go_enter Tryz.func196, Tryz.ntmps196
   go_wp2
   go_ret
   exact ⟨(by first | rfl | (simp; done) | (simp [*]; done)), (by repeat (first | exact Drawn0.refl _ | apply Drawn0.step))⟩
  ·rw [if_neg c3] at H
   have c3b0 : decide (200 ≤ a0) = false := decide_eq_false c3
   clear c3
   obtain rfl := Option.some.inj H
   go_enter Tryz.func196, Tryz.ntmps196
   go_wp2
   go_ret
   exact ⟨(by first | rfl | (simp; done) | (simp [*]; done)), (by repeat (first | exact Drawn0.refl _ | apply Drawn0.step))⟩
/-! ### impl_verdictKind_right: function 195 -/
def impl_verdictKind_right.f  (a1_0 : Int) (a1_1 : Int) (a1_2 : Int) (a1_3 : ByteArray) (l1_4 : List ByteArray) (a1_5 : ByteArray) (a1_6 : Int) (a1_7 : Int) (a1_8 : Int) (a1_9 : Int) (a1_10 : ByteArray) (a1_11 : Int) (a1_12 : Int) : Option (Bool) := (impl_in.f a1_6 1 999999).bind fun t196 => (if t196 = true then ((impl_in.f a1_7 0 19).bind fun t197 => (if t197 = true then ((impl_in.f a1_8 1 4).bind fun t198 => (if t198 = true then ((impl_codeOk.f a1_9).bind fun t199 => (if t199 = true then (some (decide ((a1_10.size : Int) ≤ 512))) else (some false))) else (some false))) else (some false))) else (some false))
set_option maxHeartbeats 8000000 in
set_option maxRecDepth 100000 in
theorem impl_verdictKind_right.calls  (a1_0 : Int) (a1_1 : Int) (a1_2 : Int) (a1_3 : ByteArray) (A1_4 : Option Addr) (c1_4 : Nat) (l1_4 : List ByteArray) (a1_5 : ByteArray) (a1_6 : Int) (a1_7 : Int) (a1_8 : Int) (a1_9 : Int) (a1_10 : ByteArray) (a1_11 : Int) (a1_12 : Int) (r : Bool) (w : World) (hr1_4 : Kd.C Kd.string w A1_4 l1_4.length l1_4) (hc1_4 : l1_4.length ≤ c1_4) (h : impl_verdictKind_right.f a1_0 a1_1 a1_2 a1_3 l1_4 a1_5 a1_6 a1_7 a1_8 a1_9 a1_10 a1_11 a1_12 = some r) :
  Calls Tryz.prog 195 #[.agg #[], .agg #[.int .i64 a1_0, .int .i64 a1_1, .int .i64 a1_2, .string a1_3, .slice A1_4 l1_4.length c1_4, .string a1_5, .int .i64 a1_6, .int .i64 a1_7, .int .i64 a1_8, .int .i64 a1_9, .string a1_10, .int .i64 a1_11, .int .i64 a1_12]] w fun e w' => e = .returned (.bool r) ∧ Below w.heap.size w w' := by
 have hu112 := Tryz.underlying112
 have hu28 := Tryz.underlying28
 have HR1_4 := Aside0.mk hr1_4
 have HC1_4 := Aside0.mk hc1_4
 clear hr1_4 hc1_4
 have HB := Aside0.mk (Below.refl w.heap.size w)
 have H : ((impl_in.f a1_6 1 999999).bind fun t196 => (if t196 = true then ((impl_in.f a1_7 0 19).bind fun t197 => (if t197 = true then ((impl_in.f a1_8 1 4).bind fun t198 => (if t198 = true then ((impl_codeOk.f a1_9).bind fun t199 => (if t199 = true then (some (decide ((a1_10.size : Int) ≤ 512))) else (some false))) else (some false))) else (some false))) else (some false))) = some r := h
 clear h
 have HS3 := Aside0.mk H
 clear H
 go_enter Tryz.func195, Tryz.ntmps195
 go_upto_region 1 with (first | ((with_reducible refine gate_dst (N := 2) rfl ?_); (try (refine gate_guard (by rfl) ?_; dsimp only)); refine box_event (by rfl) (N := 2) (by rfl) (cs := #[]) (t := 112) (by first | (go_simp; done) | (go_simp; rfl)) ?_; intro gb194 hg w4 hbox hb; have BK194 := Aside0.mk (hbox); have GW194 := Aside0.mk ((by rw [hg]; exact (below_size (bq_)) : w.heap.size ≤ gb194)); have GE194 := GW194; replace HB := Aside0.mk (below_step (bq_) hb); clear hb hbox hg) | ((with_reducible refine gate_dst (N := 3) rfl ?_); (try (refine gate_guard (by rfl) ?_; dsimp only)); refine box_event (by rfl) (N := 3) (by rfl) (cs := #[.int .i64 a1_0, .int .i64 a1_1, .int .i64 a1_2, .string a1_3, .slice A1_4 l1_4.length c1_4, .string a1_5, .int .i64 a1_6, .int .i64 a1_7, .int .i64 a1_8, .int .i64 a1_9, .string a1_10, .int .i64 a1_11, .int .i64 a1_12]) (t := 28) (by first | (go_simp; done) | (go_simp; rfl)) ?_; intro gb195 hg w5 hbox hb; have BK195 := Aside0.mk (hbox); have GW195 := Aside0.mk ((by rw [hg]; exact (below_size (by repeat (first | (with_reducible first | exact HB.out | apply below_alloc | apply pw_below_drewN | apply below_drew1 | refine below_set ?_ GE194.out) | exact HB.out))) : w.heap.size ≤ gb195)); have GE195 := GW195; replace HB := Aside0.mk (below_step (by repeat (first | (with_reducible first | exact HB.out | apply below_alloc | apply pw_below_drewN | apply below_drew1 | refine below_set ?_ GE194.out) | exact HB.out)) hb); have NB194_195 := Aside0.mk ((by rw [hg]; exact Nat.ne_of_lt (blk_lt (g := gb194) (o := .cells #[] 112 (0, 0)) (by (with_reducible repeat (first | refine blk_drewN ?_ _ | refine blk_drew ?_ | refine blk_alloc ?_ _)); exact BK194.out)) : gb194 ≠ gb195)); have NB195_194 := Aside0.mk NB194_195.out.symm; replace BK194 := Aside0.mk (zbb BK194.out hb); clear hb hbox hg))
 (try simp only [Act.put, List.setIfInBounds_toArray, List.set_cons_zero, List.set_cons_succ])
 have H := HS3.out
 clear HS3
 obtain ⟨t196, A6, H⟩ := zbi H
 by_cases c7 : t196 = true
 ·subst c7
  rw [if_pos rfl] at H
  obtain ⟨t197, A8, H⟩ := zbi H
  by_cases c9 : t197 = true
  ·subst c9
   rw [if_pos rfl] at H
   obtain ⟨t198, A10, H⟩ := zbi H
   by_cases c11 : t198 = true
   ·subst c11
    rw [if_pos rfl] at H
    obtain ⟨t199, A12, H⟩ := zbi H
    by_cases c13 : t199 = true
    ·subst c13
     rw [if_pos rfl] at H
     obtain rfl := Option.some.inj H
     have hnb14 := NB195_194.out
     have hnc14 := NB194_195.out
     obtain ⟨q15_0, q15_1, q15_2, q15_3, q15_4, q15_5, q15_6, q15_7, q15_8, q15_9, q15_10, q15_11, q15_12⟩ := zc13 BK195.out
     obtain ⟨f15_0, f15_1, f15_2, f15_3, f15_4, f15_5, f15_6, f15_7, f15_8, f15_9, f15_10, f15_11, f15_12⟩ := zf13 BK195.out
     go_wp2_with (first | ((with_reducible refine gate_callee (f := 155) rfl ?_); refine goesL_ (some 7) rfl rfl Tryz.func155 (by kernel_rfl) rfl #[.int .i64 a1_6, .int .i64 1, .int .i64 999999] rfl z12_1_ ?_; (with_reducible refine (impl_in.calls a1_6 1 999999 true _ A6.out).mono ?_); rintro e w' ⟨rfl, ⟨nd, rfl⟩⟩; refine ⟨_, rfl, ?_⟩) | (go_at_call 155; (with_reducible refine (impl_in.calls a1_7 0 19 true _ A8.out).mono ?_); rintro e w' ⟨rfl, ⟨nd, rfl⟩⟩) | (go_at_call 155; (with_reducible refine (impl_in.calls a1_8 1 4 true _ A10.out).mono ?_); rintro e w' ⟨rfl, ⟨nd, rfl⟩⟩) | (go_at_call 196; (with_reducible refine (impl_codeOk.calls a1_9 true _ A12.out).mono ?_); rintro e w' ⟨rfl, ⟨nd, rfl⟩⟩))
     go_ret
     exact ⟨z12_4_, z12_3_⟩
    ·replace c13 := Bool.eq_false_iff.mpr c13
     subst c13
     rw [if_neg (show ¬ (false = true) by decide)] at H
     obtain rfl := Option.some.inj H
     have hnb16 := NB195_194.out
     have hnc16 := NB194_195.out
     obtain ⟨q17_0, q17_1, q17_2, q17_3, q17_4, q17_5, q17_6, q17_7, q17_8, q17_9, q17_10, q17_11, q17_12⟩ := zc13 BK195.out
     obtain ⟨f17_0, f17_1, f17_2, f17_3, f17_4, f17_5, f17_6, f17_7, f17_8, f17_9, f17_10, f17_11, f17_12⟩ := zf13 BK195.out
     go_wp2_with (first | ((with_reducible refine gate_callee (f := 155) rfl ?_); refine goesL_ (some 7) rfl rfl Tryz.func155 (by kernel_rfl) rfl #[.int .i64 a1_6, .int .i64 1, .int .i64 999999] rfl z12_1_ ?_; (with_reducible refine (impl_in.calls a1_6 1 999999 true _ A6.out).mono ?_); rintro e w' ⟨rfl, ⟨nd, rfl⟩⟩; refine ⟨_, rfl, ?_⟩) | (go_at_call 155; (with_reducible refine (impl_in.calls a1_7 0 19 true _ A8.out).mono ?_); rintro e w' ⟨rfl, ⟨nd, rfl⟩⟩) | (go_at_call 155; (with_reducible refine (impl_in.calls a1_8 1 4 true _ A10.out).mono ?_); rintro e w' ⟨rfl, ⟨nd, rfl⟩⟩) | (go_at_call 196; (with_reducible refine (impl_codeOk.calls a1_9 false _ A12.out).mono ?_); rintro e w' ⟨rfl, ⟨nd, rfl⟩⟩))
     go_ret
     exact ⟨z12_4_, z12_3_⟩
   ·replace c11 := Bool.eq_false_iff.mpr c11
    subst c11
    rw [if_neg (show ¬ (false = true) by decide)] at H
    obtain rfl := Option.some.inj H
    have hnb18 := NB195_194.out
    have hnc18 := NB194_195.out
    obtain ⟨q19_0, q19_1, q19_2, q19_3, q19_4, q19_5, q19_6, q19_7, q19_8, q19_9, q19_10, q19_11, q19_12⟩ := zc13 BK195.out
    obtain ⟨f19_0, f19_1, f19_2, f19_3, f19_4, f19_5, f19_6, f19_7, f19_8, f19_9, f19_10, f19_11, f19_12⟩ := zf13 BK195.out
    go_wp2_with (first | ((with_reducible refine gate_callee (f := 155) rfl ?_); refine goesL_ (some 7) rfl rfl Tryz.func155 (by kernel_rfl) rfl #[.int .i64 a1_6, .int .i64 1, .int .i64 999999] rfl z12_1_ ?_; (with_reducible refine (impl_in.calls a1_6 1 999999 true _ A6.out).mono ?_); rintro e w' ⟨rfl, ⟨nd, rfl⟩⟩; refine ⟨_, rfl, ?_⟩) | (go_at_call 155; (with_reducible refine (impl_in.calls a1_7 0 19 true _ A8.out).mono ?_); rintro e w' ⟨rfl, ⟨nd, rfl⟩⟩) | (go_at_call 155; (with_reducible refine (impl_in.calls a1_8 1 4 false _ A10.out).mono ?_); rintro e w' ⟨rfl, ⟨nd, rfl⟩⟩))
    go_ret
    exact ⟨z12_4_, z12_3_⟩
  ·replace c9 := Bool.eq_false_iff.mpr c9
   subst c9
   rw [if_neg (show ¬ (false = true) by decide)] at H
   obtain rfl := Option.some.inj H
   have hnb20 := NB195_194.out
   have hnc20 := NB194_195.out
   obtain ⟨q21_0, q21_1, q21_2, q21_3, q21_4, q21_5, q21_6, q21_7, q21_8, q21_9, q21_10, q21_11, q21_12⟩ := zc13 BK195.out
   obtain ⟨f21_0, f21_1, f21_2, f21_3, f21_4, f21_5, f21_6, f21_7, f21_8, f21_9, f21_10, f21_11, f21_12⟩ := zf13 BK195.out
   go_wp2_with (first | ((with_reducible refine gate_callee (f := 155) rfl ?_); refine goesL_ (some 7) rfl rfl Tryz.func155 (by kernel_rfl) rfl #[.int .i64 a1_6, .int .i64 1, .int .i64 999999] rfl z12_1_ ?_; (with_reducible refine (impl_in.calls a1_6 1 999999 true _ A6.out).mono ?_); rintro e w' ⟨rfl, ⟨nd, rfl⟩⟩; refine ⟨_, rfl, ?_⟩) | (go_at_call 155; (with_reducible refine (impl_in.calls a1_7 0 19 false _ A8.out).mono ?_); rintro e w' ⟨rfl, ⟨nd, rfl⟩⟩))
   go_ret
   exact ⟨z12_4_, z12_3_⟩
 ·replace c7 := Bool.eq_false_iff.mpr c7
  subst c7
  rw [if_neg (show ¬ (false = true) by decide)] at H
  obtain rfl := Option.some.inj H
  have hnb22 := NB195_194.out
  have hnc22 := NB194_195.out
  obtain ⟨q23_0, q23_1, q23_2, q23_3, q23_4, q23_5, q23_6, q23_7, q23_8, q23_9, q23_10, q23_11, q23_12⟩ := zc13 BK195.out
  obtain ⟨f23_0, f23_1, f23_2, f23_3, f23_4, f23_5, f23_6, f23_7, f23_8, f23_9, f23_10, f23_11, f23_12⟩ := zf13 BK195.out
  go_wp2_with (first | ((with_reducible refine gate_callee (f := 155) rfl ?_); refine goesL_ (some 7) rfl rfl Tryz.func155 (by kernel_rfl) rfl #[.int .i64 a1_6, .int .i64 1, .int .i64 999999] rfl z12_1_ ?_; (with_reducible refine (impl_in.calls a1_6 1 999999 false _ A6.out).mono ?_); rintro e w' ⟨rfl, ⟨nd, rfl⟩⟩; refine ⟨_, rfl, ?_⟩))
  go_ret
  exact ⟨z12_4_, z12_3_⟩
/-! ### impl_tryKind_only: function 197 -/
def impl_tryKind_only.f  (a1_0 : Int) (a1_1 : Int) (a1_2 : Int) (a1_3 : ByteArray) (l1_4 : List ByteArray) (a1_5 : ByteArray) (a1_6 : Int) (a1_7 : Int) (a1_8 : Int) (a1_9 : Int) (a1_10 : ByteArray) (a1_11 : Int) (a1_12 : Int) : Option (Int × Int × Int × ByteArray × List ByteArray × ByteArray × Int × Int × Int × Int × ByteArray × Int × Int) := some (a1_0, 0, 0, (⟨#[]⟩ : ByteArray), ([] : List ByteArray), (⟨#[]⟩ : ByteArray), a1_6, 0, 0, 0, (⟨#[]⟩ : ByteArray), a1_11, a1_12)
set_option maxHeartbeats 8000000 in
set_option maxRecDepth 100000 in
theorem impl_tryKind_only.calls  (a1_0 : Int) (a1_1 : Int) (a1_2 : Int) (a1_3 : ByteArray) (A1_4 : Option Addr) (c1_4 : Nat) (l1_4 : List ByteArray) (a1_5 : ByteArray) (a1_6 : Int) (a1_7 : Int) (a1_8 : Int) (a1_9 : Int) (a1_10 : ByteArray) (a1_11 : Int) (a1_12 : Int) (r1 : Int) (r2 : Int) (r3 : Int) (r4 : ByteArray) (r5 : List ByteArray) (r6 : ByteArray) (r7 : Int) (r8 : Int) (r9 : Int) (r10 : Int) (r11 : ByteArray) (r12 : Int) (r13 : Int) (w : World) (hr1_4 : Kd.C Kd.string w A1_4 l1_4.length l1_4) (hc1_4 : l1_4.length ≤ c1_4) (h : impl_tryKind_only.f a1_0 a1_1 a1_2 a1_3 l1_4 a1_5 a1_6 a1_7 a1_8 a1_9 a1_10 a1_11 a1_12 = some (r1, r2, r3, r4, r5, r6, r7, r8, r9, r10, r11, r12, r13)) :
  Calls Tryz.prog 197 #[.agg #[], .agg #[.int .i64 a1_0, .int .i64 a1_1, .int .i64 a1_2, .string a1_3, .slice A1_4 l1_4.length c1_4, .string a1_5, .int .i64 a1_6, .int .i64 a1_7, .int .i64 a1_8, .int .i64 a1_9, .string a1_10, .int .i64 a1_11, .int .i64 a1_12]] w fun e w' => ∃ v4_ : Value, e = .returned (.agg #[.int .i64 r1, .int .i64 r2, .int .i64 r3, .string r4, v4_, .string r6, .int .i64 r7, .int .i64 r8, .int .i64 r9, .int .i64 r10, .string r11, .int .i64 r12, .int .i64 r13]) ∧ Kd.R Kd.string 9 w' w.heap.size (fun _ => True) v4_ r5 ∧ Below w.heap.size w w' := by
 have hu113 := Tryz.underlying113
 have hu28 := Tryz.underlying28
 have HR1_4 := Aside0.mk hr1_4
 have HC1_4 := Aside0.mk hc1_4
 clear hr1_4 hc1_4
 have HB := Aside0.mk (Below.refl w.heap.size w)
 have H : (some (a1_0, 0, 0, (⟨#[]⟩ : ByteArray), ([] : List ByteArray), (⟨#[]⟩ : ByteArray), a1_6, 0, 0, 0, (⟨#[]⟩ : ByteArray), a1_11, a1_12)) = some (r1, r2, r3, r4, r5, r6, r7, r8, r9, r10, r11, r12, r13) := h
 clear h
 simp only [Option.some.injEq, Prod.mk.injEq] at H
 obtain ⟨rfl, rfl, rfl, rfl, rfl, rfl, rfl, rfl, rfl, rfl, rfl, rfl, rfl⟩ := H
 go_enter Tryz.func197, Tryz.ntmps197
 go_wp2_with (first | ((with_reducible refine gate_dst (N := 2) rfl ?_); refine box_event (by rfl) (N := 2) (by rfl) (cs := #[]) (t := 113) (by first | (go_simp; done) | (go_simp; rfl)) ?_; intro gb200 hg w3 hbox hb; have BK200 := Aside0.mk (hbox); have GW200 := Aside0.mk ((by rw [hg]; exact (below_size (bq_)) : w.heap.size ≤ gb200)); have GE200 := GW200; replace HB := Aside0.mk (below_step (bq_) hb); clear hb hbox hg) | ((with_reducible refine gate_dst (N := 3) rfl ?_); refine box_event (by rfl) (N := 3) (by rfl) (cs := #[.int .i64 a1_0, .int .i64 a1_1, .int .i64 a1_2, .string a1_3, .slice A1_4 l1_4.length c1_4, .string a1_5, .int .i64 a1_6, .int .i64 a1_7, .int .i64 a1_8, .int .i64 a1_9, .string a1_10, .int .i64 a1_11, .int .i64 a1_12]) (t := 28) (by first | (go_simp; done) | (go_simp; rfl)) ?_; intro gb201 hg w4 hbox hb; have BK201 := Aside0.mk (hbox); have GW201 := Aside0.mk ((by rw [hg]; exact (below_size (by repeat (first | (with_reducible first | exact HB.out | apply below_alloc | apply pw_below_drewN | apply below_drew1 | refine below_set ?_ GE200.out) | exact HB.out))) : w.heap.size ≤ gb201)); have GE201 := GW201; replace HB := Aside0.mk (below_step (by repeat (first | (with_reducible first | exact HB.out | apply below_alloc | apply pw_below_drewN | apply below_drew1 | refine below_set ?_ GE200.out) | exact HB.out)) hb); have NB200_201 := Aside0.mk ((by rw [hg]; exact Nat.ne_of_lt (blk_lt (g := gb200) (o := .cells #[] 113 (0, 0)) (by (with_reducible repeat (first | refine blk_drewN ?_ _ | refine blk_drew ?_ | refine blk_alloc ?_ _)); exact BK200.out)) : gb200 ≠ gb201)); have NB201_200 := Aside0.mk NB200_201.out.symm; replace BK200 := Aside0.mk (zbb BK200.out hb); clear hb hbox hg) | ((with_reducible refine gate_dst (N := 4) rfl ?_); refine box_event (by rfl) (N := 4) (by rfl) (cs := #[.int .i64 0, .int .i64 0, .int .i64 0, .string (⟨#[]⟩ : ByteArray), .slice none 0 0, .string (⟨#[]⟩ : ByteArray), .int .i64 0, .int .i64 0, .int .i64 0, .int .i64 0, .string (⟨#[]⟩ : ByteArray), .int .i64 0, .int .i64 0]) (t := 28) (by first | (go_simp; done) | (go_simp; rfl)) ?_; intro gb202 hg w5 hbox hb; have BK202 := Aside0.mk (hbox); have GW202 := Aside0.mk ((by rw [hg]; exact (below_size (by repeat (first | (with_reducible first | exact HB.out | apply below_alloc | apply pw_below_drewN | apply below_drew1 | refine below_set ?_ GE200.out | refine below_set ?_ GE201.out) | exact HB.out))) : w.heap.size ≤ gb202)); have GE202 := GW202; replace HB := Aside0.mk (below_step (by repeat (first | (with_reducible first | exact HB.out | apply below_alloc | apply pw_below_drewN | apply below_drew1 | refine below_set ?_ GE200.out | refine below_set ?_ GE201.out) | exact HB.out)) hb); have NB200_202 := Aside0.mk ((by rw [hg]; exact Nat.ne_of_lt (blk_lt (g := gb200) (o := .cells #[] 113 (0, 0)) (by (with_reducible repeat (first | refine blk_drewN ?_ _ | refine blk_drew ?_ | refine blk_alloc ?_ _)); exact BK200.out)) : gb200 ≠ gb202)); have NB202_200 := Aside0.mk NB200_202.out.symm; replace BK200 := Aside0.mk (zbb BK200.out hb); have NB201_202 := Aside0.mk ((by rw [hg]; exact Nat.ne_of_lt (blk_lt (g := gb201) (o := .cells #[.int .i64 a1_0, .int .i64 a1_1, .int .i64 a1_2, .string a1_3, .slice A1_4 l1_4.length c1_4, .string a1_5, .int .i64 a1_6, .int .i64 a1_7, .int .i64 a1_8, .int .i64 a1_9, .string a1_10, .int .i64 a1_11, .int .i64 a1_12] 28 (0, 0)) (by (with_reducible repeat (first | refine blk_drewN ?_ _ | refine blk_drew ?_ | refine blk_alloc ?_ _)); exact BK201.out)) : gb201 ≠ gb202)); have NB202_201 := Aside0.mk NB201_202.out.symm; replace BK201 := Aside0.mk (zbb BK201.out hb); clear hb hbox hg; have hnb6 := NB201_200.out; have hnc6 := NB200_201.out; have hnb7 := NB201_202.out; have hnc7 := NB202_201.out; obtain ⟨q8_0, q8_1, q8_2, q8_3, q8_4, q8_5, q8_6, q8_7, q8_8, q8_9, q8_10, q8_11, q8_12⟩ := zc13 BK201.out; obtain ⟨f8_0, f8_1, f8_2, f8_3, f8_4, f8_5, f8_6, f8_7, f8_8, f8_9, f8_10, f8_11, f8_12⟩ := zf13 BK201.out; have hnb9 := NB202_200.out; have hnc9 := NB200_202.out; obtain ⟨q10_0, q10_1, q10_2, q10_3, q10_4, q10_5, q10_6, q10_7, q10_8, q10_9, q10_10, q10_11, q10_12⟩ := zc13 BK202.out; obtain ⟨f10_0, f10_1, f10_2, f10_3, f10_4, f10_5, f10_6, f10_7, f10_8, f10_9, f10_10, f10_11, f10_12⟩ := zf13 BK202.out))
 refine bodyPost_ret (results_cell_row rfl _ _ gb202 28 #[.int .i64 a1_0, .int .i64 0, .int .i64 0, .string (⟨#[]⟩ : ByteArray), .slice none 0 0, .string (⟨#[]⟩ : ByteArray), .int .i64 a1_6, .int .i64 0, .int .i64 0, .int .i64 0, .string (⟨#[]⟩ : ByteArray), .int .i64 a1_11, .int .i64 a1_12] (0, 0) _ rfl (by (with_reducible repeat (first | refine blk_drewN ?_ _ | refine blk_drew ?_ | refine blk_alloc ?_ _)); apply zp13; (with_reducible repeat (first | refine blk_drewN ?_ _ | refine blk_drew ?_ | refine blk_alloc ?_ _)); exact BK202.out) Tryz.underlying28 rfl (by kernel_rfl)) rfl ?_
 exact ⟨_, z12_4_, (by first | exact Kd.R_nil _ _ _ _ _ | exact Kd.N_nil _ _ _ _ _ | exact Kd.V_nil _ _ _ _ _ | exact Kd.Q_nil _ _ _ _ _ | exact Kd.S_nil _ _ _ _ _), (by repeat (first | (with_reducible first | exact HB.out | apply below_alloc | apply pw_below_drewN | apply below_drew1 | refine below_set ?_ GE200.out | refine below_set ?_ GE201.out | refine below_set ?_ GE202.out) | exact HB.out))⟩
/-! ### impl_tryKind_pack: function 198 -/
def impl_tryKind_pack.f  (a1_0 : Int) (a1_1 : Int) (a1_2 : Int) (a1_3 : ByteArray) (l1_4 : List ByteArray) (a1_5 : ByteArray) (a1_6 : Int) (a1_7 : Int) (a1_8 : Int) (a1_9 : Int) (a1_10 : ByteArray) (a1_11 : Int) (a1_12 : Int) : Option (ByteArray) := (impl_num.f a1_6).bind fun t205 => ((impl_num.f a1_11).bind fun t206 => ((impl_num.f a1_12).bind fun t207 => ((strings_Join.f (([(⟨#[84]⟩ : ByteArray), t205, t206, t207] : List ByteArray)) (⟨#[32]⟩ : ByteArray)).bind fun t211 => (some t211))))
def impl_tryKind_pack.T1 : Bool × List (List Nat × List Nat) := (true, [([], []), ([0], [0]), ([1], [1]), ([], []), ([3], [3]), ([4, 2], [4]), ([], []), ([6], [6]), ([7, 5], [7]), ([2, 5, 8], [2, 5, 8]), ([9, 8], [9]), ([10, 10, 0, 1, 2, 3, 4, 5, 6, 7, 8, 9, 10], [10])])
def impl_tryKind_pack.B1 : List Nat := [0, 1, 3, 0, 8, 31, 0, 64, 255, 511, 1023, 2047]
theorem impl_tryKind_pack.tab1 : rtab .any (opsOf Tryz.f198 1) = impl_tryKind_pack.T1 := by kernel_rfl
theorem impl_tryKind_pack.bits1 : waitsOk impl_tryKind_pack.T1.2 impl_tryKind_pack.B1 = true := by kernel_rfl
set_option maxHeartbeats 8000000 in
set_option maxRecDepth 100000 in
theorem impl_tryKind_pack.calls  (a1_0 : Int) (a1_1 : Int) (a1_2 : Int) (a1_3 : ByteArray) (A1_4 : Option Addr) (c1_4 : Nat) (l1_4 : List ByteArray) (a1_5 : ByteArray) (a1_6 : Int) (a1_7 : Int) (a1_8 : Int) (a1_9 : Int) (a1_10 : ByteArray) (a1_11 : Int) (a1_12 : Int) (r : ByteArray) (w : World) (hGI : GlI w) (hr1_4 : Kd.C Kd.string w A1_4 l1_4.length l1_4) (hc1_4 : l1_4.length ≤ c1_4) (h : impl_tryKind_pack.f a1_0 a1_1 a1_2 a1_3 l1_4 a1_5 a1_6 a1_7 a1_8 a1_9 a1_10 a1_11 a1_12 = some r) :
  Calls Tryz.prog 198 #[.agg #[], .agg #[.int .i64 a1_0, .int .i64 a1_1, .int .i64 a1_2, .string a1_3, .slice A1_4 l1_4.length c1_4, .string a1_5, .int .i64 a1_6, .int .i64 a1_7, .int .i64 a1_8, .int .i64 a1_9, .string a1_10, .int .i64 a1_11, .int .i64 a1_12]] w fun e w' => e = .returned (.string r) ∧ Below w.heap.size w w' := by
 have hu113 := Tryz.underlying113
 have hu28 := Tryz.underlying28
 have HR1_4 := Aside0.mk hr1_4
 have HC1_4 := Aside0.mk hc1_4
 clear hr1_4 hc1_4
 have HB := Aside0.mk (Below.refl w.heap.size w)
 have H : ((impl_num.f a1_6).bind fun t205 => ((impl_num.f a1_11).bind fun t206 => ((impl_num.f a1_12).bind fun t207 => ((strings_Join.f (([(⟨#[84]⟩ : ByteArray), t205, t206, t207] : List ByteArray)) (⟨#[32]⟩ : ByteArray)).bind fun t211 => (some t211))))) = some r := h
 clear h
 obtain ⟨t205, A3, H⟩ := zbi H
 obtain ⟨t206, A4, H⟩ := zbi H
 obtain ⟨t207, A5, H⟩ := zbi H
 obtain ⟨y208, hy208⟩ : ∃ y_ : List ByteArray, y_ = (([(⟨#[84]⟩ : ByteArray), t205, t206, t207] : List ByteArray)) := ⟨_, rfl⟩
 replace H : ((strings_Join.f y208 (⟨#[32]⟩ : ByteArray)).bind fun t211 => (some t211)) = some r := by first | (rw [hy208]; with_reducible exact H) | (have H2_ := (Option.bind_some _ _).symm.trans H; rw [hy208]; with_reducible exact H2_) | (have H2_ := (Option.bind_some _ _).symm.trans H; with_reducible exact H2_) | with_reducible exact H | (rw [hy208]; exact H) | exact H
 have Ny208 := Aside0.mk hy208
 clear hy208
 obtain ⟨t211, A6, H⟩ := zbi H
 obtain rfl := Option.some.inj H
 go_enter Tryz.func198, Tryz.ntmps198
 try go_wp2_with (first | ((with_reducible refine gate_dst (N := 2) rfl ?_); refine box_event (by rfl) (N := 2) (by rfl) (cs := #[]) (t := 113) (by first | (go_simp; done) | (go_simp; rfl)) ?_; intro gb203 hg w7 hbox hb; have BK203 := Aside0.mk (hbox); have GW203 := Aside0.mk ((by rw [hg]; exact (below_size (bq_)) : w.heap.size ≤ gb203)); have GE203 := GW203; replace HB := Aside0.mk (below_step (bq_) hb); clear hb hbox hg) | ((with_reducible refine gate_dst (N := 3) rfl ?_); refine box_event (by rfl) (N := 3) (by rfl) (cs := #[.int .i64 a1_0, .int .i64 a1_1, .int .i64 a1_2, .string a1_3, .slice A1_4 l1_4.length c1_4, .string a1_5, .int .i64 a1_6, .int .i64 a1_7, .int .i64 a1_8, .int .i64 a1_9, .string a1_10, .int .i64 a1_11, .int .i64 a1_12]) (t := 28) (by first | (go_simp; done) | (go_simp; rfl)) ?_; intro gb204 hg w8 hbox hb; have BK204 := Aside0.mk (hbox); have GW204 := Aside0.mk ((by rw [hg]; exact (below_size (by repeat (first | (with_reducible first | exact HB.out | apply below_alloc | apply pw_below_drewN | apply below_drew1 | refine below_set ?_ GE203.out) | exact HB.out))) : w.heap.size ≤ gb204)); have GE204 := GW204; replace HB := Aside0.mk (below_step (by repeat (first | (with_reducible first | exact HB.out | apply below_alloc | apply pw_below_drewN | apply below_drew1 | refine below_set ?_ GE203.out) | exact HB.out)) hb); have NB203_204 := Aside0.mk ((by rw [hg]; exact Nat.ne_of_lt (blk_lt (g := gb203) (o := .cells #[] 113 (0, 0)) (by (with_reducible repeat (first | refine blk_drewN ?_ _ | refine blk_drew ?_ | refine blk_alloc ?_ _)); exact BK203.out)) : gb203 ≠ gb204)); have NB204_203 := Aside0.mk NB203_204.out.symm; replace BK203 := Aside0.mk (zbb BK203.out hb); clear hb hbox hg))
 replace BK203 := Aside0.mk (blk_drew BK203.out)
 replace BK204 := Aside0.mk (blk_drew BK204.out)
 replace HB := Aside0.mk (below_drew1 HB.out)
 refine start_ (n := 12) (S := fun w' => w'.cell? ⟨gb204, 0, none⟩ = some (.int .i64 a1_0) ∧ w'.cell? ⟨gb204, 1, none⟩ = some (.int .i64 a1_1) ∧ w'.cell? ⟨gb204, 2, none⟩ = some (.int .i64 a1_2) ∧ w'.cell? ⟨gb204, 3, none⟩ = some (.string a1_3) ∧ w'.cell? ⟨gb204, 4, none⟩ = some (.slice A1_4 l1_4.length c1_4) ∧ w'.cell? ⟨gb204, 5, none⟩ = some (.string a1_5) ∧ w'.cell? ⟨gb204, 6, none⟩ = some (.int .i64 a1_6) ∧ w'.cell? ⟨gb204, 7, none⟩ = some (.int .i64 a1_7) ∧ w'.cell? ⟨gb204, 8, none⟩ = some (.int .i64 a1_8) ∧ w'.cell? ⟨gb204, 9, none⟩ = some (.int .i64 a1_9) ∧ w'.cell? ⟨gb204, 10, none⟩ = some (.string a1_10) ∧ w'.cell? ⟨gb204, 11, none⟩ = some (.int .i64 a1_11) ∧ w'.cell? ⟨gb204, 12, none⟩ = some (.int .i64 a1_12)) (ds := []) (zfl 12 []) (by kernel_rfl) rfl rfl ⟨(blk_cell BK204.out 0).trans rfl, (blk_cell BK204.out 1).trans rfl, (blk_cell BK204.out 2).trans rfl, (blk_cell BK204.out 3).trans rfl, (blk_cell BK204.out 4).trans rfl, (blk_cell BK204.out 5).trans rfl, (blk_cell BK204.out 6).trans rfl, (blk_cell BK204.out 7).trans rfl, (blk_cell BK204.out 8).trans rfl, (blk_cell BK204.out 9).trans rfl, (blk_cell BK204.out 10).trans rfl, (blk_cell BK204.out 11).trans rfl, (blk_cell BK204.out 12).trans rfl⟩ (fun hHeld => ?_); refine with_tabW impl_tryKind_pack.tab1 impl_tryKind_pack.bits1 (fun HT_ HW_ => ?_)
 generalize w8.drew = w9 at BK203 BK204 HB hHeld ⊢
 refine zpu 0 5 (zfl 12 [0]) HT_ ?_
 refine zpu 3 8 (zfl 12 [0, 3]) HT_ ?_
 refine zpu 6 11 (zfl 12 [0, 3, 6]) HT_ ?_
 refine ztk 1 6 (zfl 12 [0, 1, 3, 6]) HT_ HW_ hHeld ?_
 refine ztk 4 9 (zfl 12 [0, 1, 3, 4, 6]) HT_ HW_ hHeld ?_
 refine ztk 7 12 (zfl 12 [0, 1, 3, 4, 6, 7]) HT_ HW_ hHeld ?_
 refine zon 2 7 (zfl 12 [0, 1, 2, 3, 4, 6, 7]) HT_ (fun K hK => ?_)
 refine goes_ Tryz.func152 (by kernel_rfl) rfl #[.int .i64 a1_6] (by rfl) rfl rfl z12_1_ ?_
 with_reducible refine (impl_num.calls a1_6 t205 _ ?side1 A3.out).mono ?_
 (case side1 => exact GlI.below hGI z12_2_)
 rintro e w10 ⟨rfl, hb⟩
 refine ⟨_, rfl, ?_⟩
 replace BK203 := Aside0.mk (zbb BK203.out hb)
 replace BK204 := Aside0.mk (zbb BK204.out hb)
 replace HB := Aside0.mk (below_step z12_2_ hb)
 (try clear hb)
 (try clear hb2)
 (try clear hk)
 (try clear hi)
 refine hK.out _ _ ⟨(blk_cell BK204.out 0).trans rfl, (blk_cell BK204.out 1).trans rfl, (blk_cell BK204.out 2).trans rfl, (blk_cell BK204.out 3).trans rfl, (blk_cell BK204.out 4).trans rfl, (blk_cell BK204.out 5).trans rfl, (blk_cell BK204.out 6).trans rfl, (blk_cell BK204.out 7).trans rfl, (blk_cell BK204.out 8).trans rfl, (blk_cell BK204.out 9).trans rfl, (blk_cell BK204.out 10).trans rfl, (blk_cell BK204.out 11).trans rfl, (blk_cell BK204.out 12).trans rfl⟩ (fun hHeld => ?_)
 clear hK K
 refine znm ?_
 refine zon 5 10 (zfl 12 [0, 1, 2, 3, 4, 5, 6, 7]) HT_ (fun K hK => ?_)
 refine goes_ Tryz.func152 (by kernel_rfl) rfl #[.int .i64 a1_11] (by rfl) rfl rfl z12_1_ ?_
 with_reducible refine (impl_num.calls a1_11 t206 _ ?side1 A4.out).mono ?_
 (case side1 => exact GlI.below hGI z12_2_)
 rintro e w11 ⟨rfl, hb⟩
 refine ⟨_, rfl, ?_⟩
 replace BK203 := Aside0.mk (zbb BK203.out hb)
 replace BK204 := Aside0.mk (zbb BK204.out hb)
 replace HB := Aside0.mk (below_step z12_2_ hb)
 (try clear hb)
 (try clear hb2)
 (try clear hk)
 (try clear hi)
 refine hK.out _ _ ⟨(blk_cell BK204.out 0).trans rfl, (blk_cell BK204.out 1).trans rfl, (blk_cell BK204.out 2).trans rfl, (blk_cell BK204.out 3).trans rfl, (blk_cell BK204.out 4).trans rfl, (blk_cell BK204.out 5).trans rfl, (blk_cell BK204.out 6).trans rfl, (blk_cell BK204.out 7).trans rfl, (blk_cell BK204.out 8).trans rfl, (blk_cell BK204.out 9).trans rfl, (blk_cell BK204.out 10).trans rfl, (blk_cell BK204.out 11).trans rfl, (blk_cell BK204.out 12).trans rfl⟩ (fun hHeld => ?_)
 clear hK K
 refine znm ?_
 refine zon 8 13 (zfl 12 [0, 1, 2, 3, 4, 5, 6, 7, 8]) HT_ (fun K hK => ?_)
 refine goes_ Tryz.func152 (by kernel_rfl) rfl #[.int .i64 a1_12] (by rfl) rfl rfl z12_1_ ?_
 with_reducible refine (impl_num.calls a1_12 t207 _ ?side1 A5.out).mono ?_
 (case side1 => exact GlI.below hGI z12_2_)
 rintro e w12 ⟨rfl, hb⟩
 refine ⟨_, rfl, ?_⟩
 replace BK203 := Aside0.mk (zbb BK203.out hb)
 replace BK204 := Aside0.mk (zbb BK204.out hb)
 replace HB := Aside0.mk (below_step z12_2_ hb)
 (try clear hb)
 (try clear hb2)
 (try clear hk)
 (try clear hi)
 refine hK.out _ _ ⟨(blk_cell BK204.out 0).trans rfl, (blk_cell BK204.out 1).trans rfl, (blk_cell BK204.out 2).trans rfl, (blk_cell BK204.out 3).trans rfl, (blk_cell BK204.out 4).trans rfl, (blk_cell BK204.out 5).trans rfl, (blk_cell BK204.out 6).trans rfl, (blk_cell BK204.out 7).trans rfl, (blk_cell BK204.out 8).trans rfl, (blk_cell BK204.out 9).trans rfl, (blk_cell BK204.out 10).trans rfl, (blk_cell BK204.out 11).trans rfl, (blk_cell BK204.out 12).trans rfl⟩ (fun hHeld => ?_)
 clear hK K
 refine znm ?_
 refine zon 9 14 (zfl 12 [0, 1, 2, 3, 4, 5, 6, 7, 8, 9]) HT_ (fun K hK => ?_)
 refine Kd.R_lit_step Kd.string _ 9 ?hg (N := 14) ?hd (xs := ([(⟨#[84]⟩ : ByteArray), t205, t206, t207] : List ByteArray)) (inner := [.string (⟨#[84]⟩ : ByteArray), .string t205, .string t206, .string t207]) (ok := fun _ => True) (okp := fun _ => True) ?hr ?hp (fun _ hk => hk) trivial (Below.refl _ _) (Nat.le_refl _) (by simp) ?_; (case hd => rfl); (case hg => rfl); (case hr => first | (go_simp; done) | (go_simp; rfl)); (case hp => exact (Reps.one (show Kd.M Kd.string _ _ _ (⟨#[84]⟩ : ByteArray) [.string (⟨#[84]⟩ : ByteArray)] from rfl) (Reps.one (show Kd.M Kd.string _ _ _ t205 [.string t205] from rfl) (Reps.one (show Kd.M Kd.string _ _ _ t206 [.string t206] from rfl) (Reps.one (show Kd.M Kd.string _ _ _ t207 [.string t207] from rfl) (Reps.none _ _))))))
 intro v209 w13 ho14 hb hg_ hnew_
 clear hg_ hnew_
 (first | rw [← Ny208.out] at ho14 | (simp only [Int.reduceToNat] at ho14; rw [← Ny208.out] at ho14))
 have HO210 := Aside0.mk (Kd.R_lower ho14 (below_size z12_2_))
 replace BK203 := Aside0.mk (zbb BK203.out hb)
 replace BK204 := Aside0.mk (zbb BK204.out hb)
 replace HB := Aside0.mk (below_step z12_2_ hb)
 clear hb ho14
 obtain ⟨Ao15, co15, eo15⟩ := Kd.R_slice HO210.out
 (first | subst eo15 | (injection eo15 with f1_ f2_ f3_; have f4_ := f1_.symm; have f5_ := f3_.symm; clear f1_ f2_ f3_; subst f4_; subst f5_))
 refine hK.out _ _ ⟨(blk_cell BK204.out 0).trans rfl, (blk_cell BK204.out 1).trans rfl, (blk_cell BK204.out 2).trans rfl, (blk_cell BK204.out 3).trans rfl, (blk_cell BK204.out 4).trans rfl, (blk_cell BK204.out 5).trans rfl, (blk_cell BK204.out 6).trans rfl, (blk_cell BK204.out 7).trans rfl, (blk_cell BK204.out 8).trans rfl, (blk_cell BK204.out 9).trans rfl, (blk_cell BK204.out 10).trans rfl, (blk_cell BK204.out 11).trans rfl, (blk_cell BK204.out 12).trans rfl⟩ (fun hHeld => ?_)
 clear hK K
 refine znm ?_
 refine zon 10 15 (zfl 12 [0, 1, 2, 3, 4, 5, 6, 7, 8, 9, 10]) HT_ (fun K hK => ?_)
 refine goes_ Tryz.func154 (by kernel_rfl) rfl #[.slice Ao15 y208.length co15, .string (⟨#[32]⟩ : ByteArray)] (by rfl) rfl rfl z12_1_ ?_
 with_reducible refine (strings_Join.calls _ _ y208 (⟨#[32]⟩ : ByteArray) t211 _ ?side1 ?side2 A6.out).mono ?_
 (case side1 => exact (by repeat (first | exact (Kd.R_reads' HO210.out).2.2 | (with_reducible refine Kd.C_alloc ?_ _) | (with_reducible refine Kd.C_drewN ?_ _) | (with_reducible refine Kd.C_drew ?_))))
 (case side2 => exact (Kd.R_reads' HO210.out).2.1)
 rintro e w16 ⟨rfl, hb⟩
 refine ⟨_, rfl, ?_⟩
 replace HO210 := Aside0.mk (Kd.R_below (by (with_reducible repeat (first | apply Kd.R_alloc | apply Kd.R_drewN | apply Kd.R_drew)); exact HO210.out) hb)
 replace BK203 := Aside0.mk (zbb BK203.out hb)
 replace BK204 := Aside0.mk (zbb BK204.out hb)
 replace HB := Aside0.mk (below_step z12_2_ hb)
 (try clear hb)
 (try clear hb2)
 (try clear hk)
 (try clear hi)
 refine hK.out _ _ ⟨(blk_cell BK204.out 0).trans rfl, (blk_cell BK204.out 1).trans rfl, (blk_cell BK204.out 2).trans rfl, (blk_cell BK204.out 3).trans rfl, (blk_cell BK204.out 4).trans rfl, (blk_cell BK204.out 5).trans rfl, (blk_cell BK204.out 6).trans rfl, (blk_cell BK204.out 7).trans rfl, (blk_cell BK204.out 8).trans rfl, (blk_cell BK204.out 9).trans rfl, (blk_cell BK204.out 10).trans rfl, (blk_cell BK204.out 11).trans rfl, (blk_cell BK204.out 12).trans rfl⟩ (fun hHeld => ?_)
 clear hK K
 refine znm ?_
 refine zpu 11 4 (zfl 12 [0, 1, 2, 3, 4, 5, 6, 7, 8, 9, 10, 11]) HT_ ?_
 refine done_ (done_of HT_.out (by kernel_rfl)) ?_
 try go_wp2
 go_ret
 exact ⟨z12_4_, z12_2_⟩
end Go.Proofs.YtnlembpmcbnpnaaGreatDoor.X
