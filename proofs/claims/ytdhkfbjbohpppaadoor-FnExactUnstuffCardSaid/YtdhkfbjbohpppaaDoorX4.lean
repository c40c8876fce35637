-- Written by a program of this session (wip/tools/xprint.py, over the kit's printer) out of the translation.
import Derived.Test.YtdhkfbjbohpppaaDoorX0
import Derived.Test.YtdhkfbjbohpppaaDoorX1
import Derived.Test.YtdhkfbjbohpppaaDoorGSplit
import Derived.Test.YtdhkfbjbohpppaaDoorGAll
import Derived.Test.YtdhkfbjbohpppaaDoorGlob
namespace Go.Proofs.YtdhkfbjbohpppaaDoor.X
open Go.RowKit Go.Proofs.YtdhkfbjbohpppaaDoorW.PrintWords Go.Proofs.YtdhkfbjbohpppaaDoorW.PrintLast Go.Proofs.YtdhkfbjbohpppaaDoorW.PrintMore
attribute [local go_sem] max2_int min2_int max_two min_two max_three min_three max_four min_four   -- for this text's walks alone
set_option linter.unusedVariables false
set_option linter.unusedSimpArgs false

/-! ### impl_ValidDomain: function 18 -/
mutual
def impl_ValidDomain.j0 : Nat → ByteArray → Bool → Option (Bool)
  | 0, _, _ => none
  | k + 1, x0, x12 => if x12 = true then (some false) else ((strings_Split.f x0 (⟨#[46]⟩ : ByteArray)).bind fun t118 => (impl_ValidDomain.l0 k t118 (t118.length : Int) 0))
def impl_ValidDomain.l0 : Nat → List ByteArray → Int → Int → Option (Bool)
  | 0, _, _, _ => none
  | k + 1, x14, x15, x16 => if x16 < x15 then (if 0 ≤ x16 then (if x16 < (x14.length : Int) then (if ((rdOf ByteArray.empty x14 x16).size : Int) < 1 then (some false) else (if ((rdOf ByteArray.empty x14 x16).size : Int) > 63 then (some false) else (if 0 < ((rdOf ByteArray.empty x14 x16).size : Int) then (if (bt (rdOf ByteArray.empty x14 x16) 0) = 45 then (some false) else (if 0 ≤ (wrap64 (((rdOf ByteArray.empty x14 x16).size : Int) - 1)) then (if (wrap64 (((rdOf ByteArray.empty x14 x16).size : Int) - 1)) < ((rdOf ByteArray.empty x14 x16).size : Int) then (if (bt (rdOf ByteArray.empty x14 x16) (wrap64 (((rdOf ByteArray.empty x14 x16).size : Int) - 1))) = 45 then (some false) else ((impl_all_impl_ValidDomain_1.f (rdOf ByteArray.empty x14 x16)).bind fun t122 => (if t122 = true then (impl_ValidDomain.l0 k x14 x15 (wrap64 (x16 + 1))) else (some false)))) else (none)) else (none))) else (none)))) else (none)) else (none)) else (some true)
end
def impl_ValidDomain.f (k : Nat) (a0 : ByteArray) : Option (Bool) := if (a0.size : Int) < 1 then (impl_ValidDomain.j0 k a0 true) else (impl_ValidDomain.j0 k a0 (decide ((a0.size : Int) > 100)))
theorem impl_ValidDomain.mono_l : ∀ k, (∀ y0 y1, LeO (impl_ValidDomain.j0 k y0 y1) (impl_ValidDomain.j0 (k + 1) y0 y1)) ∧ (∀ y0 y1 y2, LeO (impl_ValidDomain.l0 k y0 y1 y2) (impl_ValidDomain.l0 (k + 1) y0 y1 y2))
  | 0 => ⟨fun _ _ r h => by simp [impl_ValidDomain.j0] at h, fun _ _ _ r h => by simp [impl_ValidDomain.l0] at h⟩
  | k + 1 => by
    obtain ⟨ih0, ih1⟩ := impl_ValidDomain.mono_l k
    refine ⟨?_, ?_⟩
    · intro y0 y1
      unfold impl_ValidDomain.j0
      repeat' first
      | (with_reducible exact ih0 _ _)
      | (with_reducible exact ih1 _ _ _)
      | (with_reducible exact LeO.refl _)
      | (with_reducible exact LeO.none _)
      | (with_reducible refine LeO.ite ?_ ?_)
      | (with_reducible refine LeO.bind ?_ (fun _ => ?_))
      | exact ih0 _ _
      | exact ih1 _ _ _
      | exact LeO.none _
      | refine LeO.ite ?_ ?_
      | refine LeO.bind ?_ (fun _ => ?_)
    · intro y0 y1 y2
      unfold impl_ValidDomain.l0
      repeat' first
      | (with_reducible exact ih0 _ _)
      | (with_reducible exact ih1 _ _ _)
      | (with_reducible exact LeO.refl _)
      | (with_reducible exact LeO.none _)
      | (with_reducible refine LeO.ite ?_ ?_)
      | (with_reducible refine LeO.bind ?_ (fun _ => ?_))
      | exact ih0 _ _
      | exact ih1 _ _ _
      | exact LeO.none _
      | refine LeO.ite ?_ ?_
      | refine LeO.bind ?_ (fun _ => ?_)
theorem impl_ValidDomain.mono : ∀ a0 k, LeO (impl_ValidDomain.f k a0) (impl_ValidDomain.f (k + 1) a0) := by
  intro a0 k
  obtain ⟨ih0, ih1⟩ := impl_ValidDomain.mono_l k
  unfold impl_ValidDomain.f
  repeat' first
      | (with_reducible exact ih0 _ _)
      | (with_reducible exact ih1 _ _ _)
      | (with_reducible exact LeO.refl _)
      | (with_reducible exact LeO.none _)
      | (with_reducible refine LeO.ite ?_ ?_)
      | (with_reducible refine LeO.bind ?_ (fun _ => ?_))
      | exact ih0 _ _
      | exact ih1 _ _ _
      | exact LeO.none _
      | refine LeO.ite ?_ ?_
      | refine LeO.bind ?_ (fun _ => ?_)
set_option maxHeartbeats 8000000 in
set_option maxRecDepth 100000 in
theorem impl_ValidDomain.calls (k : Nat) (a0 : ByteArray) (r : Bool) (w : World) (hGM : GlM w) (h : impl_ValidDomain.f k a0 = some r) :
    Calls Tryd.prog 18 #[.string a0] w fun e w' => e = .returned (.bool r) ∧ Below w.heap.size w w' := by
  have HB := Aside0.mk (Below.refl w.heap.size w)
  have H : (if (a0.size : Int) < 1 then (impl_ValidDomain.j0 k a0 true) else (impl_ValidDomain.j0 k a0 (decide ((a0.size : Int) > 100)))) = some r := h
  clear h
  have HC2 := Aside0.mk H
  clear H
  go_enter Tryd.func18, Tryd.ntmps18
  go_upto_region 1 with (fail)
  go_cut [12] (fun v12 wc => ∃ (kq : Nat) (x12_1 : Bool), v12 = .bool x12_1 ∧ Aside0 (impl_ValidDomain.j0 kq a0 x12_1 = some r) ∧ Aside0 (kq ≤ k) ∧ Aside0 (Below w.heap.size w wc))
  case first =>
    have H := HC2.out
    clear HC2
    by_cases c3 : (a0.size : Int) < 1
    · rw [if_pos c3] at H
      have c3b0 : decide ((a0.size : Int) < 1) = true := decide_eq_true c3
      have c3b1 : decide (a0.size < 1) = true := decide_eq_true (by omega)
      clear c3
      (first | rw [c3b0] | (simp only [i64_w, i32_w]; rw [c3b0]) | skip)
      have H' := Aside0.mk H
      clear H
      go_wp2
      go_meet
      case rel => exact ⟨_, (true), (by first | rfl | (simp; done) | (simp [*]; done)), H', ⟨by first | omega | exact Nat.le_refl _⟩, ⟨by repeat (first | (with_reducible first | exact HB.out | apply below_alloc | apply pw_below_drewN | apply below_drew1) | exact HB.out)⟩⟩
    · rw [if_neg c3] at H
      have c3b0 : decide ((a0.size : Int) < 1) = false := decide_eq_false c3
      have c3b1 : decide (a0.size < 1) = false := decide_eq_false (by omega)
      clear c3
      (first | rw [c3b0] | (simp only [i64_w, i32_w]; rw [c3b0]) | skip)
      have H' := Aside0.mk H
      clear H
      go_wp2
      go_meet
      case rel => exact ⟨_, (decide ((a0.size : Int) > 100)), (by first | rfl | (simp; done) | (simp [*]; done)), H', ⟨by first | omega | exact Nat.le_refl _⟩, ⟨by repeat (first | (with_reducible first | exact HB.out | apply below_alloc | apply pw_below_drewN | apply below_drew1) | exact HB.out)⟩⟩
  case rest =>
    clear HC2
    try clear c1
    try clear p2
    try clear c3
    try clear c3b0
    try clear c3b1
    obtain ⟨kq, x12_1, rfl, HA, HJ1, HB⟩ := hcut
    cases kq with
    | zero => exact absurd HA.out (by simp [impl_ValidDomain.j0])
    | succ kj1 =>
      have H := HA.out
      clear HA
      simp only [impl_ValidDomain.j0] at H
      by_cases c4 : x12_1 = true
      · subst c4
        have H1 : (some false) = some r := by rw [if_pos rfl] at H; exact H
        clear H
        have H := H1
        clear H1
        obtain rfl := Option.some.inj H
        go_wp2
        go_ret
        exact ⟨by first | rfl | (simp [errW_none, errW_some] <;> rfl) | (simp [*, errW_none, errW_some] <;> rfl), by repeat (first | (with_reducible first | exact HB.out | apply below_alloc | apply pw_below_drewN | apply below_drew1) | exact HB.out)⟩
      · replace c4 := Bool.eq_false_iff.mpr c4
        subst c4
        have H1 : ((strings_Split.f a0 (⟨#[46]⟩ : ByteArray)).bind fun t118 => (impl_ValidDomain.l0 kj1 t118 (t118.length : Int) 0)) = some r := by rw [if_neg (show ¬ (false = true) by decide)] at H; exact H
        clear H
        have H := H1
        clear H1
        replace H := Option.bind_eq_some_iff.mp H
        obtain ⟨t118, A50, H⟩ := H
        replace H : (impl_ValidDomain.l0 kj1 t118 (t118.length : Int) 0) = some r := H
        have A5 := Aside0.mk A50
        clear A50
        have H' := Aside0.mk H
        clear H
        go_wp2_with (first | ((with_reducible refine gate_callee (f := 63) rfl ?_); refine goesL_ (some 14) rfl rfl Tryd.func63 (by kernel_rfl) rfl #[.string a0, .string (⟨#[46]⟩ : ByteArray)] rfl (by (try simp only [List.map_toArray, List.map_cons, List.map_nil]); first | done | rfl | (simp only [List.length_drop, List.length_take]; rfl)) ?_; (with_reducible refine (strings_Split.calls a0 (⟨#[46]⟩ : ByteArray) t118 _ ?side1 A5.out).mono ?_); (case side1 => exact GlM.below hGM (by repeat (first | (with_reducible first | exact HB.out | apply below_alloc | apply pw_below_drewN | apply below_drew1) | exact HB.out))); rintro e w6 ⟨v119, rfl, ho0, hb⟩; refine ⟨_, rfl, ?_⟩; have n0_ := Aside0.mk (Kd.R_lower ho0 (below_size (by repeat (first | (with_reducible first | exact HB.out | apply below_alloc | apply pw_below_drewN | apply below_drew1) | exact HB.out)))); have n1_ := Aside0.mk (below_step (by repeat (first | (with_reducible first | exact HB.out | apply below_alloc | apply pw_below_drewN | apply below_drew1) | exact HB.out)) hb); clear HB; have HO120 := n0_; have HB := n1_; clear n0_ n1_; (try clear hb); (try clear hb2); (try clear hk); (try clear hi); (try clear ho0); obtain ⟨Ao7, co7, eo7⟩ := Kd.R_slice HO120.out; subst eo7))
        go_loopg [16] kj1 (fun kq v16 w' => ∃ (x16_2 : Int), v16 = .int .i64 x16_2 ∧ Aside0 (impl_ValidDomain.l0 kq t118 (t118.length : Int) x16_2 = some r) ∧ Aside0 (kq ≤ kj1) ∧ Aside0 (Kd.R Kd.string 9 w' w.heap.size (fun _ => True) (.slice Ao7 t118.length co7) t118) ∧ Aside0 (Below w.heap.size w w'))
        case atStart => exact ⟨(0), (by first | rfl | (simp; done) | (simp [*]; done)), H', ⟨Nat.le_refl _⟩, ⟨by (with_reducible repeat (first | apply Kd.R_alloc | apply Kd.R_drewN | apply Kd.R_drew)); exact HO120.out⟩, ⟨by repeat (first | (with_reducible first | exact HB.out | apply below_alloc | apply pw_below_drewN | apply below_drew1) | exact HB.out)⟩⟩
        case round =>
          clear H'
          try clear c1
          try clear p2
          try clear c3
          try clear c3b0
          try clear c3b1
          try clear c4
          try clear c6
          try clear p2
          obtain ⟨x16_2, rfl, HA, HK2, HO_14, HB⟩ := hrel
          cases gk with
          | zero => exact absurd HA.out (by simp [impl_ValidDomain.l0])
          | succ k2 =>
            have H := HA.out
            clear HA
            simp only [impl_ValidDomain.l0] at H
            by_cases c8 : x16_2 < (t118.length : Int)
            · rw [if_pos c8] at H
              have c8b0 : decide (x16_2 < (t118.length : Int)) = true := decide_eq_true c8
              clear c8
              by_cases c9 : 0 ≤ x16_2
              · rw [if_pos c9] at H
                have c9b0 : decide (0 ≤ x16_2) = true := decide_eq_true c9
                clear c9
                by_cases c10 : x16_2 < (t118.length : Int)
                · rw [if_pos c10] at H
                  have c10b0 : decide (x16_2 < (t118.length : Int)) = true := decide_eq_true c10
                  clear c10
                  by_cases c11 : ((rdOf ByteArray.empty t118 x16_2).size : Int) < 1
                  · rw [if_pos c11] at H
                    have c11b0 : decide (((rdOf ByteArray.empty t118 x16_2).size : Int) < 1) = true := decide_eq_true c11
                    have c11b1 : decide ((rdOf ByteArray.empty t118 x16_2).size < 1) = true := decide_eq_true (by omega)
                    clear c11
                    obtain rfl := Option.some.inj H
                    have p121 : 0 ≤ (x16_2 : Int) := of_decide_eq_true (by first | (with_reducible assumption) | assumption)
                    have q121 : x16_2 < (t118.length : Int) := of_decide_eq_true (by first | (with_reducible assumption) | assumption)
                    obtain ⟨ad121, e121, hx121_0⟩ := Kd.at_string (Kd.R_reads' HO_14.out).2.2 x16_2 p121 q121
                    cases e121
                    replace p121 := eq_true p121
                    replace q121 := eq_true q121
                    go_wp2
                    go_ret
                    exact ⟨by first | rfl | (simp [errW_none, errW_some] <;> rfl) | (simp [*, errW_none, errW_some] <;> rfl), by repeat (first | (with_reducible first | exact HB.out | apply below_alloc | apply pw_below_drewN | apply below_drew1) | exact HB.out)⟩
                  · rw [if_neg c11] at H
                    have c11b0 : decide (((rdOf ByteArray.empty t118 x16_2).size : Int) < 1) = false := decide_eq_false c11
                    have c11b1 : decide ((rdOf ByteArray.empty t118 x16_2).size < 1) = false := decide_eq_false (by omega)
                    clear c11
                    by_cases c12 : ((rdOf ByteArray.empty t118 x16_2).size : Int) > 63
                    · rw [if_pos c12] at H
                      have c12b0 : decide (63 < ((rdOf ByteArray.empty t118 x16_2).size : Int)) = true := decide_eq_true c12
                      have c12b1 : decide (63 < (rdOf ByteArray.empty t118 x16_2).size) = true := decide_eq_true (by omega)
                      clear c12
                      obtain rfl := Option.some.inj H
                      have p121 : 0 ≤ (x16_2 : Int) := of_decide_eq_true (by first | (with_reducible assumption) | assumption)
                      have q121 : x16_2 < (t118.length : Int) := of_decide_eq_true (by first | (with_reducible assumption) | assumption)
                      obtain ⟨ad121, e121, hx121_0⟩ := Kd.at_string (Kd.R_reads' HO_14.out).2.2 x16_2 p121 q121
                      cases e121
                      replace p121 := eq_true p121
                      replace q121 := eq_true q121
                      go_wp2
                      go_ret
                      exact ⟨by first | rfl | (simp [errW_none, errW_some] <;> rfl) | (simp [*, errW_none, errW_some] <;> rfl), by repeat (first | (with_reducible first | exact HB.out | apply below_alloc | apply pw_below_drewN | apply below_drew1) | exact HB.out)⟩
                    · rw [if_neg c12] at H
                      have c12b0 : decide (63 < ((rdOf ByteArray.empty t118 x16_2).size : Int)) = false := decide_eq_false c12
                      have c12b1 : decide (63 < (rdOf ByteArray.empty t118 x16_2).size) = false := decide_eq_false (by omega)
                      clear c12
                      by_cases c13 : 0 < ((rdOf ByteArray.empty t118 x16_2).size : Int)
                      · rw [if_pos c13] at H
                        have c13b0 : decide (0 < ((rdOf ByteArray.empty t118 x16_2).size : Int)) = true := decide_eq_true c13
                        have c13b1 : decide (0 < (rdOf ByteArray.empty t118 x16_2).size) = true := decide_eq_true (by omega)
                        clear c13
                        by_cases c15 : (bt (rdOf ByteArray.empty t118 x16_2) 0) = 45
                        · rw [if_pos c15] at H
                          have c15b0 : ((bt (rdOf ByteArray.empty t118 x16_2) 0) == 45) = true := beq_iff_eq.mpr c15
                          have c15b1 : ((bt (rdOf ByteArray.empty t118 x16_2) 0) != 45) = false := bne_eq_false_iff_eq.mpr c15
                          clear c15
                          obtain rfl := Option.some.inj H
                          have p121 : 0 ≤ (x16_2 : Int) := of_decide_eq_true (by first | (with_reducible assumption) | assumption)
                          have q121 : x16_2 < (t118.length : Int) := of_decide_eq_true (by first | (with_reducible assumption) | assumption)
                          obtain ⟨ad121, e121, hx121_0⟩ := Kd.at_string (Kd.R_reads' HO_14.out).2.2 x16_2 p121 q121
                          cases e121
                          replace p121 := eq_true p121
                          replace q121 := eq_true q121
                          have p14 : 0 ≤ (0 : Int) := (by omega)
                          have q14 : 0 < (rdOf ByteArray.empty t118 x16_2).size := (by have : (0 : Int) < ((rdOf ByteArray.empty t118 x16_2).size : Int) := of_decide_eq_true (by first | (with_reducible assumption) | assumption); omega)
                          have hx14 : ∀ h : 0 < (rdOf ByteArray.empty t118 x16_2).size, (((rdOf ByteArray.empty t118 x16_2)[0]'h).toNat : Int) = bt (rdOf ByteArray.empty t118 x16_2) 0 := bt_at (rdOf ByteArray.empty t118 x16_2) 0
                          clear p14
                          have qi14 : (0 < ((rdOf ByteArray.empty t118 x16_2).size : Int)) = True := eq_true (of_decide_eq_true (by first | (with_reducible assumption) | assumption))
                          replace q14 := eq_true q14
                          go_wp2
                          go_ret
                          exact ⟨by first | rfl | (simp [errW_none, errW_some] <;> rfl) | (simp [*, errW_none, errW_some] <;> rfl), by repeat (first | (with_reducible first | exact HB.out | apply below_alloc | apply pw_below_drewN | apply below_drew1) | exact HB.out)⟩
                        · rw [if_neg c15] at H
                          have c15b0 : ((bt (rdOf ByteArray.empty t118 x16_2) 0) == 45) = false := beq_eq_false_iff_ne.mpr c15
                          have c15b1 : ((bt (rdOf ByteArray.empty t118 x16_2) 0) != 45) = true := bne_iff_ne.mpr c15
                          obtain ⟨ji16, hji16⟩ : ∃ j_ : Int, (wrap64 (((rdOf ByteArray.empty t118 x16_2).size : Int) - 1)) = j_ := ⟨_, rfl⟩
                          replace H : (if 0 ≤ (ji16) then (if (ji16) < ((rdOf ByteArray.empty t118 x16_2).size : Int) then (if (bt (rdOf ByteArray.empty t118 x16_2) (ji16)) = 45 then (some false) else ((impl_all_impl_ValidDomain_1.f (rdOf ByteArray.empty t118 x16_2)).bind fun t122 => (if t122 = true then (impl_ValidDomain.l0 k2 t118 (t118.length : Int) (wrap64 (x16_2 + 1))) else (some false)))) else (none)) else (none)) = some r := by first | (rw [hji16] at H; exact H) | (simp only [hji16] at H ⊢; exact H)
                          have hji16w : (IntKind.i64.wrap (((rdOf ByteArray.empty t118 x16_2).size : Int) - 1)) = ji16 := (i64_w _).trans hji16
                          by_cases c17 : 0 ≤ (ji16)
                          · rw [if_pos c17] at H
                            have c17b0 : decide (0 ≤ (ji16)) = true := decide_eq_true c17
                            clear c17
                            by_cases c18 : (ji16) < ((rdOf ByteArray.empty t118 x16_2).size : Int)
                            · rw [if_pos c18] at H
                              have c18b0 : decide ((ji16) < ((rdOf ByteArray.empty t118 x16_2).size : Int)) = true := decide_eq_true c18
                              clear c18
                              by_cases c20 : (bt (rdOf ByteArray.empty t118 x16_2) (ji16)) = 45
                              · rw [if_pos c20] at H
                                have c20b0 : ((bt (rdOf ByteArray.empty t118 x16_2) (ji16)) == 45) = true := beq_iff_eq.mpr c20
                                have c20b1 : ((bt (rdOf ByteArray.empty t118 x16_2) (ji16)) != 45) = false := bne_eq_false_iff_eq.mpr c20
                                clear c20
                                obtain rfl := Option.some.inj H
                                have p121 : 0 ≤ (x16_2 : Int) := of_decide_eq_true (by first | (with_reducible assumption) | assumption)
                                have q121 : x16_2 < (t118.length : Int) := of_decide_eq_true (by first | (with_reducible assumption) | assumption)
                                obtain ⟨ad121, e121, hx121_0⟩ := Kd.at_string (Kd.R_reads' HO_14.out).2.2 x16_2 p121 q121
                                cases e121
                                replace p121 := eq_true p121
                                replace q121 := eq_true q121
                                have p14 : 0 ≤ (0 : Int) := (by omega)
                                have q14 : 0 < (rdOf ByteArray.empty t118 x16_2).size := (by have : (0 : Int) < ((rdOf ByteArray.empty t118 x16_2).size : Int) := of_decide_eq_true (by first | (with_reducible assumption) | assumption); omega)
                                have hx14 : ∀ h : 0 < (rdOf ByteArray.empty t118 x16_2).size, (((rdOf ByteArray.empty t118 x16_2)[0]'h).toNat : Int) = bt (rdOf ByteArray.empty t118 x16_2) 0 := bt_at (rdOf ByteArray.empty t118 x16_2) 0
                                clear p14
                                have qi14 : (0 < ((rdOf ByteArray.empty t118 x16_2).size : Int)) = True := eq_true (of_decide_eq_true (by first | (with_reducible assumption) | assumption))
                                replace q14 := eq_true q14
                                have p19 : 0 ≤ ((ji16) : Int) := of_decide_eq_true (by first | (with_reducible assumption) | assumption)
                                have q19 : (ji16) < ((rdOf ByteArray.empty t118 x16_2).size : Int) := of_decide_eq_true (by first | (with_reducible assumption) | assumption)
                                have hx19 := bt_at (rdOf ByteArray.empty t118 x16_2) (ji16)
                                replace p19 := eq_true p19
                                replace q19 := eq_true q19
                                go_wp2
                                go_ret
                                exact ⟨by first | rfl | (simp [errW_none, errW_some] <;> rfl) | (simp only [← hji16]; first | rfl | (simp [errW_none, errW_some] <;> rfl)) | (simp [*, errW_none, errW_some] <;> rfl), by repeat (first | (with_reducible first | exact HB.out | apply below_alloc | apply pw_below_drewN | apply below_drew1) | exact HB.out)⟩
                              · rw [if_neg c20] at H
                                have c20b0 : ((bt (rdOf ByteArray.empty t118 x16_2) (ji16)) == 45) = false := beq_eq_false_iff_ne.mpr c20
                                have c20b1 : ((bt (rdOf ByteArray.empty t118 x16_2) (ji16)) != 45) = true := bne_iff_ne.mpr c20
                                replace H := Option.bind_eq_some_iff.mp H
                                obtain ⟨t122, A210, H⟩ := H
                                replace H : (if t122 = true then (impl_ValidDomain.l0 k2 t118 (t118.length : Int) (wrap64 (x16_2 + 1))) else (some false)) = some r := H
                                have A21 := Aside0.mk A210
                                clear A210
                                by_cases c22 : t122 = true
                                · subst c22
                                  have H1 : (impl_ValidDomain.l0 k2 t118 (t118.length : Int) (wrap64 (x16_2 + 1))) = some r := by rw [if_pos rfl] at H; exact H
                                  clear H
                                  have H := H1
                                  clear H1
                                  have H' := Aside0.mk H
                                  clear H
                                  have p121 : 0 ≤ (x16_2 : Int) := of_decide_eq_true (by first | (with_reducible assumption) | assumption)
                                  have q121 : x16_2 < (t118.length : Int) := of_decide_eq_true (by first | (with_reducible assumption) | assumption)
                                  obtain ⟨ad121, e121, hx121_0⟩ := Kd.at_string (Kd.R_reads' HO_14.out).2.2 x16_2 p121 q121
                                  cases e121
                                  replace p121 := eq_true p121
                                  replace q121 := eq_true q121
                                  have p14 : 0 ≤ (0 : Int) := (by omega)
                                  have q14 : 0 < (rdOf ByteArray.empty t118 x16_2).size := (by have : (0 : Int) < ((rdOf ByteArray.empty t118 x16_2).size : Int) := of_decide_eq_true (by first | (with_reducible assumption) | assumption); omega)
                                  have hx14 : ∀ h : 0 < (rdOf ByteArray.empty t118 x16_2).size, (((rdOf ByteArray.empty t118 x16_2)[0]'h).toNat : Int) = bt (rdOf ByteArray.empty t118 x16_2) 0 := bt_at (rdOf ByteArray.empty t118 x16_2) 0
                                  clear p14
                                  have qi14 : (0 < ((rdOf ByteArray.empty t118 x16_2).size : Int)) = True := eq_true (of_decide_eq_true (by first | (with_reducible assumption) | assumption))
                                  replace q14 := eq_true q14
                                  have p19 : 0 ≤ ((ji16) : Int) := of_decide_eq_true (by first | (with_reducible assumption) | assumption)
                                  have q19 : (ji16) < ((rdOf ByteArray.empty t118 x16_2).size : Int) := of_decide_eq_true (by first | (with_reducible assumption) | assumption)
                                  have hx19 := bt_at (rdOf ByteArray.empty t118 x16_2) (ji16)
                                  replace p19 := eq_true p19
                                  replace q19 := eq_true q19
                                  go_wp2_with (first | (go_at_call 64; (with_reducible refine (impl_all_impl_ValidDomain_1.calls (rdOf ByteArray.empty t118 x16_2) true _ A21.out).mono ?_); rintro e w' ⟨rfl, ⟨nd, rfl⟩⟩))
                                  go_roundg k2
                                  case measure => have := HJ1.out; have := HK2.out; omega
                                  case rel => exact ⟨(wrap64 (x16_2 + 1)), (by first | rfl | (simp; done) | (simp [*]; done)), H', ⟨by have := HJ1.out; have := HK2.out; omega⟩, ⟨by (with_reducible repeat (first | apply Kd.R_alloc | apply Kd.R_drewN | apply Kd.R_drew)); exact HO_14.out⟩, ⟨by repeat (first | (with_reducible first | exact HB.out | apply below_alloc | apply pw_below_drewN | apply below_drew1) | exact HB.out)⟩⟩
                                · replace c22 := Bool.eq_false_iff.mpr c22
                                  subst c22
                                  have H1 : (some false) = some r := by rw [if_neg (show ¬ (false = true) by decide)] at H; exact H
                                  clear H
                                  have H := H1
                                  clear H1
                                  obtain rfl := Option.some.inj H
                                  have p121 : 0 ≤ (x16_2 : Int) := of_decide_eq_true (by first | (with_reducible assumption) | assumption)
                                  have q121 : x16_2 < (t118.length : Int) := of_decide_eq_true (by first | (with_reducible assumption) | assumption)
                                  obtain ⟨ad121, e121, hx121_0⟩ := Kd.at_string (Kd.R_reads' HO_14.out).2.2 x16_2 p121 q121
                                  cases e121
                                  replace p121 := eq_true p121
                                  replace q121 := eq_true q121
                                  have p14 : 0 ≤ (0 : Int) := (by omega)
                                  have q14 : 0 < (rdOf ByteArray.empty t118 x16_2).size := (by have : (0 : Int) < ((rdOf ByteArray.empty t118 x16_2).size : Int) := of_decide_eq_true (by first | (with_reducible assumption) | assumption); omega)
                                  have hx14 : ∀ h : 0 < (rdOf ByteArray.empty t118 x16_2).size, (((rdOf ByteArray.empty t118 x16_2)[0]'h).toNat : Int) = bt (rdOf ByteArray.empty t118 x16_2) 0 := bt_at (rdOf ByteArray.empty t118 x16_2) 0
                                  clear p14
                                  have qi14 : (0 < ((rdOf ByteArray.empty t118 x16_2).size : Int)) = True := eq_true (of_decide_eq_true (by first | (with_reducible assumption) | assumption))
                                  replace q14 := eq_true q14
                                  have p19 : 0 ≤ ((ji16) : Int) := of_decide_eq_true (by first | (with_reducible assumption) | assumption)
                                  have q19 : (ji16) < ((rdOf ByteArray.empty t118 x16_2).size : Int) := of_decide_eq_true (by first | (with_reducible assumption) | assumption)
                                  have hx19 := bt_at (rdOf ByteArray.empty t118 x16_2) (ji16)
                                  replace p19 := eq_true p19
                                  replace q19 := eq_true q19
                                  go_wp2_with (first | (go_at_call 64; (with_reducible refine (impl_all_impl_ValidDomain_1.calls (rdOf ByteArray.empty t118 x16_2) false _ A21.out).mono ?_); rintro e w' ⟨rfl, ⟨nd, rfl⟩⟩))
                                  go_ret
                                  exact ⟨by first | rfl | (simp [errW_none, errW_some] <;> rfl) | (simp only [← hji16]; first | rfl | (simp [errW_none, errW_some] <;> rfl)) | (simp [*, errW_none, errW_some] <;> rfl), by repeat (first | (with_reducible first | exact HB.out | apply below_alloc | apply pw_below_drewN | apply below_drew1) | exact HB.out)⟩
                            · rw [if_neg c18] at H
                              exact absurd H (by simp)
                          · rw [if_neg c17] at H
                            exact absurd H (by simp)
                      · rw [if_neg c13] at H
                        exact absurd H (by simp)
                · rw [if_neg c10] at H
                  exact absurd H (by simp)
              · rw [if_neg c9] at H
                exact absurd H (by simp)
            · rw [if_neg c8] at H
              have c8b0 : decide (x16_2 < (t118.length : Int)) = false := decide_eq_false c8
              clear c8
              obtain rfl := Option.some.inj H
              go_wp2
              go_ret
              exact ⟨by first | rfl | (simp [errW_none, errW_some] <;> rfl) | (simp [*, errW_none, errW_some] <;> rfl), by repeat (first | (with_reducible first | exact HB.out | apply below_alloc | apply pw_below_drewN | apply below_drew1) | exact HB.out)⟩

/-! ### laws_FnExactValidDomain: function 3 -/
def laws_FnExactValidDomain.f (k : Nat) (a0 : ByteArray) : Option (Bool) := if (a0.size : Int) > 1048576 then (some true) else ((spec_ValidDomain.f k a0).bind fun t123 => ((impl_ValidDomain.f k a0).bind fun t124 => (if (t124 != t123) = true then (some false) else (some true))))
theorem laws_FnExactValidDomain.mono : ∀ a0 k, LeO (laws_FnExactValidDomain.f k a0) (laws_FnExactValidDomain.f (k + 1) a0) := by
  intro a0 k
  unfold laws_FnExactValidDomain.f
  repeat' first
      | (with_reducible exact impl_ValidDomain.mono _ _)
      | (with_reducible exact spec_ValidDomain.mono _ _)
      | (with_reducible exact LeO.refl _)
      | (with_reducible exact LeO.none _)
      | (with_reducible refine LeO.ite ?_ ?_)
      | (with_reducible refine LeO.bind ?_ (fun _ => ?_))
      | exact impl_ValidDomain.mono _ _
      | exact spec_ValidDomain.mono _ _
      | exact LeO.none _
      | refine LeO.ite ?_ ?_
      | refine LeO.bind ?_ (fun _ => ?_)
set_option maxHeartbeats 8000000 in
set_option maxRecDepth 100000 in
theorem laws_FnExactValidDomain.calls (k : Nat) (a0 : ByteArray) (r : Bool) (w : World) (hGM : GlM w) (h : laws_FnExactValidDomain.f k a0 = some r) :
    Calls Tryd.prog 3 #[.string a0] w fun e w' => e = .returned (.bool r) ∧ Below w.heap.size w w' := by
  have HB := Aside0.mk (Below.refl w.heap.size w)
  have H : (if (a0.size : Int) > 1048576 then (some true) else ((spec_ValidDomain.f k a0).bind fun t123 => ((impl_ValidDomain.f k a0).bind fun t124 => (if (t124 != t123) = true then (some false) else (some true))))) = some r := h
  clear h
  by_cases c2 : (a0.size : Int) > 1048576
  · rw [if_pos c2] at H
    have c2b0 : decide (1048576 < (a0.size : Int)) = true := decide_eq_true c2
    have c2b1 : decide (1048576 < a0.size) = true := decide_eq_true (by omega)
    clear c2
    obtain rfl := Option.some.inj H
    go_enter Tryd.func3, Tryd.ntmps3
    go_wp2
    go_ret
    exact ⟨by first | rfl | (simp [errW_none, errW_some] <;> rfl) | (simp [*, errW_none, errW_some] <;> rfl), by repeat (first | (with_reducible first | exact HB.out | apply below_alloc | apply pw_below_drewN | apply below_drew1) | exact HB.out)⟩
  · rw [if_neg c2] at H
    have c2b0 : decide (1048576 < (a0.size : Int)) = false := decide_eq_false c2
    have c2b1 : decide (1048576 < a0.size) = false := decide_eq_false (by omega)
    clear c2
    replace H := Option.bind_eq_some_iff.mp H
    obtain ⟨t123, A30, H⟩ := H
    replace H : ((impl_ValidDomain.f k a0).bind fun t124 => (if (t124 != t123) = true then (some false) else (some true))) = some r := H
    have A3 := Aside0.mk A30
    clear A30
    replace H := Option.bind_eq_some_iff.mp H
    obtain ⟨t124, A40, H⟩ := H
    replace H : (if (t124 != t123) = true then (some false) else (some true)) = some r := H
    have A4 := Aside0.mk A40
    clear A40
    by_cases c5 : (t124 != t123) = true
    · rw [if_pos c5] at H
      have c5b0 : (t124 != t123) = true := c5
      (try (have c5b1 : decide (t124 = t123) = false := by simpa using c5))
      (try (have c5b2 : (t124 == t123) = false := by simpa using c5))
      (try (have c5b3 : ¬ (t124 = t123) := by simpa using c5))
      clear c5
      obtain rfl := Option.some.inj H
      go_enter Tryd.func3, Tryd.ntmps3
      go_wp2_with (first | ((with_reducible refine gate_callee (f := 17) rfl ?_); refine goesL_ (some 9) rfl rfl Tryd.func17 (by kernel_rfl) rfl #[.string a0] rfl (by (try simp only [List.map_toArray, List.map_cons, List.map_nil]); first | done | rfl | (simp only [List.length_drop, List.length_take]; rfl)) ?_; (with_reducible refine (spec_ValidDomain.calls k a0 t123 _ A3.out).mono ?_); rintro e w6 ⟨rfl, hb⟩; refine ⟨_, rfl, ?_⟩; have n0_ := Aside0.mk (below_step (by repeat (first | (with_reducible first | exact HB.out | apply below_alloc | apply pw_below_drewN | apply below_drew1) | exact HB.out)) hb); clear HB; have HB := n0_; clear n0_; (try clear hb); (try clear hb2); (try clear hk); (try clear hi)) | ((with_reducible refine gate_callee (f := 18) rfl ?_); refine goesL_ (some 11) rfl rfl Tryd.func18 (by kernel_rfl) rfl #[.string a0] rfl (by (try simp only [List.map_toArray, List.map_cons, List.map_nil]); first | done | rfl | (simp only [List.length_drop, List.length_take]; rfl)) ?_; (with_reducible refine (impl_ValidDomain.calls k a0 t124 _ ?side1 A4.out).mono ?_); (case side1 => exact GlM.below hGM (by repeat (first | (with_reducible first | exact HB.out | apply below_alloc | apply pw_below_drewN | apply below_drew1) | exact HB.out))); rintro e w7 ⟨rfl, hb⟩; refine ⟨_, rfl, ?_⟩; have n0_ := Aside0.mk (below_step (by repeat (first | (with_reducible first | exact HB.out | apply below_alloc | apply pw_below_drewN | apply below_drew1) | exact HB.out)) hb); clear HB; have HB := n0_; clear n0_; (try clear hb); (try clear hb2); (try clear hk); (try clear hi)))
      go_ret
      exact ⟨by first | rfl | (simp [errW_none, errW_some] <;> rfl) | (simp [*, errW_none, errW_some] <;> rfl), by repeat (first | (with_reducible first | exact HB.out | apply below_alloc | apply pw_below_drewN | apply below_drew1) | exact HB.out)⟩
    · rw [if_neg c5] at H
      have c5b0 : (t124 != t123) = false := by simpa using c5
      (try (have c5b1 : decide (t124 = t123) = true := by simpa using c5))
      (try (have c5b2 : (t124 == t123) = true := by simpa using c5))
      clear c5
      obtain rfl := Option.some.inj H
      go_enter Tryd.func3, Tryd.ntmps3
      go_wp2_with (first | ((with_reducible refine gate_callee (f := 17) rfl ?_); refine goesL_ (some 9) rfl rfl Tryd.func17 (by kernel_rfl) rfl #[.string a0] rfl (by (try simp only [List.map_toArray, List.map_cons, List.map_nil]); first | done | rfl | (simp only [List.length_drop, List.length_take]; rfl)) ?_; (with_reducible refine (spec_ValidDomain.calls k a0 t123 _ A3.out).mono ?_); rintro e w8 ⟨rfl, hb⟩; refine ⟨_, rfl, ?_⟩; have n0_ := Aside0.mk (below_step (by repeat (first | (with_reducible first | exact HB.out | apply below_alloc | apply pw_below_drewN | apply below_drew1) | exact HB.out)) hb); clear HB; have HB := n0_; clear n0_; (try clear hb); (try clear hb2); (try clear hk); (try clear hi)) | ((with_reducible refine gate_callee (f := 18) rfl ?_); refine goesL_ (some 11) rfl rfl Tryd.func18 (by kernel_rfl) rfl #[.string a0] rfl (by (try simp only [List.map_toArray, List.map_cons, List.map_nil]); first | done | rfl | (simp only [List.length_drop, List.length_take]; rfl)) ?_; (with_reducible refine (impl_ValidDomain.calls k a0 t124 _ ?side1 A4.out).mono ?_); (case side1 => exact GlM.below hGM (by repeat (first | (with_reducible first | exact HB.out | apply below_alloc | apply pw_below_drewN | apply below_drew1) | exact HB.out))); rintro e w9 ⟨rfl, hb⟩; refine ⟨_, rfl, ?_⟩; have n0_ := Aside0.mk (below_step (by repeat (first | (with_reducible first | exact HB.out | apply below_alloc | apply pw_below_drewN | apply below_drew1) | exact HB.out)) hb); clear HB; have HB := n0_; clear n0_; (try clear hb); (try clear hb2); (try clear hk); (try clear hi)))
      go_ret
      exact ⟨by first | rfl | (simp [errW_none, errW_some] <;> rfl) | (simp [*, errW_none, errW_some] <;> rfl), by repeat (first | (with_reducible first | exact HB.out | apply below_alloc | apply pw_below_drewN | apply below_drew1) | exact HB.out)⟩

/-! ### spec_l2has: function 69 -/
def spec_l2has.l0 : Nat → ByteArray → Int → Int → Option (Bool)
  | 0, _, _, _ => none
  | k + 1, x0, x1, x5 => if x5 < (x0.size : Int) then (if 0 ≤ x5 then (if (bt x0 x5) = x1 then (some true) else (spec_l2has.l0 k x0 x1 (wrap64 (x5 + 1)))) else (none)) else (some false)
def spec_l2has.f (k : Nat) (a0 : ByteArray) (a1 : Int) : Option (Bool) := spec_l2has.l0 k a0 a1 0
theorem spec_l2has.mono_l : ∀ k, (∀ y0 y1 y2, LeO (spec_l2has.l0 k y0 y1 y2) (spec_l2has.l0 (k + 1) y0 y1 y2))
  | 0 => fun _ _ _ r h => by simp [spec_l2has.l0] at h
  | k + 1 => by
    have ih0 := spec_l2has.mono_l k
    · intro y0 y1 y2
      unfold spec_l2has.l0
      repeat' first
      | (with_reducible exact ih0 _ _ _)
      | (with_reducible exact LeO.refl _)
      | (with_reducible exact LeO.none _)
      | (with_reducible refine LeO.ite ?_ ?_)
      | (with_reducible refine LeO.bind ?_ (fun _ => ?_))
      | exact ih0 _ _ _
      | exact LeO.none _
      | refine LeO.ite ?_ ?_
      | refine LeO.bind ?_ (fun _ => ?_)
theorem spec_l2has.mono : ∀ a0 a1 k, LeO (spec_l2has.f k a0 a1) (spec_l2has.f (k + 1) a0 a1) := by
  intro a0 a1 k
  have ih0 := spec_l2has.mono_l k
  unfold spec_l2has.f
  repeat' first
      | (with_reducible exact ih0 _ _ _)
      | (with_reducible exact LeO.refl _)
      | (with_reducible exact LeO.none _)
      | (with_reducible refine LeO.ite ?_ ?_)
      | (with_reducible refine LeO.bind ?_ (fun _ => ?_))
      | exact ih0 _ _ _
      | exact LeO.none _
      | refine LeO.ite ?_ ?_
      | refine LeO.bind ?_ (fun _ => ?_)
set_option maxHeartbeats 8000000 in
set_option maxRecDepth 100000 in
theorem spec_l2has.calls (k : Nat) (a0 : ByteArray) (a1 : Int) (r : Bool) (w : World) (h : spec_l2has.f k a0 a1 = some r) :
    Calls Tryd.prog 69 #[.string a0, .int .u8 a1] w fun e w' => e = .returned (.bool r) ∧ Drawn0 w w' := by
  have H : (spec_l2has.l0 k a0 a1 0) = some r := h
  clear h
  have H' := Aside0.mk H
  clear H
  go_enter Tryd.func69, Tryd.ntmps69
  go_wp2
  go_loopg [5] k (fun kq v5 w' => ∃ (x5_1 : Int), v5 = .int .i64 x5_1 ∧ Aside0 (spec_l2has.l0 kq a0 a1 x5_1 = some r) ∧ Aside0 (kq ≤ k) ∧ Drawn0 w w')
  case atStart => exact ⟨(0), (by first | rfl | (simp; done) | (simp [*]; done)), H', ⟨Nat.le_refl _⟩, by repeat (first | exact Drawn0.refl _ | apply Drawn0.step)⟩
  case round =>
    clear H'
    try clear p2
    obtain ⟨x5_1, rfl, HA, HK1, ⟨m1, rfl⟩⟩ := hrel
    cases gk with
    | zero => exact absurd HA.out (by simp [spec_l2has.l0])
    | succ k1 =>
      have H := HA.out
      clear HA
      simp only [spec_l2has.l0] at H
      by_cases c3 : x5_1 < (a0.size : Int)
      · rw [if_pos c3] at H
        have c3b0 : decide (x5_1 < (a0.size : Int)) = true := decide_eq_true c3
        clear c3
        by_cases c4 : 0 ≤ x5_1
        · rw [if_pos c4] at H
          have c4b0 : decide (0 ≤ x5_1) = true := decide_eq_true c4
          clear c4
          by_cases c6 : (bt a0 x5_1) = a1
          · rw [if_pos c6] at H
            have c6b0 : ((bt a0 x5_1) == a1) = true := beq_iff_eq.mpr c6
            have c6b1 : ((bt a0 x5_1) != a1) = false := bne_eq_false_iff_eq.mpr c6
            clear c6
            obtain rfl := Option.some.inj H
            have p5 : 0 ≤ (x5_1 : Int) := of_decide_eq_true (by first | (with_reducible assumption) | assumption)
            have q5 : x5_1 < (a0.size : Int) := of_decide_eq_true (by first | (with_reducible assumption) | assumption)
            have hx5 := bt_at a0 x5_1
            replace p5 := eq_true p5
            replace q5 := eq_true q5
            go_wp2
            go_ret
            exact ⟨by first | rfl | (simp; done) | (simp [*]; done), by repeat (first | exact Drawn0.refl _ | apply Drawn0.step)⟩
          · rw [if_neg c6] at H
            have c6b0 : ((bt a0 x5_1) == a1) = false := beq_eq_false_iff_ne.mpr c6
            have c6b1 : ((bt a0 x5_1) != a1) = true := bne_iff_ne.mpr c6
            have H' := Aside0.mk H
            clear H
            have p5 : 0 ≤ (x5_1 : Int) := of_decide_eq_true (by first | (with_reducible assumption) | assumption)
            have q5 : x5_1 < (a0.size : Int) := of_decide_eq_true (by first | (with_reducible assumption) | assumption)
            have hx5 := bt_at a0 x5_1
            replace p5 := eq_true p5
            replace q5 := eq_true q5
            go_wp2
            go_roundg k1
            case measure => have := HK1.out; omega
            case rel => exact ⟨(wrap64 (x5_1 + 1)), (by first | rfl | (simp; done) | (simp [*]; done)), H', ⟨by have := HK1.out; omega⟩, by repeat (first | exact Drawn0.refl _ | apply Drawn0.step)⟩
        · rw [if_neg c4] at H
          exact absurd H (by simp)
      · rw [if_neg c3] at H
        have c3b0 : decide (x5_1 < (a0.size : Int)) = false := decide_eq_false c3
        clear c3
        obtain rfl := Option.some.inj H
        go_wp2
        go_ret
        exact ⟨by first | rfl | (simp; done) | (simp [*]; done), by repeat (first | exact Drawn0.refl _ | apply Drawn0.step)⟩

/-! ### spec_ValidAddress: function 19 -/
mutual
def spec_ValidAddress.j0 : Nat → List ByteArray → Bool → Option (Bool)
  | 0, _, _ => none
  | k + 1, x3, x28 => if x28 = true then (some false) else (if 0 < (x3.length : Int) then ((spec_l2split.f k (rdOf ByteArray.empty x3 0) (⟨#[46]⟩ : ByteArray)).bind fun t132 => (spec_ValidAddress.l0 k t132 (t132.length : Int) 0)) else (none))
def spec_ValidAddress.l0 : Nat → List ByteArray → Int → Int → Option (Bool)
  | 0, _, _, _ => none
  | k + 1, x32, x33, x34 => if x34 < x33 then (if 0 ≤ x34 then (if x34 < (x32.length : Int) then (if (rdOf ByteArray.empty x32 x34).toList = ([] : List UInt8) then (some false) else (spec_ValidAddress.l1 k (rdOf ByteArray.empty x32 x34) 0 x32 x33 x34)) else (none)) else (none)) else (some true)
def spec_ValidAddress.l1 : Nat → ByteArray → Int → List ByteArray → Int → Int → Option (Bool)
  | 0, _, _, _, _, _ => none
  | k + 1, x5, x6, x32, x33, x34 => if x6 < (x5.size : Int) then (if 0 ≤ x6 then ((spec_l2letter.f (bt x5 x6)).bind fun t136 => (if t136 = true then (spec_ValidAddress.l1 k x5 (wrap64 (x6 + 1)) x32 x33 x34) else ((spec_l2has.f k (⟨#[43, 95, 45]⟩ : ByteArray) (bt x5 x6)).bind fun t137 => (if t137 = true then (spec_ValidAddress.l1 k x5 (wrap64 (x6 + 1)) x32 x33 x34) else (some false))))) else (none)) else (spec_ValidAddress.l0 k x32 x33 (wrap64 (x34 + 1)))
end
def spec_ValidAddress.f (k : Nat) (a0 : ByteArray) : Option (Bool) := if (a0.size : Int) > 160 then (some false) else ((spec_l2split.f k a0 (⟨#[64]⟩ : ByteArray)).bind fun t125 => (if (t125.length : Int) = 2 then (if 0 < (t125.length : Int) then (if ((rdOf ByteArray.empty t125 0).size : Int) > 64 then (spec_ValidAddress.j0 k t125 true) else (if 1 < (t125.length : Int) then ((spec_ValidDomain.f k (rdOf ByteArray.empty t125 1)).bind fun t130 => (spec_ValidAddress.j0 k t125 (!t130))) else (none))) else (none)) else (spec_ValidAddress.j0 k t125 true)))
theorem spec_ValidAddress.mono_l : ∀ k, (∀ y0 y1, LeO (spec_ValidAddress.j0 k y0 y1) (spec_ValidAddress.j0 (k + 1) y0 y1)) ∧ (∀ y0 y1 y2, LeO (spec_ValidAddress.l0 k y0 y1 y2) (spec_ValidAddress.l0 (k + 1) y0 y1 y2)) ∧ (∀ y0 y1 y2 y3 y4, LeO (spec_ValidAddress.l1 k y0 y1 y2 y3 y4) (spec_ValidAddress.l1 (k + 1) y0 y1 y2 y3 y4))
  | 0 => ⟨fun _ _ r h => by simp [spec_ValidAddress.j0] at h, fun _ _ _ r h => by simp [spec_ValidAddress.l0] at h, fun _ _ _ _ _ r h => by simp [spec_ValidAddress.l1] at h⟩
  | k + 1 => by
    obtain ⟨ih0, ih1, ih2⟩ := spec_ValidAddress.mono_l k
    refine ⟨?_, ?_, ?_⟩
    · intro y0 y1
      unfold spec_ValidAddress.j0
      repeat' first
      | (with_reducible exact ih0 _ _)
      | (with_reducible exact ih1 _ _ _)
      | (with_reducible exact ih2 _ _ _ _ _)
      | (with_reducible exact spec_ValidDomain.mono _ _)
      | (with_reducible exact spec_l2has.mono _ _ _)
      | (with_reducible exact spec_l2split.mono _ _ _)
      | (with_reducible exact LeO.refl _)
      | (with_reducible exact LeO.none _)
      | (with_reducible refine LeO.ite ?_ ?_)
      | (with_reducible refine LeO.bind ?_ (fun _ => ?_))
      | exact ih0 _ _
      | exact ih1 _ _ _
      | exact ih2 _ _ _ _ _
      | exact spec_ValidDomain.mono _ _
      | exact spec_l2has.mono _ _ _
      | exact spec_l2split.mono _ _ _
      | exact LeO.none _
      | refine LeO.ite ?_ ?_
      | refine LeO.bind ?_ (fun _ => ?_)
    · intro y0 y1 y2
      unfold spec_ValidAddress.l0
      repeat' first
      | (with_reducible exact ih0 _ _)
      | (with_reducible exact ih1 _ _ _)
      | (with_reducible exact ih2 _ _ _ _ _)
      | (with_reducible exact spec_ValidDomain.mono _ _)
      | (with_reducible exact spec_l2has.mono _ _ _)
      | (with_reducible exact spec_l2split.mono _ _ _)
      | (with_reducible exact LeO.refl _)
      | (with_reducible exact LeO.none _)
      | (with_reducible refine LeO.ite ?_ ?_)
      | (with_reducible refine LeO.bind ?_ (fun _ => ?_))
      | exact ih0 _ _
      | exact ih1 _ _ _
      | exact ih2 _ _ _ _ _
      | exact spec_ValidDomain.mono _ _
      | exact spec_l2has.mono _ _ _
      | exact spec_l2split.mono _ _ _
      | exact LeO.none _
      | refine LeO.ite ?_ ?_
      | refine LeO.bind ?_ (fun _ => ?_)
    · intro y0 y1 y2 y3 y4
      unfold spec_ValidAddress.l1
      repeat' first
      | (with_reducible exact ih0 _ _)
      | (with_reducible exact ih1 _ _ _)
      | (with_reducible exact ih2 _ _ _ _ _)
      | (with_reducible exact spec_ValidDomain.mono _ _)
      | (with_reducible exact spec_l2has.mono _ _ _)
      | (with_reducible exact spec_l2split.mono _ _ _)
      | (with_reducible exact LeO.refl _)
      | (with_reducible exact LeO.none _)
      | (with_reducible refine LeO.ite ?_ ?_)
      | (with_reducible refine LeO.bind ?_ (fun _ => ?_))
      | exact ih0 _ _
      | exact ih1 _ _ _
      | exact ih2 _ _ _ _ _
      | exact spec_ValidDomain.mono _ _
      | exact spec_l2has.mono _ _ _
      | exact spec_l2split.mono _ _ _
      | exact LeO.none _
      | refine LeO.ite ?_ ?_
      | refine LeO.bind ?_ (fun _ => ?_)
theorem spec_ValidAddress.mono : ∀ a0 k, LeO (spec_ValidAddress.f k a0) (spec_ValidAddress.f (k + 1) a0) := by
  intro a0 k
  obtain ⟨ih0, ih1, ih2⟩ := spec_ValidAddress.mono_l k
  unfold spec_ValidAddress.f
  repeat' first
      | (with_reducible exact ih0 _ _)
      | (with_reducible exact ih1 _ _ _)
      | (with_reducible exact ih2 _ _ _ _ _)
      | (with_reducible exact spec_ValidDomain.mono _ _)
      | (with_reducible exact spec_l2has.mono _ _ _)
      | (with_reducible exact spec_l2split.mono _ _ _)
      | (with_reducible exact LeO.refl _)
      | (with_reducible exact LeO.none _)
      | (with_reducible refine LeO.ite ?_ ?_)
      | (with_reducible refine LeO.bind ?_ (fun _ => ?_))
      | exact ih0 _ _
      | exact ih1 _ _ _
      | exact ih2 _ _ _ _ _
      | exact spec_ValidDomain.mono _ _
      | exact spec_l2has.mono _ _ _
      | exact spec_l2split.mono _ _ _
      | exact LeO.none _
      | refine LeO.ite ?_ ?_
      | refine LeO.bind ?_ (fun _ => ?_)
set_option maxHeartbeats 8000000 in
set_option maxRecDepth 100000 in
theorem spec_ValidAddress.calls (k : Nat) (a0 : ByteArray) (r : Bool) (w : World) (h : spec_ValidAddress.f k a0 = some r) :
    Calls Tryd.prog 19 #[.string a0] w fun e w' => e = .returned (.bool r) ∧ Below w.heap.size w w' := by
  have HB := Aside0.mk (Below.refl w.heap.size w)
  have H : (if (a0.size : Int) > 160 then (some false) else ((spec_l2split.f k a0 (⟨#[64]⟩ : ByteArray)).bind fun t125 => (if (t125.length : Int) = 2 then (if 0 < (t125.length : Int) then (if ((rdOf ByteArray.empty t125 0).size : Int) > 64 then (spec_ValidAddress.j0 k t125 true) else (if 1 < (t125.length : Int) then ((spec_ValidDomain.f k (rdOf ByteArray.empty t125 1)).bind fun t130 => (spec_ValidAddress.j0 k t125 (!t130))) else (none))) else (none)) else (spec_ValidAddress.j0 k t125 true)))) = some r := h
  clear h
  by_cases c2 : (a0.size : Int) > 160
  · rw [if_pos c2] at H
    have c2b0 : decide (160 < (a0.size : Int)) = true := decide_eq_true c2
    have c2b1 : decide (160 < a0.size) = true := decide_eq_true (by omega)
    clear c2
    obtain rfl := Option.some.inj H
    go_enter Tryd.func19, Tryd.ntmps19
    go_wp2
    go_ret
    exact ⟨by first | rfl | (simp [errW_none, errW_some] <;> rfl) | (simp [*, errW_none, errW_some] <;> rfl), by repeat (first | (with_reducible first | exact HB.out | apply below_alloc | apply pw_below_drewN | apply below_drew1) | exact HB.out)⟩
  · rw [if_neg c2] at H
    have c2b0 : decide (160 < (a0.size : Int)) = false := decide_eq_false c2
    have c2b1 : decide (160 < a0.size) = false := decide_eq_false (by omega)
    clear c2
    replace H := Option.bind_eq_some_iff.mp H
    obtain ⟨t125, A30, H⟩ := H
    replace H : (if (t125.length : Int) = 2 then (if 0 < (t125.length : Int) then (if ((rdOf ByteArray.empty t125 0).size : Int) > 64 then (spec_ValidAddress.j0 k t125 true) else (if 1 < (t125.length : Int) then ((spec_ValidDomain.f k (rdOf ByteArray.empty t125 1)).bind fun t130 => (spec_ValidAddress.j0 k t125 (!t130))) else (none))) else (none)) else (spec_ValidAddress.j0 k t125 true)) = some r := H
    have A3 := Aside0.mk A30
    clear A30
    have HC4 := Aside0.mk H
    clear H
    go_enter Tryd.func19, Tryd.ntmps19
    go_upto_region 4 with (first | ((with_reducible refine gate_callee (f := 61) rfl ?_); refine goesL_ (some 11) rfl rfl Tryd.func61 (by kernel_rfl) rfl #[.string a0, .string (⟨#[64]⟩ : ByteArray)] rfl (by (try simp only [List.map_toArray, List.map_cons, List.map_nil]); first | done | rfl | (simp only [List.length_drop, List.length_take]; rfl)) ?_; (with_reducible refine (spec_l2split.calls k a0 (⟨#[64]⟩ : ByteArray) t125 _ A3.out).mono ?_); rintro e w5 ⟨v126, rfl, ho0, hb⟩; refine ⟨_, rfl, ?_⟩; have n0_ := Aside0.mk (Kd.R_lower ho0 (below_size (by repeat (first | (with_reducible first | exact HB.out | apply below_alloc | apply pw_below_drewN | apply below_drew1) | exact HB.out)))); have n1_ := Aside0.mk (below_step (by repeat (first | (with_reducible first | exact HB.out | apply below_alloc | apply pw_below_drewN | apply below_drew1) | exact HB.out)) hb); clear HB; have HO127 := n0_; have HB := n1_; clear n0_ n1_; (try clear hb); (try clear hb2); (try clear hk); (try clear hi); (try clear ho0)))
    (try simp only [Act.put, List.setIfInBounds_toArray, List.set_cons_zero, List.set_cons_succ])
    go_cut [28] (fun v28 wc => ∃ (kq : Nat) (x28_3 : Bool), v28 = .bool x28_3 ∧ Aside0 (spec_ValidAddress.j0 kq t125 x28_3 = some r) ∧ Aside0 (kq ≤ k) ∧ Aside0 (Kd.R Kd.string 9 wc w.heap.size (fun _ => True) v126 t125) ∧ Aside0 (Below w.heap.size w wc))
    case first =>
      have H := HC4.out
      clear HC4
      by_cases c6 : (t125.length : Int) = 2
      · rw [if_pos c6] at H
        have c6b0 : ((t125.length : Int) == 2) = true := beq_iff_eq.mpr c6
        have c6b1 : ((t125.length : Int) != 2) = false := bne_eq_false_iff_eq.mpr c6
        clear c6
        (first | rw [c6b0] | (simp only [i64_w, i32_w]; rw [c6b0]) | skip)
        by_cases c7 : 0 < (t125.length : Int)
        · rw [if_pos c7] at H
          have c7b0 : decide (0 < (t125.length : Int)) = true := decide_eq_true c7
          have c7b1 : decide (0 < t125.length) = true := decide_eq_true (by omega)
          clear c7
          by_cases c8 : ((rdOf ByteArray.empty t125 0).size : Int) > 64
          · rw [if_pos c8] at H
            have c8b0 : decide (64 < ((rdOf ByteArray.empty t125 0).size : Int)) = true := decide_eq_true c8
            have c8b1 : decide (64 < (rdOf ByteArray.empty t125 0).size) = true := decide_eq_true (by omega)
            clear c8
            have H' := Aside0.mk H
            clear H
            obtain ⟨Ao9, co9, eo9⟩ := Kd.R_slice HO127.out
            subst eo9
            have p128 : 0 ≤ (0 : Int) := (by omega)
            have q128 : 0 < (t125.length : Int) := of_decide_eq_true (by first | (with_reducible assumption) | assumption)
            obtain ⟨ad128, e128, hx128_0⟩ := Kd.at_string (Kd.R_reads' HO127.out).2.2 0 p128 q128
            cases e128
            have qi128 : (0 < t125.length) = True := eq_true (by omega)
            (try rw [show ((0 : Int)).toNat = 0 from rfl] at hx128_0)
            (try rw [Addr.add_zero'] at hx128_0)
            replace p128 := eq_true p128
            replace q128 := eq_true q128
            go_wp2
            go_meet
            case rel => exact ⟨_, (true), (by first | rfl | (simp; done) | (simp [*]; done)), H', ⟨by first | omega | exact Nat.le_refl _⟩, ⟨by (with_reducible repeat (first | apply Kd.R_alloc | apply Kd.R_drewN | apply Kd.R_drew)); exact HO127.out⟩, ⟨by repeat (first | (with_reducible first | exact HB.out | apply below_alloc | apply pw_below_drewN | apply below_drew1) | exact HB.out)⟩⟩
          · rw [if_neg c8] at H
            have c8b0 : decide (64 < ((rdOf ByteArray.empty t125 0).size : Int)) = false := decide_eq_false c8
            have c8b1 : decide (64 < (rdOf ByteArray.empty t125 0).size) = false := decide_eq_false (by omega)
            clear c8
            by_cases c10 : 1 < (t125.length : Int)
            · rw [if_pos c10] at H
              have c10b0 : decide (1 < (t125.length : Int)) = true := decide_eq_true c10
              have c10b1 : decide (1 < t125.length) = true := decide_eq_true (by omega)
              clear c10
              replace H := Option.bind_eq_some_iff.mp H
              obtain ⟨t130, A110, H⟩ := H
              replace H : (spec_ValidAddress.j0 k t125 (!t130)) = some r := H
              have A11 := Aside0.mk A110
              clear A110
              have H' := Aside0.mk H
              clear H
              obtain ⟨Ao12, co12, eo12⟩ := Kd.R_slice HO127.out
              subst eo12
              have p128 : 0 ≤ (0 : Int) := (by omega)
              have q128 : 0 < (t125.length : Int) := of_decide_eq_true (by first | (with_reducible assumption) | assumption)
              obtain ⟨ad128, e128, hx128_0⟩ := Kd.at_string (Kd.R_reads' HO127.out).2.2 0 p128 q128
              cases e128
              have qi128 : (0 < t125.length) = True := eq_true (by omega)
              (try rw [show ((0 : Int)).toNat = 0 from rfl] at hx128_0)
              (try rw [Addr.add_zero'] at hx128_0)
              replace p128 := eq_true p128
              replace q128 := eq_true q128
              have p129 : 0 ≤ (1 : Int) := (by omega)
              have q129 : 1 < (t125.length : Int) := of_decide_eq_true (by first | (with_reducible assumption) | assumption)
              obtain ⟨ad129, e129, hx129_0⟩ := Kd.at_string (Kd.R_reads' HO127.out).2.2 1 p129 q129
              obtain rfl : ad128 = ad129 := (by injection e129)
              (try simp only [show (1 : Int).toNat = 1 from rfl, Nat.reduceMul, Nat.reduceEqDiff, Go.Addr.add, ↓reduceIte] at hx129_0)
              have qi129 : (1 < t125.length) = True := eq_true (by omega)
              (try rw [show ((1 : Int)).toNat = 1 from rfl] at hx129_0)
              replace p129 := eq_true p129
              replace q129 := eq_true q129
              go_wp2_with (first | (go_at_call 17; (with_reducible refine (spec_ValidDomain.calls k (rdOf ByteArray.empty t125 1) t130 _ A11.out).mono ?_); rintro e w13 ⟨rfl, hb⟩; have n0_ := Aside0.mk (Kd.R_below (by (with_reducible repeat (first | apply Kd.R_alloc | apply Kd.R_drewN | apply Kd.R_drew)); exact HO127.out) hb); have n1_ := Aside0.mk (below_step (by repeat (first | (with_reducible first | exact HB.out | apply below_alloc | apply pw_below_drewN | apply below_drew1) | exact HB.out)) hb); clear HO127; clear HB; have HO127 := n0_; have HB := n1_; clear n0_ n1_; (try clear hb); (try clear hb2); (try clear hk); (try clear hi)))
              go_meet
              case rel => exact ⟨_, (!t130), (by first | rfl | (simp; done) | (simp [*]; done)), H', ⟨by first | omega | exact Nat.le_refl _⟩, ⟨by (with_reducible repeat (first | apply Kd.R_alloc | apply Kd.R_drewN | apply Kd.R_drew)); exact HO127.out⟩, ⟨by repeat (first | (with_reducible first | exact HB.out | apply below_alloc | apply pw_below_drewN | apply below_drew1) | exact HB.out)⟩⟩
            · rw [if_neg c10] at H
              exact absurd H (by simp)
        · rw [if_neg c7] at H
          exact absurd H (by simp)
      · rw [if_neg c6] at H
        have c6b0 : ((t125.length : Int) == 2) = false := beq_eq_false_iff_ne.mpr c6
        have c6b1 : ((t125.length : Int) != 2) = true := bne_iff_ne.mpr c6
        (first | rw [c6b0] | (simp only [i64_w, i32_w]; rw [c6b0]) | skip)
        have H' := Aside0.mk H
        clear H
        obtain ⟨Ao14, co14, eo14⟩ := Kd.R_slice HO127.out
        subst eo14
        go_wp2
        go_meet
        case rel => exact ⟨_, (true), (by first | rfl | (simp; done) | (simp [*]; done)), H', ⟨by first | omega | exact Nat.le_refl _⟩, ⟨by (with_reducible repeat (first | apply Kd.R_alloc | apply Kd.R_drewN | apply Kd.R_drew)); exact HO127.out⟩, ⟨by repeat (first | (with_reducible first | exact HB.out | apply below_alloc | apply pw_below_drewN | apply below_drew1) | exact HB.out)⟩⟩
    case rest =>
      clear HC4
      try clear c1
      try clear p1
      try clear q1
      try clear hx1
      try clear qi1
      try clear c2
      try clear c2b0
      try clear c2b1
      try clear p2
      try clear c6
      try clear c6b0
      try clear c6b1
      try clear c7
      try clear c7b0
      try clear c7b1
      try clear c8
      try clear c8b0
      try clear c8b1
      try clear c10
      try clear c10b0
      try clear c10b1
      try clear p12
      try clear q12
      try clear hx12
      try clear qi12
      try clear hx128_0
      try clear hx129_0
      try clear p128
      try clear p129
      try clear q128
      try clear q129
      obtain ⟨kq, x28_3, rfl, HA, HJ3, HO_3, HB⟩ := hcut
      cases kq with
      | zero => exact absurd HA.out (by simp [spec_ValidAddress.j0])
      | succ kj3 =>
        have H := HA.out
        clear HA
        simp only [spec_ValidAddress.j0] at H
        by_cases c15 : x28_3 = true
        · subst c15
          have H1 : (some false) = some r := by rw [if_pos rfl] at H; exact H
          clear H
          have H := H1
          clear H1
          obtain rfl := Option.some.inj H
          go_wp2
          go_ret
          exact ⟨by first | rfl | (simp [errW_none, errW_some] <;> rfl) | (simp [*, errW_none, errW_some] <;> rfl), by repeat (first | (with_reducible first | exact HB.out | apply below_alloc | apply pw_below_drewN | apply below_drew1) | exact HB.out)⟩
        · replace c15 := Bool.eq_false_iff.mpr c15
          subst c15
          have H1 : (if 0 < (t125.length : Int) then ((spec_l2split.f kj3 (rdOf ByteArray.empty t125 0) (⟨#[46]⟩ : ByteArray)).bind fun t132 => (spec_ValidAddress.l0 kj3 t132 (t132.length : Int) 0)) else (none)) = some r := by rw [if_neg (show ¬ (false = true) by decide)] at H; exact H
          clear H
          have H := H1
          clear H1
          by_cases c16 : 0 < (t125.length : Int)
          · rw [if_pos c16] at H
            have c16b0 : decide (0 < (t125.length : Int)) = true := decide_eq_true c16
            have c16b1 : decide (0 < t125.length) = true := decide_eq_true (by omega)
            clear c16
            replace H := Option.bind_eq_some_iff.mp H
            obtain ⟨t132, A170, H⟩ := H
            replace H : (spec_ValidAddress.l0 kj3 t132 (t132.length : Int) 0) = some r := H
            have A17 := Aside0.mk A170
            clear A170
            have H' := Aside0.mk H
            clear H
            obtain ⟨Ao18, co18, eo18⟩ := Kd.R_slice HO_3.out
            subst eo18
            have p131 : 0 ≤ (0 : Int) := (by omega)
            have q131 : 0 < (t125.length : Int) := of_decide_eq_true (by first | (with_reducible assumption) | assumption)
            obtain ⟨ad131, e131, hx131_0⟩ := Kd.at_string (Kd.R_reads' HO_3.out).2.2 0 p131 q131
            cases e131
            have qi131 : (0 < t125.length) = True := eq_true (by omega)
            (try rw [show ((0 : Int)).toNat = 0 from rfl] at hx131_0)
            (try rw [Addr.add_zero'] at hx131_0)
            replace p131 := eq_true p131
            replace q131 := eq_true q131
            go_wp2_with (first | ((with_reducible refine gate_callee (f := 61) rfl ?_); refine goesL_ (some 32) rfl rfl Tryd.func61 (by kernel_rfl) rfl #[.string (rdOf ByteArray.empty t125 0), .string (⟨#[46]⟩ : ByteArray)] rfl (by (try simp only [List.map_toArray, List.map_cons, List.map_nil]); first | done | rfl | (simp only [List.length_drop, List.length_take]; rfl)) ?_; (with_reducible refine (spec_l2split.calls kj3 (rdOf ByteArray.empty t125 0) (⟨#[46]⟩ : ByteArray) t132 _ A17.out).mono ?_); rintro e w19 ⟨v133, rfl, ho0, hb⟩; refine ⟨_, rfl, ?_⟩; have n0_ := Aside0.mk (Kd.R_elder' (by (with_reducible repeat (first | apply Kd.R_alloc | apply Kd.R_drewN | apply Kd.R_drew)); exact HO_3.out) (Kd.R_base ho0) hb); have n1_ := Aside0.mk (Kd.R_lower (Kd.R_new' ho0 (Kd.R_lt (by (with_reducible repeat (first | apply Kd.R_alloc | apply Kd.R_drewN | apply Kd.R_drew)); exact HO_3.out))) (below_size (by repeat (first | (with_reducible first | exact HB.out | apply below_alloc | apply pw_below_drewN | apply below_drew1) | exact HB.out)))); have n2_ := Aside0.mk (below_step (by repeat (first | (with_reducible first | exact HB.out | apply below_alloc | apply pw_below_drewN | apply below_drew1) | exact HB.out)) hb); clear HO_3; clear HB; have HO_3 := n0_; have HO134 := n1_; have HB := n2_; clear n0_ n1_ n2_; (try clear hb); (try clear hb2); (try clear hk); (try clear hi); (try clear ho0); obtain ⟨Ao20, co20, eo20⟩ := Kd.R_slice HO134.out; subst eo20))
            go_loopg [34] kj3 (fun kq v34 w' => ∃ (x34_2 : Int), v34 = .int .i64 x34_2 ∧ Aside0 (spec_ValidAddress.l0 kq t132 (t132.length : Int) x34_2 = some r) ∧ Aside0 (kq ≤ kj3) ∧ Aside0 (Kd.R Kd.string 9 w' w.heap.size (fun _ => True) (.slice Ao20 t132.length co20) t132) ∧ Aside0 (Below w.heap.size w w'))
            case atStart => exact ⟨(0), (by first | rfl | (simp; done) | (simp [*]; done)), H', ⟨Nat.le_refl _⟩, ⟨by (with_reducible repeat (first | apply Kd.R_alloc | apply Kd.R_drewN | apply Kd.R_drew)); exact Kd.R_mono HO134.out (fun _ hk => trivial)⟩, ⟨by repeat (first | (with_reducible first | exact HB.out | apply below_alloc | apply pw_below_drewN | apply below_drew1) | exact HB.out)⟩⟩
            case round =>
              clear H'
              try clear c1
              try clear p1
              try clear q1
              try clear hx1
              try clear qi1
              try clear c2
              try clear c2b0
              try clear c2b1
              try clear p2
              try clear c6
              try clear c6b0
              try clear c6b1
              try clear c7
              try clear c7b0
              try clear c7b1
              try clear c8
              try clear c8b0
              try clear c8b1
              try clear c10
              try clear c10b0
              try clear c10b1
              try clear p12
              try clear q12
              try clear hx12
              try clear qi12
              try clear p13
              try clear q13
              try clear hx13
              try clear qi13
              try clear c15
              try clear c16
              try clear c16b0
              try clear c16b1
              try clear c19
              try clear hx128_0
              try clear hx129_0
              try clear hx131_0
              try clear p1
              try clear p12
              try clear p128
              try clear p129
              try clear p131
              try clear p2
              try clear q1
              try clear q12
              try clear q128
              try clear q129
              try clear q131
              obtain ⟨x34_2, rfl, HA, HK2, HO_32, HB⟩ := hrel
              cases gk with
              | zero => exact absurd HA.out (by simp [spec_ValidAddress.l0])
              | succ k2 =>
                have H := HA.out
                clear HA
                simp only [spec_ValidAddress.l0] at H
                by_cases c21 : x34_2 < (t132.length : Int)
                · rw [if_pos c21] at H
                  have c21b0 : decide (x34_2 < (t132.length : Int)) = true := decide_eq_true c21
                  clear c21
                  by_cases c22 : 0 ≤ x34_2
                  · rw [if_pos c22] at H
                    have c22b0 : decide (0 ≤ x34_2) = true := decide_eq_true c22
                    clear c22
                    by_cases c23 : x34_2 < (t132.length : Int)
                    · rw [if_pos c23] at H
                      have c23b0 : decide (x34_2 < (t132.length : Int)) = true := decide_eq_true c23
                      clear c23
                      by_cases c24 : (rdOf ByteArray.empty t132 x34_2).toList = ([] : List UInt8)
                      · rw [if_pos c24] at H
                        have c24b0 : ((rdOf ByteArray.empty t132 x34_2).toList == ([] : List UInt8)) = true := beq_iff_eq.mpr c24
                        have c24b1 : ((rdOf ByteArray.empty t132 x34_2).toList != ([] : List UInt8)) = false := bne_eq_false_iff_eq.mpr c24
                        clear c24
                        obtain rfl := Option.some.inj H
                        have p135 : 0 ≤ (x34_2 : Int) := of_decide_eq_true (by first | (with_reducible assumption) | assumption)
                        have q135 : x34_2 < (t132.length : Int) := of_decide_eq_true (by first | (with_reducible assumption) | assumption)
                        obtain ⟨ad135, e135, hx135_0⟩ := Kd.at_string (Kd.R_reads' HO_32.out).2.2 x34_2 p135 q135
                        cases e135
                        replace p135 := eq_true p135
                        replace q135 := eq_true q135
                        go_wp2
                        go_ret
                        exact ⟨by first | rfl | (simp [errW_none, errW_some] <;> rfl) | (simp [*, errW_none, errW_some] <;> rfl), by repeat (first | (with_reducible first | exact HB.out | apply below_alloc | apply pw_below_drewN | apply below_drew1) | exact HB.out)⟩
                      · rw [if_neg c24] at H
                        have c24b0 : ((rdOf ByteArray.empty t132 x34_2).toList == ([] : List UInt8)) = false := beq_eq_false_iff_ne.mpr c24
                        have c24b1 : ((rdOf ByteArray.empty t132 x34_2).toList != ([] : List UInt8)) = true := bne_iff_ne.mpr c24
                        have H' := Aside0.mk H
                        clear H
                        have p135 : 0 ≤ (x34_2 : Int) := of_decide_eq_true (by first | (with_reducible assumption) | assumption)
                        have q135 : x34_2 < (t132.length : Int) := of_decide_eq_true (by first | (with_reducible assumption) | assumption)
                        obtain ⟨ad135, e135, hx135_0⟩ := Kd.at_string (Kd.R_reads' HO_32.out).2.2 x34_2 p135 q135
                        cases e135
                        replace p135 := eq_true p135
                        replace q135 := eq_true q135
                        go_wp2
                        go_loopg [6] k2 (fun kq v6 w' => ∃ (x6_3 : Int), v6 = .int .i64 x6_3 ∧ Aside0 (spec_ValidAddress.l1 kq (rdOf ByteArray.empty t132 x34_2) x6_3 t132 (t132.length : Int) x34_2 = some r) ∧ Aside0 (kq ≤ k2) ∧ Aside0 (Kd.R Kd.string 9 w' w.heap.size (fun _ => True) (.slice (some ad135) t132.length co20) t132) ∧ Aside0 (Below w.heap.size w w'))
                        case atStart => exact ⟨(0), (by first | rfl | (simp; done) | (simp [*]; done)), H', ⟨Nat.le_refl _⟩, ⟨by (with_reducible repeat (first | apply Kd.R_alloc | apply Kd.R_drewN | apply Kd.R_drew)); exact HO_32.out⟩, ⟨by repeat (first | (with_reducible first | exact HB.out | apply below_alloc | apply pw_below_drewN | apply below_drew1) | exact HB.out)⟩⟩
                        case round =>
                          clear H'
                          try clear c1
                          try clear p1
                          try clear q1
                          try clear hx1
                          try clear qi1
                          try clear c2
                          try clear c2b0
                          try clear c2b1
                          try clear p2
                          try clear c6
                          try clear c6b0
                          try clear c6b1
                          try clear c7
                          try clear c7b0
                          try clear c7b1
                          try clear c8
                          try clear c8b0
                          try clear c8b1
                          try clear c10
                          try clear c10b0
                          try clear c10b1
                          try clear p12
                          try clear q12
                          try clear hx12
                          try clear qi12
                          try clear p13
                          try clear q13
                          try clear hx13
                          try clear qi13
                          try clear c15
                          try clear c16
                          try clear c16b0
                          try clear c16b1
                          try clear c19
                          try clear c21
                          try clear c21b0
                          try clear c22
                          try clear c22b0
                          try clear c23
                          try clear c23b0
                          try clear c24
                          try clear c24b0
                          try clear c24b1
                          try clear hx128_0
                          try clear hx129_0
                          try clear hx131_0
                          try clear hx135_0
                          try clear p1
                          try clear p12
                          try clear p128
                          try clear p129
                          try clear p13
                          try clear p131
                          try clear p135
                          try clear p2
                          try clear q1
                          try clear q12
                          try clear q128
                          try clear q129
                          try clear q13
                          try clear q131
                          try clear q135
                          obtain ⟨x6_3, rfl, HA, HK3, HO_32, HB⟩ := hrel
                          cases gk with
                          | zero => exact absurd HA.out (by simp [spec_ValidAddress.l1])
                          | succ k3 =>
                            have H := HA.out
                            clear HA
                            simp only [spec_ValidAddress.l1] at H
                            by_cases c25 : x6_3 < ((rdOf ByteArray.empty t132 x34_2).size : Int)
                            · rw [if_pos c25] at H
                              have c25b0 : decide (x6_3 < ((rdOf ByteArray.empty t132 x34_2).size : Int)) = true := decide_eq_true c25
                              clear c25
                              by_cases c26 : 0 ≤ x6_3
                              · rw [if_pos c26] at H
                                have c26b0 : decide (0 ≤ x6_3) = true := decide_eq_true c26
                                clear c26
                                replace H := Option.bind_eq_some_iff.mp H
                                obtain ⟨t136, A280, H⟩ := H
                                replace H : (if t136 = true then (spec_ValidAddress.l1 k3 (rdOf ByteArray.empty t132 x34_2) (wrap64 (x6_3 + 1)) t132 (t132.length : Int) x34_2) else ((spec_l2has.f k3 (⟨#[43, 95, 45]⟩ : ByteArray) (bt (rdOf ByteArray.empty t132 x34_2) x6_3)).bind fun t137 => (if t137 = true then (spec_ValidAddress.l1 k3 (rdOf ByteArray.empty t132 x34_2) (wrap64 (x6_3 + 1)) t132 (t132.length : Int) x34_2) else (some false)))) = some r := H
                                have A28 := Aside0.mk A280
                                clear A280
                                by_cases c29 : t136 = true
                                · subst c29
                                  have H1 : (spec_ValidAddress.l1 k3 (rdOf ByteArray.empty t132 x34_2) (wrap64 (x6_3 + 1)) t132 (t132.length : Int) x34_2) = some r := by rw [if_pos rfl] at H; exact H
                                  clear H
                                  have H := H1
                                  clear H1
                                  have H' := Aside0.mk H
                                  clear H
                                  have p27 : 0 ≤ (x6_3 : Int) := of_decide_eq_true (by first | (with_reducible assumption) | assumption)
                                  have q27 : x6_3 < ((rdOf ByteArray.empty t132 x34_2).size : Int) := of_decide_eq_true (by first | (with_reducible assumption) | assumption)
                                  have hx27 := bt_at (rdOf ByteArray.empty t132 x34_2) x6_3
                                  replace p27 := eq_true p27
                                  replace q27 := eq_true q27
                                  go_wp2_with (first | ((with_reducible refine gate_callee (f := 68) rfl ?_); refine goesL_ (some 49) rfl rfl Tryd.func68 (by kernel_rfl) rfl #[.int .u8 (bt (rdOf ByteArray.empty t132 x34_2) x6_3)] rfl (by (try simp only [List.map_toArray, List.map_cons, List.map_nil]); first | done | rfl | (simp only [List.length_drop, List.length_take]; rfl)) ?_; (with_reducible refine (spec_l2letter.calls (bt (rdOf ByteArray.empty t132 x34_2) x6_3) true _ A28.out).mono ?_); rintro e w' ⟨rfl, ⟨nd, rfl⟩⟩; refine ⟨_, rfl, ?_⟩))
                                  go_roundg k3
                                  case measure => have := HJ3.out; have := HK2.out; have := HK3.out; omega
                                  case rel => exact ⟨(wrap64 (x6_3 + 1)), (by first | rfl | (simp; done) | (simp [*]; done)), H', ⟨by have := HJ3.out; have := HK2.out; have := HK3.out; omega⟩, ⟨by (with_reducible repeat (first | apply Kd.R_alloc | apply Kd.R_drewN | apply Kd.R_drew)); exact HO_32.out⟩, ⟨by repeat (first | (with_reducible first | exact HB.out | apply below_alloc | apply pw_below_drewN | apply below_drew1) | exact HB.out)⟩⟩
                                · replace c29 := Bool.eq_false_iff.mpr c29
                                  subst c29
                                  have H1 : ((spec_l2has.f k3 (⟨#[43, 95, 45]⟩ : ByteArray) (bt (rdOf ByteArray.empty t132 x34_2) x6_3)).bind fun t137 => (if t137 = true then (spec_ValidAddress.l1 k3 (rdOf ByteArray.empty t132 x34_2) (wrap64 (x6_3 + 1)) t132 (t132.length : Int) x34_2) else (some false))) = some r := by rw [if_neg (show ¬ (false = true) by decide)] at H; exact H
                                  clear H
                                  have H := H1
                                  clear H1
                                  replace H := Option.bind_eq_some_iff.mp H
                                  obtain ⟨t137, A310, H⟩ := H
                                  replace H : (if t137 = true then (spec_ValidAddress.l1 k3 (rdOf ByteArray.empty t132 x34_2) (wrap64 (x6_3 + 1)) t132 (t132.length : Int) x34_2) else (some false)) = some r := H
                                  have A31 := Aside0.mk A310
                                  clear A310
                                  by_cases c32 : t137 = true
                                  · subst c32
                                    have H1 : (spec_ValidAddress.l1 k3 (rdOf ByteArray.empty t132 x34_2) (wrap64 (x6_3 + 1)) t132 (t132.length : Int) x34_2) = some r := by rw [if_pos rfl] at H; exact H
                                    clear H
                                    have H := H1
                                    clear H1
                                    have H' := Aside0.mk H
                                    clear H
                                    have p27 : 0 ≤ (x6_3 : Int) := of_decide_eq_true (by first | (with_reducible assumption) | assumption)
                                    have q27 : x6_3 < ((rdOf ByteArray.empty t132 x34_2).size : Int) := of_decide_eq_true (by first | (with_reducible assumption) | assumption)
                                    have hx27 := bt_at (rdOf ByteArray.empty t132 x34_2) x6_3
                                    replace p27 := eq_true p27
                                    replace q27 := eq_true q27
                                    go_wp2_with (first | ((with_reducible refine gate_callee (f := 68) rfl ?_); refine goesL_ (some 49) rfl rfl Tryd.func68 (by kernel_rfl) rfl #[.int .u8 (bt (rdOf ByteArray.empty t132 x34_2) x6_3)] rfl (by (try simp only [List.map_toArray, List.map_cons, List.map_nil]); first | done | rfl | (simp only [List.length_drop, List.length_take]; rfl)) ?_; (with_reducible refine (spec_l2letter.calls (bt (rdOf ByteArray.empty t132 x34_2) x6_3) false _ A28.out).mono ?_); rintro e w' ⟨rfl, ⟨nd, rfl⟩⟩; refine ⟨_, rfl, ?_⟩; have p30 : 0 ≤ (x6_3 : Int) := of_decide_eq_true (by first | (with_reducible assumption) | assumption); have q30 : x6_3 < ((rdOf ByteArray.empty t132 x34_2).size : Int) := of_decide_eq_true (by first | (with_reducible assumption) | assumption); have hx30 := bt_at (rdOf ByteArray.empty t132 x34_2) x6_3; replace p30 := eq_true p30; replace q30 := eq_true q30) | (go_at_call 69; (with_reducible refine (spec_l2has.calls k3 (⟨#[43, 95, 45]⟩ : ByteArray) (bt (rdOf ByteArray.empty t132 x34_2) x6_3) true _ A31.out).mono ?_); rintro e w' ⟨rfl, ⟨nd, rfl⟩⟩))
                                    go_roundg k3
                                    case measure => have := HJ3.out; have := HK2.out; have := HK3.out; omega
                                    case rel => exact ⟨(wrap64 (x6_3 + 1)), (by first | rfl | (simp; done) | (simp [*]; done)), H', ⟨by have := HJ3.out; have := HK2.out; have := HK3.out; omega⟩, ⟨by (with_reducible repeat (first | apply Kd.R_alloc | apply Kd.R_drewN | apply Kd.R_drew)); exact HO_32.out⟩, ⟨by repeat (first | (with_reducible first | exact HB.out | apply below_alloc | apply pw_below_drewN | apply below_drew1) | exact HB.out)⟩⟩
                                  · replace c32 := Bool.eq_false_iff.mpr c32
                                    subst c32
                                    have H1 : (some false) = some r := by rw [if_neg (show ¬ (false = true) by decide)] at H; exact H
                                    clear H
                                    have H := H1
                                    clear H1
                                    obtain rfl := Option.some.inj H
                                    have p27 : 0 ≤ (x6_3 : Int) := of_decide_eq_true (by first | (with_reducible assumption) | assumption)
                                    have q27 : x6_3 < ((rdOf ByteArray.empty t132 x34_2).size : Int) := of_decide_eq_true (by first | (with_reducible assumption) | assumption)
                                    have hx27 := bt_at (rdOf ByteArray.empty t132 x34_2) x6_3
                                    replace p27 := eq_true p27
                                    replace q27 := eq_true q27
                                    go_wp2_with (first | ((with_reducible refine gate_callee (f := 68) rfl ?_); refine goesL_ (some 49) rfl rfl Tryd.func68 (by kernel_rfl) rfl #[.int .u8 (bt (rdOf ByteArray.empty t132 x34_2) x6_3)] rfl (by (try simp only [List.map_toArray, List.map_cons, List.map_nil]); first | done | rfl | (simp only [List.length_drop, List.length_take]; rfl)) ?_; (with_reducible refine (spec_l2letter.calls (bt (rdOf ByteArray.empty t132 x34_2) x6_3) false _ A28.out).mono ?_); rintro e w' ⟨rfl, ⟨nd, rfl⟩⟩; refine ⟨_, rfl, ?_⟩; have p30 : 0 ≤ (x6_3 : Int) := of_decide_eq_true (by first | (with_reducible assumption) | assumption); have q30 : x6_3 < ((rdOf ByteArray.empty t132 x34_2).size : Int) := of_decide_eq_true (by first | (with_reducible assumption) | assumption); have hx30 := bt_at (rdOf ByteArray.empty t132 x34_2) x6_3; replace p30 := eq_true p30; replace q30 := eq_true q30) | (go_at_call 69; (with_reducible refine (spec_l2has.calls k3 (⟨#[43, 95, 45]⟩ : ByteArray) (bt (rdOf ByteArray.empty t132 x34_2) x6_3) false _ A31.out).mono ?_); rintro e w' ⟨rfl, ⟨nd, rfl⟩⟩))
                                    go_ret
                                    exact ⟨by first | rfl | (simp [errW_none, errW_some] <;> rfl) | (simp [*, errW_none, errW_some] <;> rfl), by repeat (first | (with_reducible first | exact HB.out | apply below_alloc | apply pw_below_drewN | apply below_drew1) | exact HB.out)⟩
                              · rw [if_neg c26] at H
                                exact absurd H (by simp)
                            · rw [if_neg c25] at H
                              have c25b0 : decide (x6_3 < ((rdOf ByteArray.empty t132 x34_2).size : Int)) = false := decide_eq_false c25
                              clear c25
                              have H' := Aside0.mk H
                              clear H
                              go_wp2
                              go_roundg k3
                              case measure => have := HJ3.out; have := HK2.out; have := HK3.out; omega
                              case rel => exact ⟨(wrap64 (x34_2 + 1)), (by first | rfl | (simp; done) | (simp [*]; done)), H', ⟨by have := HJ3.out; have := HK2.out; have := HK3.out; omega⟩, ⟨by (with_reducible repeat (first | apply Kd.R_alloc | apply Kd.R_drewN | apply Kd.R_drew)); exact HO_32.out⟩, ⟨by repeat (first | (with_reducible first | exact HB.out | apply below_alloc | apply pw_below_drewN | apply below_drew1) | exact HB.out)⟩⟩
                    · rw [if_neg c23] at H
                      exact absurd H (by simp)
                  · rw [if_neg c22] at H
                    exact absurd H (by simp)
                · rw [if_neg c21] at H
                  have c21b0 : decide (x34_2 < (t132.length : Int)) = false := decide_eq_false c21
                  clear c21
                  obtain rfl := Option.some.inj H
                  go_wp2
                  go_ret
                  exact ⟨by first | rfl | (simp [errW_none, errW_some] <;> rfl) | (simp [*, errW_none, errW_some] <;> rfl), by repeat (first | (with_reducible first | exact HB.out | apply below_alloc | apply pw_below_drewN | apply below_drew1) | exact HB.out)⟩
          · rw [if_neg c16] at H
            exact absurd H (by simp)

end Go.Proofs.YtdhkfbjbohpppaaDoor.X
