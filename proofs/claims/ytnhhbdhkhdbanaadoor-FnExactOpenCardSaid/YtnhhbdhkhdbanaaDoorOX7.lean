-- Written by a program of this session (wip/tools/xprint.py, over the kit's printer) out of the translation.
import Derived.Test.YtnhhbdhkhdbanaaDoorOX0
import Derived.Test.YtnhhbdhkhdbanaaDoorOGSplit
import Derived.Test.YtnhhbdhkhdbanaaDoorOGAll
import Derived.Test.YtnhhbdhkhdbanaaDoorOGlob
namespace Go.Proofs.YtnhhbdhkhdbanaaDoor.X
open Go.RowKit Go.Proofs.YtnhhbdhkhdbanaaDoorW.PrintWords Go.Proofs.YtnhhbdhkhdbanaaDoorW.PrintLast Go.Proofs.YtnhhbdhkhdbanaaDoorW.PrintMore
attribute [local go_sem] max2_int min2_int max_two min_two max_three min_three max_four min_four   -- for this text's walks alone
set_option linter.unusedVariables false
set_option linter.unusedSimpArgs false

/-! ### impl_ValidDomain: function 108 -/
mutual
def impl_ValidDomain.j0 : Nat → ByteArray → Bool → Option (Bool)
  | 0, _, _ => none
  | k + 1, x0, x12 => if x12 = true then (some false) else ((strings_Split.f x0 (⟨#[46]⟩ : ByteArray)).bind fun t185 => (impl_ValidDomain.l0 k t185 (t185.length : Int) 0))
def impl_ValidDomain.l0 : Nat → List ByteArray → Int → Int → Option (Bool)
  | 0, _, _, _ => none
  | k + 1, x14, x15, x16 => if x16 < x15 then (if 0 ≤ x16 then (if x16 < (x14.length : Int) then (if ((rdOf ByteArray.empty x14 x16).size : Int) < 1 then (some false) else (if ((rdOf ByteArray.empty x14 x16).size : Int) > 63 then (some false) else (if 0 < ((rdOf ByteArray.empty x14 x16).size : Int) then (if (bt (rdOf ByteArray.empty x14 x16) 0) = 45 then (some false) else (if 0 ≤ (wrap64 (((rdOf ByteArray.empty x14 x16).size : Int) - 1)) then (if (wrap64 (((rdOf ByteArray.empty x14 x16).size : Int) - 1)) < ((rdOf ByteArray.empty x14 x16).size : Int) then (if (bt (rdOf ByteArray.empty x14 x16) (wrap64 (((rdOf ByteArray.empty x14 x16).size : Int) - 1))) = 45 then (some false) else ((impl_all_impl_ValidDomain_1.f (rdOf ByteArray.empty x14 x16)).bind fun t189 => (if t189 = true then (impl_ValidDomain.l0 k x14 x15 (wrap64 (x16 + 1))) else (some false)))) else (none)) else (none))) else (none)))) else (none)) else (none)) else (some true)
end
def impl_ValidDomain.f (k : Nat) (a0 : ByteArray) : Option (Bool) := if (a0.size : Int) < 1 then (impl_ValidDomain.j0 k a0 true) else (impl_ValidDomain.j0 k a0 (decide ((a0.size : Int) > 100)))
theorem impl_ValidDomain.mono_l : ∀ k, (∀ y0 y1, LeO (impl_ValidDomain.j0 k y0 y1) (impl_ValidDomain.j0 (k + 1) y0 y1)) ∧ (∀ y0 y1 y2, LeO (impl_ValidDomain.l0 k y0 y1 y2) (impl_ValidDomain.l0 (k + 1) y0 y1 y2))
  | 0 => ⟨fun _ _ r h => by simp [impl_ValidDomain.j0] at h, fun _ _ _ r h => by simp [impl_ValidDomain.l0] at h⟩
  | k + 1 => by
    obtain ⟨ih0, ih1⟩ := impl_ValidDomain.mono_l k
    refine ⟨?_, ?_⟩
    · intro y0 y1
      unfold impl_ValidDomain.j0
      repeat' first
      | (with_reducible exact ih0 _ _)
      | (with_reducible exact ih1 _ _ _)
      | (with_reducible exact LeO.refl _)
      | (with_reducible exact LeO.none _)
      | (with_reducible refine LeO.ite ?_ ?_)
      | (with_reducible refine LeO.bind ?_ (fun _ => ?_))
      | exact ih0 _ _
      | exact ih1 _ _ _
      | exact LeO.none _
      | refine LeO.ite ?_ ?_
      | refine LeO.bind ?_ (fun _ => ?_)
    · intro y0 y1 y2
      unfold impl_ValidDomain.l0
      repeat' first
      | (with_reducible exact ih0 _ _)
      | (with_reducible exact ih1 _ _ _)
      | (with_reducible exact LeO.refl _)
      | (with_reducible exact LeO.none _)
      | (with_reducible refine LeO.ite ?_ ?_)
      | (with_reducible refine LeO.bind ?_ (fun _ => ?_))
      | exact ih0 _ _
      | exact ih1 _ _ _
      | exact LeO.none _
      | refine LeO.ite ?_ ?_
      | refine LeO.bind ?_ (fun _ => ?_)
theorem impl_ValidDomain.mono : ∀ a0 k, LeO (impl_ValidDomain.f k a0) (impl_ValidDomain.f (k + 1) a0) := by
  intro a0 k
  obtain ⟨ih0, ih1⟩ := impl_ValidDomain.mono_l k
  unfold impl_ValidDomain.f
  repeat' first
      | (with_reducible exact ih0 _ _)
      | (with_reducible exact ih1 _ _ _)
      | (with_reducible exact LeO.refl _)
      | (with_reducible exact LeO.none _)
      | (with_reducible refine LeO.ite ?_ ?_)
      | (with_reducible refine LeO.bind ?_ (fun _ => ?_))
      | exact ih0 _ _
      | exact ih1 _ _ _
      | exact LeO.none _
      | refine LeO.ite ?_ ?_
      | refine LeO.bind ?_ (fun _ => ?_)
set_option maxHeartbeats 8000000 in
set_option maxRecDepth 100000 in
theorem impl_ValidDomain.calls (k : Nat) (a0 : ByteArray) (r : Bool) (w : World) (hGM : GlM w) (h : impl_ValidDomain.f k a0 = some r) :
    Calls Tryd.prog 108 #[.string a0] w fun e w' => e = .returned (.bool r) ∧ Below w.heap.size w w' := by
  have HB := Aside0.mk (Below.refl w.heap.size w)
  have H : (if (a0.size : Int) < 1 then (impl_ValidDomain.j0 k a0 true) else (impl_ValidDomain.j0 k a0 (decide ((a0.size : Int) > 100)))) = some r := h
  clear h
  have HC2 := Aside0.mk H
  clear H
  go_enter Tryd.func108, Tryd.ntmps108
  go_upto_region 1 with (fail)
  go_cut [12] (fun v12 wc => ∃ (kq : Nat) (x12_1 : Bool), v12 = .bool x12_1 ∧ Aside0 (impl_ValidDomain.j0 kq a0 x12_1 = some r) ∧ Aside0 (kq ≤ k) ∧ Aside0 (Below w.heap.size w wc))
  case first =>
    have H := HC2.out
    clear HC2
    by_cases c3 : (a0.size : Int) < 1
    · rw [if_pos c3] at H
      have c3b0 : decide ((a0.size : Int) < 1) = true := decide_eq_true c3
      have c3b1 : decide (a0.size < 1) = true := decide_eq_true (by omega)
      clear c3
      (first | rw [c3b0] | (simp only [i64_w, i32_w]; rw [c3b0]) | skip)
      have H' := Aside0.mk H
      clear H
      go_wp2
      go_meet
      case rel => exact ⟨_, (true), (by first | rfl | (simp; done) | (simp [*]; done)), H', ⟨by first | omega | exact Nat.le_refl _⟩, ⟨bq_⟩⟩
    · rw [if_neg c3] at H
      have c3b0 : decide ((a0.size : Int) < 1) = false := decide_eq_false c3
      have c3b1 : decide (a0.size < 1) = false := decide_eq_false (by omega)
      clear c3
      (first | rw [c3b0] | (simp only [i64_w, i32_w]; rw [c3b0]) | skip)
      have H' := Aside0.mk H
      clear H
      go_wp2
      go_meet
      case rel => exact ⟨_, (decide ((a0.size : Int) > 100)), (by first | rfl | (simp; done) | (simp [*]; done)), H', ⟨by first | omega | exact Nat.le_refl _⟩, ⟨bq_⟩⟩
  case rest =>
    clear HC2
    try clear c1
    try clear p2
    try clear c3
    try clear c3b0
    try clear c3b1
    obtain ⟨kq, x12_1, rfl, HA, HJ1, HB⟩ := hcut
    cases kq with
    | zero => exact absurd HA.out (by simp [impl_ValidDomain.j0])
    | succ kj1 =>
      have H := HA.out
      clear HA
      simp only [impl_ValidDomain.j0] at H
      by_cases c4 : x12_1 = true
      · subst c4
        have H1 : (some false) = some r := by rw [if_pos rfl] at H; exact H
        clear H
        have H := H1
        clear H1
        obtain rfl := Option.some.inj H
        go_wp2
        go_ret
        exact ⟨by first | rfl | (simp [errW_none, errW_some] <;> rfl) | (simp [*, errW_none, errW_some] <;> rfl), bq_⟩
      · replace c4 := Bool.eq_false_iff.mpr c4
        subst c4
        have H1 : ((strings_Split.f a0 (⟨#[46]⟩ : ByteArray)).bind fun t185 => (impl_ValidDomain.l0 kj1 t185 (t185.length : Int) 0)) = some r := by rw [if_neg (show ¬ (false = true) by decide)] at H; exact H
        clear H
        have H := H1
        clear H1
        replace H := Option.bind_eq_some_iff.mp H
        obtain ⟨t185, A50, H⟩ := H
        replace H : (impl_ValidDomain.l0 kj1 t185 (t185.length : Int) 0) = some r := H
        have A5 := Aside0.mk A50
        clear A50
        have H' := Aside0.mk H
        clear H
        go_wp2_with (first | ((with_reducible refine gate_callee (f := 141) rfl ?_); refine goesL_ (some 14) rfl rfl Tryd.func141 (by kernel_rfl) rfl #[.string a0, .string (⟨#[46]⟩ : ByteArray)] rfl (by (try simp only [List.map_toArray, List.map_cons, List.map_nil]); first | done | rfl | (simp only [List.length_drop, List.length_take]; rfl)) ?_; (with_reducible refine (strings_Split.calls a0 (⟨#[46]⟩ : ByteArray) t185 _ ?side1 A5.out).mono ?_); (case side1 => exact GlM.below hGM (bq_)); rintro e w6 ⟨v186, rfl, ho0, hb⟩; refine ⟨_, rfl, ?_⟩; have n0_ := Aside0.mk (Kd.R_lower ho0 (below_size (bq_))); have n1_ := Aside0.mk (below_step (bq_) hb); clear HB; have HO187 := n0_; have HB := n1_; clear n0_ n1_; (try clear hb); (try clear hb2); (try clear hk); (try clear hi); (try clear ho0); obtain ⟨Ao7, co7, eo7⟩ := Kd.R_slice HO187.out; subst eo7))
        go_loopg [16] kj1 (fun kq v16 w' => ∃ (x16_2 : Int), v16 = .int .i64 x16_2 ∧ Aside0 (impl_ValidDomain.l0 kq t185 (t185.length : Int) x16_2 = some r) ∧ Aside0 (kq ≤ kj1) ∧ Aside0 (Kd.R Kd.string 9 w' w.heap.size (fun _ => True) (.slice Ao7 t185.length co7) t185) ∧ Aside0 (Below w.heap.size w w'))
        case atStart => exact ⟨(0), (by first | rfl | (simp; done) | (simp [*]; done)), H', ⟨Nat.le_refl _⟩, ⟨by (with_reducible repeat (first | apply Kd.R_alloc | apply Kd.R_drewN | apply Kd.R_drew)); exact HO187.out⟩, ⟨bq_⟩⟩
        case round =>
          clear H'
          try clear c1
          try clear p2
          try clear c3
          try clear c3b0
          try clear c3b1
          try clear c4
          try clear p2
          obtain ⟨x16_2, rfl, HA, HK2, HO_14, HB⟩ := hrel
          cases gk with
          | zero => exact absurd HA.out (by simp [impl_ValidDomain.l0])
          | succ k2 =>
            have H := HA.out
            clear HA
            simp only [impl_ValidDomain.l0] at H
            by_cases c8 : x16_2 < (t185.length : Int)
            · rw [if_pos c8] at H
              have c8b0 : decide (x16_2 < (t185.length : Int)) = true := decide_eq_true c8
              clear c8
              by_cases c9 : 0 ≤ x16_2
              · rw [if_pos c9] at H
                have c9b0 : decide (0 ≤ x16_2) = true := decide_eq_true c9
                clear c9
                by_cases c10 : x16_2 < (t185.length : Int)
                · rw [if_pos c10] at H
                  have c10b0 : decide (x16_2 < (t185.length : Int)) = true := decide_eq_true c10
                  clear c10
                  by_cases c11 : ((rdOf ByteArray.empty t185 x16_2).size : Int) < 1
                  · rw [if_pos c11] at H
                    have c11b0 : decide (((rdOf ByteArray.empty t185 x16_2).size : Int) < 1) = true := decide_eq_true c11
                    have c11b1 : decide ((rdOf ByteArray.empty t185 x16_2).size < 1) = true := decide_eq_true (by omega)
                    clear c11
                    obtain rfl := Option.some.inj H
                    have p188 : 0 ≤ (x16_2 : Int) := of_decide_eq_true (by first | (with_reducible assumption) | assumption)
                    have q188 : x16_2 < (t185.length : Int) := of_decide_eq_true (by first | (with_reducible assumption) | assumption)
                    obtain ⟨ad188, e188, hx188_0⟩ := Kd.at_string (Kd.R_reads' HO_14.out).2.2 x16_2 p188 q188
                    cases e188
                    replace p188 := eq_true p188
                    replace q188 := eq_true q188
                    go_wp2
                    go_ret
                    exact ⟨by first | rfl | (simp [errW_none, errW_some] <;> rfl) | (simp [*, errW_none, errW_some] <;> rfl), bq_⟩
                  · rw [if_neg c11] at H
                    have c11b0 : decide (((rdOf ByteArray.empty t185 x16_2).size : Int) < 1) = false := decide_eq_false c11
                    have c11b1 : decide ((rdOf ByteArray.empty t185 x16_2).size < 1) = false := decide_eq_false (by omega)
                    clear c11
                    by_cases c12 : ((rdOf ByteArray.empty t185 x16_2).size : Int) > 63
                    · rw [if_pos c12] at H
                      have c12b0 : decide (63 < ((rdOf ByteArray.empty t185 x16_2).size : Int)) = true := decide_eq_true c12
                      have c12b1 : decide (63 < (rdOf ByteArray.empty t185 x16_2).size) = true := decide_eq_true (by omega)
                      clear c12
                      obtain rfl := Option.some.inj H
                      have p188 : 0 ≤ (x16_2 : Int) := of_decide_eq_true (by first | (with_reducible assumption) | assumption)
                      have q188 : x16_2 < (t185.length : Int) := of_decide_eq_true (by first | (with_reducible assumption) | assumption)
                      obtain ⟨ad188, e188, hx188_0⟩ := Kd.at_string (Kd.R_reads' HO_14.out).2.2 x16_2 p188 q188
                      cases e188
                      replace p188 := eq_true p188
                      replace q188 := eq_true q188
                      go_wp2
                      go_ret
                      exact ⟨by first | rfl | (simp [errW_none, errW_some] <;> rfl) | (simp [*, errW_none, errW_some] <;> rfl), bq_⟩
                    · rw [if_neg c12] at H
                      have c12b0 : decide (63 < ((rdOf ByteArray.empty t185 x16_2).size : Int)) = false := decide_eq_false c12
                      have c12b1 : decide (63 < (rdOf ByteArray.empty t185 x16_2).size) = false := decide_eq_false (by omega)
                      clear c12
                      by_cases c13 : 0 < ((rdOf ByteArray.empty t185 x16_2).size : Int)
                      · rw [if_pos c13] at H
                        have c13b0 : decide (0 < ((rdOf ByteArray.empty t185 x16_2).size : Int)) = true := decide_eq_true c13
                        have c13b1 : decide (0 < (rdOf ByteArray.empty t185 x16_2).size) = true := decide_eq_true (by omega)
                        clear c13
                        by_cases c15 : (bt (rdOf ByteArray.empty t185 x16_2) 0) = 45
                        · rw [if_pos c15] at H
                          have c15b0 : ((bt (rdOf ByteArray.empty t185 x16_2) 0) == 45) = true := beq_iff_eq.mpr c15
                          have c15b1 : ((bt (rdOf ByteArray.empty t185 x16_2) 0) != 45) = false := bne_eq_false_iff_eq.mpr c15
                          clear c15
                          obtain rfl := Option.some.inj H
                          have p188 : 0 ≤ (x16_2 : Int) := of_decide_eq_true (by first | (with_reducible assumption) | assumption)
                          have q188 : x16_2 < (t185.length : Int) := of_decide_eq_true (by first | (with_reducible assumption) | assumption)
                          obtain ⟨ad188, e188, hx188_0⟩ := Kd.at_string (Kd.R_reads' HO_14.out).2.2 x16_2 p188 q188
                          cases e188
                          replace p188 := eq_true p188
                          replace q188 := eq_true q188
                          have p14 : 0 ≤ (0 : Int) := (by omega)
                          have q14 : 0 < (rdOf ByteArray.empty t185 x16_2).size := (by have : (0 : Int) < ((rdOf ByteArray.empty t185 x16_2).size : Int) := of_decide_eq_true (by first | (with_reducible assumption) | assumption); omega)
                          have hx14 : ∀ h : 0 < (rdOf ByteArray.empty t185 x16_2).size, (((rdOf ByteArray.empty t185 x16_2)[0]'h).toNat : Int) = bt (rdOf ByteArray.empty t185 x16_2) 0 := bt_at (rdOf ByteArray.empty t185 x16_2) 0
                          clear p14
                          have qi14 : (0 < ((rdOf ByteArray.empty t185 x16_2).size : Int)) = True := eq_true (of_decide_eq_true (by first | (with_reducible assumption) | assumption))
                          replace q14 := eq_true q14
                          go_wp2
                          go_ret
                          exact ⟨by first | rfl | (simp [errW_none, errW_some] <;> rfl) | (simp [*, errW_none, errW_some] <;> rfl), bq_⟩
                        · rw [if_neg c15] at H
                          have c15b0 : ((bt (rdOf ByteArray.empty t185 x16_2) 0) == 45) = false := beq_eq_false_iff_ne.mpr c15
                          have c15b1 : ((bt (rdOf ByteArray.empty t185 x16_2) 0) != 45) = true := bne_iff_ne.mpr c15
                          obtain ⟨ji16, hji16⟩ : ∃ j_ : Int, (wrap64 (((rdOf ByteArray.empty t185 x16_2).size : Int) - 1)) = j_ := ⟨_, rfl⟩
                          replace H : (if 0 ≤ (ji16) then (if (ji16) < ((rdOf ByteArray.empty t185 x16_2).size : Int) then (if (bt (rdOf ByteArray.empty t185 x16_2) (ji16)) = 45 then (some false) else ((impl_all_impl_ValidDomain_1.f (rdOf ByteArray.empty t185 x16_2)).bind fun t189 => (if t189 = true then (impl_ValidDomain.l0 k2 t185 (t185.length : Int) (wrap64 (x16_2 + 1))) else (some false)))) else (none)) else (none)) = some r := by first | (rw [hji16] at H; exact H) | (simp only [hji16] at H ⊢; exact H)
                          have hji16w : (IntKind.i64.wrap (((rdOf ByteArray.empty t185 x16_2).size : Int) - 1)) = ji16 := (i64_w _).trans hji16
                          by_cases c17 : 0 ≤ (ji16)
                          · rw [if_pos c17] at H
                            have c17b0 : decide (0 ≤ (ji16)) = true := decide_eq_true c17
                            clear c17
                            by_cases c18 : (ji16) < ((rdOf ByteArray.empty t185 x16_2).size : Int)
                            · rw [if_pos c18] at H
                              have c18b0 : decide ((ji16) < ((rdOf ByteArray.empty t185 x16_2).size : Int)) = true := decide_eq_true c18
                              clear c18
                              by_cases c20 : (bt (rdOf ByteArray.empty t185 x16_2) (ji16)) = 45
                              · rw [if_pos c20] at H
                                have c20b0 : ((bt (rdOf ByteArray.empty t185 x16_2) (ji16)) == 45) = true := beq_iff_eq.mpr c20
                                have c20b1 : ((bt (rdOf ByteArray.empty t185 x16_2) (ji16)) != 45) = false := bne_eq_false_iff_eq.mpr c20
                                clear c20
                                obtain rfl := Option.some.inj H
                                have p188 : 0 ≤ (x16_2 : Int) := of_decide_eq_true (by first | (with_reducible assumption) | assumption)
                                have q188 : x16_2 < (t185.length : Int) := of_decide_eq_true (by first | (with_reducible assumption) | assumption)
                                obtain ⟨ad188, e188, hx188_0⟩ := Kd.at_string (Kd.R_reads' HO_14.out).2.2 x16_2 p188 q188
                                cases e188
                                replace p188 := eq_true p188
                                replace q188 := eq_true q188
                                have p14 : 0 ≤ (0 : Int) := (by omega)
                                have q14 : 0 < (rdOf ByteArray.empty t185 x16_2).size := (by have : (0 : Int) < ((rdOf ByteArray.empty t185 x16_2).size : Int) := of_decide_eq_true (by first | (with_reducible assumption) | assumption); omega)
                                have hx14 : ∀ h : 0 < (rdOf ByteArray.empty t185 x16_2).size, (((rdOf ByteArray.empty t185 x16_2)[0]'h).toNat : Int) = bt (rdOf ByteArray.empty t185 x16_2) 0 := bt_at (rdOf ByteArray.empty t185 x16_2) 0
                                clear p14
                                have qi14 : (0 < ((rdOf ByteArray.empty t185 x16_2).size : Int)) = True := eq_true (of_decide_eq_true (by first | (with_reducible assumption) | assumption))
                                replace q14 := eq_true q14
                                have p19 : 0 ≤ ((ji16) : Int) := of_decide_eq_true (by first | (with_reducible assumption) | assumption)
                                have q19 : (ji16) < ((rdOf ByteArray.empty t185 x16_2).size : Int) := of_decide_eq_true (by first | (with_reducible assumption) | assumption)
                                have hx19 := bt_at (rdOf ByteArray.empty t185 x16_2) (ji16)
                                replace p19 := eq_true p19
                                replace q19 := eq_true q19
                                go_wp2
                                go_ret
                                exact ⟨by first | rfl | (simp [errW_none, errW_some] <;> rfl) | (simp only [← hji16]; first | rfl | (simp [errW_none, errW_some] <;> rfl)) | (simp [*, errW_none, errW_some] <;> rfl), bq_⟩
                              · rw [if_neg c20] at H
                                have c20b0 : ((bt (rdOf ByteArray.empty t185 x16_2) (ji16)) == 45) = false := beq_eq_false_iff_ne.mpr c20
                                have c20b1 : ((bt (rdOf ByteArray.empty t185 x16_2) (ji16)) != 45) = true := bne_iff_ne.mpr c20
                                replace H := Option.bind_eq_some_iff.mp H
                                obtain ⟨t189, A210, H⟩ := H
                                replace H : (if t189 = true then (impl_ValidDomain.l0 k2 t185 (t185.length : Int) (wrap64 (x16_2 + 1))) else (some false)) = some r := H
                                have A21 := Aside0.mk A210
                                clear A210
                                by_cases c22 : t189 = true
                                · subst c22
                                  have H1 : (impl_ValidDomain.l0 k2 t185 (t185.length : Int) (wrap64 (x16_2 + 1))) = some r := by rw [if_pos rfl] at H; exact H
                                  clear H
                                  have H := H1
                                  clear H1
                                  have H' := Aside0.mk H
                                  clear H
                                  have p188 : 0 ≤ (x16_2 : Int) := of_decide_eq_true (by first | (with_reducible assumption) | assumption)
                                  have q188 : x16_2 < (t185.length : Int) := of_decide_eq_true (by first | (with_reducible assumption) | assumption)
                                  obtain ⟨ad188, e188, hx188_0⟩ := Kd.at_string (Kd.R_reads' HO_14.out).2.2 x16_2 p188 q188
                                  cases e188
                                  replace p188 := eq_true p188
                                  replace q188 := eq_true q188
                                  have p14 : 0 ≤ (0 : Int) := (by omega)
                                  have q14 : 0 < (rdOf ByteArray.empty t185 x16_2).size := (by have : (0 : Int) < ((rdOf ByteArray.empty t185 x16_2).size : Int) := of_decide_eq_true (by first | (with_reducible assumption) | assumption); omega)
                                  have hx14 : ∀ h : 0 < (rdOf ByteArray.empty t185 x16_2).size, (((rdOf ByteArray.empty t185 x16_2)[0]'h).toNat : Int) = bt (rdOf ByteArray.empty t185 x16_2) 0 := bt_at (rdOf ByteArray.empty t185 x16_2) 0
                                  clear p14
                                  have qi14 : (0 < ((rdOf ByteArray.empty t185 x16_2).size : Int)) = True := eq_true (of_decide_eq_true (by first | (with_reducible assumption) | assumption))
                                  replace q14 := eq_true q14
                                  have p19 : 0 ≤ ((ji16) : Int) := of_decide_eq_true (by first | (with_reducible assumption) | assumption)
                                  have q19 : (ji16) < ((rdOf ByteArray.empty t185 x16_2).size : Int) := of_decide_eq_true (by first | (with_reducible assumption) | assumption)
                                  have hx19 := bt_at (rdOf ByteArray.empty t185 x16_2) (ji16)
                                  replace p19 := eq_true p19
                                  replace q19 := eq_true q19
                                  go_wp2_with (first | (go_at_call 58; (with_reducible refine (impl_all_impl_ValidDomain_1.calls (rdOf ByteArray.empty t185 x16_2) true _ A21.out).mono ?_); rintro e w' ⟨rfl, ⟨nd, rfl⟩⟩))
                                  go_roundg k2
                                  case measure => have := HJ1.out; have := HK2.out; omega
                                  case rel => exact ⟨(wrap64 (x16_2 + 1)), (by first | rfl | (simp; done) | (simp [*]; done)), H', ⟨by have := HJ1.out; have := HK2.out; omega⟩, ⟨by (with_reducible repeat (first | apply Kd.R_alloc | apply Kd.R_drewN | apply Kd.R_drew)); exact HO_14.out⟩, ⟨bq_⟩⟩
                                · replace c22 := Bool.eq_false_iff.mpr c22
                                  subst c22
                                  have H1 : (some false) = some r := by rw [if_neg (show ¬ (false = true) by decide)] at H; exact H
                                  clear H
                                  have H := H1
                                  clear H1
                                  obtain rfl := Option.some.inj H
                                  have p188 : 0 ≤ (x16_2 : Int) := of_decide_eq_true (by first | (with_reducible assumption) | assumption)
                                  have q188 : x16_2 < (t185.length : Int) := of_decide_eq_true (by first | (with_reducible assumption) | assumption)
                                  obtain ⟨ad188, e188, hx188_0⟩ := Kd.at_string (Kd.R_reads' HO_14.out).2.2 x16_2 p188 q188
                                  cases e188
                                  replace p188 := eq_true p188
                                  replace q188 := eq_true q188
                                  have p14 : 0 ≤ (0 : Int) := (by omega)
                                  have q14 : 0 < (rdOf ByteArray.empty t185 x16_2).size := (by have : (0 : Int) < ((rdOf ByteArray.empty t185 x16_2).size : Int) := of_decide_eq_true (by first | (with_reducible assumption) | assumption); omega)
                                  have hx14 : ∀ h : 0 < (rdOf ByteArray.empty t185 x16_2).size, (((rdOf ByteArray.empty t185 x16_2)[0]'h).toNat : Int) = bt (rdOf ByteArray.empty t185 x16_2) 0 := bt_at (rdOf ByteArray.empty t185 x16_2) 0
                                  clear p14
                                  have qi14 : (0 < ((rdOf ByteArray.empty t185 x16_2).size : Int)) = True := eq_true (of_decide_eq_true (by first | (with_reducible assumption) | assumption))
                                  replace q14 := eq_true q14
                                  have p19 : 0 ≤ ((ji16) : Int) := of_decide_eq_true (by first | (with_reducible assumption) | assumption)
                                  have q19 : (ji16) < ((rdOf ByteArray.empty t185 x16_2).size : Int) := of_decide_eq_true (by first | (with_reducible assumption) | assumption)
                                  have hx19 := bt_at (rdOf ByteArray.empty t185 x16_2) (ji16)
                                  replace p19 := eq_true p19
                                  replace q19 := eq_true q19
                                  go_wp2_with (first | (go_at_call 58; (with_reducible refine (impl_all_impl_ValidDomain_1.calls (rdOf ByteArray.empty t185 x16_2) false _ A21.out).mono ?_); rintro e w' ⟨rfl, ⟨nd, rfl⟩⟩))
                                  go_ret
                                  exact ⟨by first | rfl | (simp [errW_none, errW_some] <;> rfl) | (simp only [← hji16]; first | rfl | (simp [errW_none, errW_some] <;> rfl)) | (simp [*, errW_none, errW_some] <;> rfl), bq_⟩
                            · rw [if_neg c18] at H
                              exact absurd H (by simp)
                          · rw [if_neg c17] at H
                            exact absurd H (by simp)
                      · rw [if_neg c13] at H
                        exact absurd H (by simp)
                · rw [if_neg c10] at H
                  exact absurd H (by simp)
              · rw [if_neg c9] at H
                exact absurd H (by simp)
            · rw [if_neg c8] at H
              have c8b0 : decide (x16_2 < (t185.length : Int)) = false := decide_eq_false c8
              clear c8
              obtain rfl := Option.some.inj H
              go_wp2
              go_ret
              exact ⟨by first | rfl | (simp [errW_none, errW_some] <;> rfl) | (simp [*, errW_none, errW_some] <;> rfl), bq_⟩

end Go.Proofs.YtnhhbdhkhdbanaaDoor.X
