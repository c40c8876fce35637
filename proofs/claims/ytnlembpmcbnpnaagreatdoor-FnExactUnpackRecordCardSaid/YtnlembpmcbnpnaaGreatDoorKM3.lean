/- Part 3 of the proof of laws.FnExactUnpackRecord: contracts of functions that it reaches, and laws of what these compute. No condition beyond what each theorem says. -/
import Derived.Deep.CutRange
import Derived.KernelRfl
import Derived.Lib.ItoaNum
import Derived.Lib.LaidTab
import Derived.Test.YtnlembpmcbnpnaaGreatDoorProg
import Derived.Test.YtnlembpmcbnpnaaGreatDoorKM1
import Derived.Test.YtnlembpmcbnpnaaGreatDoorKM2
namespace Go.Proofs.YtnlembpmcbnpnaaGreatDoor.X
open Go.RowKit Go.Proofs.YtnlembpmcbnpnaaGreatDoorW.PrintWords Go.Proofs.YtnlembpmcbnpnaaGreatDoorW.PrintLast Go.Proofs.YtnlembpmcbnpnaaGreatDoorW.PrintMore
set_option linter.unusedVariables false
set_option linter.unusedSimpArgs false
theorem z15_0_ {P : Prop} (h : P := by first | rfl | (simp [errW_none, errW_some] <;> rfl) | (simp [*, errW_none, errW_some] <;> rfl)) : P := h
theorem z15_1_ {P : Prop} (h : P := by first | rfl | (simp [errW_none, errW_some] <;> rfl) | (simp only [← hji4]; first | rfl | (simp [errW_none, errW_some] <;> rfl)) | (simp [*, errW_none, errW_some] <;> rfl)) : P := h
theorem z15_2_ {P : Prop} (h : P := by (try simp only [List.map_toArray, List.map_cons, List.map_nil]); first | done | rfl | (simp only [List.length_drop, List.length_take]; rfl)) : P := h
theorem z15_3_ {P : Prop} (h : P := by first | exact Kd.R_nil _ _ _ _ _ | exact Kd.N_nil _ _ _ _ _ | exact Kd.V_nil _ _ _ _ _ | exact Kd.Q_nil _ _ _ _ _ | exact Kd.S_nil _ _ _ _ _) : P := h
theorem z15_4_ {P : Prop} (h : P := by repeat (first | (with_reducible first | exact HB.out | apply below_alloc | apply pw_below_drewN | apply below_drew1 | refine below_set ?_ GE276.out) | exact HB.out)) : P := h
theorem z15_5_ {P : Prop} (h : P := by first | (with_reducible assumption) | assumption) : P := h
theorem z15_6_ {P : Prop} (h : P := by first | rfl | (simp; done) | (simp [*]; done)) : P := h
/-! ### spec_l4whom: function 54 -/
mutual
def spec_l4whom.j0 : Nat → List ByteArray → Bool → Option (Bool)
 | 0, _, _ => none
 | k + 1, x1, x23 => if x23 = true then (some false) else (spec_l4whom.l0 k x1 (x1.length : Int) 0)
def spec_l4whom.l0 : Nat → List ByteArray → Int → Int → Option (Bool)
 | 0, _, _, _ => none
 | k + 1, x24, x25, x26 => if x26 < x25 then (if 0 ≤ x26 then (if x26 < (x24.length : Int) then ((spec_ValidAddress.f k (rdOf ByteArray.empty x24 x26)).bind fun t253 => (if t253 = true then (spec_l4whom.l0 k x24 x25 (wrap64 (x26 + 1))) else (some false))) else (none)) else (none)) else (some true)
end
def spec_l4whom.f (k : Nat) (a0 : ByteArray) (l1 : List ByteArray) : Option (Bool) := if a0.toList = ([] : List UInt8) then (if (l1.length : Int) < 1 then (spec_l4whom.j0 k l1 true) else (spec_l4whom.j0 k l1 (decide ((l1.length : Int) > 20)))) else ((spec_ValidAddress.f k a0).bind fun t251 => (if t251 = true then (if (l1.length : Int) < 1 then (spec_l4whom.j0 k l1 true) else (spec_l4whom.j0 k l1 (decide ((l1.length : Int) > 20)))) else (spec_l4whom.j0 k l1 true)))
theorem spec_l4whom.mono_l : ∀ k, (∀ y0 y1, LeO (spec_l4whom.j0 k y0 y1) (spec_l4whom.j0 (k + 1) y0 y1)) ∧ (∀ y0 y1 y2, LeO (spec_l4whom.l0 k y0 y1 y2) (spec_l4whom.l0 (k + 1) y0 y1 y2))
 | 0 => ⟨fun _ _ r h => by simp [spec_l4whom.j0] at h, fun _ _ _ r h => by simp [spec_l4whom.l0] at h⟩
 | k + 1 => by
  obtain ⟨ih0, ih1⟩ := spec_l4whom.mono_l k
  refine ⟨?_, ?_⟩
  ·intro y0 y1
   unfold spec_l4whom.j0
   repeat' first
   | (with_reducible exact ih0 _ _)
   | (with_reducible exact ih1 _ _ _)
   | (with_reducible exact spec_ValidAddress.mono _ _)
   | (with_reducible exact LeO.refl _)
   | (with_reducible exact LeO.none _)
   | (with_reducible refine LeO.ite ?_ ?_)
   | (with_reducible refine LeO.bind ?_ (fun _ => ?_))
   | exact ih0 _ _
   | exact ih1 _ _ _
   | exact spec_ValidAddress.mono _ _
   | exact LeO.none _
   | refine LeO.ite ?_ ?_
   | refine LeO.bind ?_ (fun _ => ?_)
  ·intro y0 y1 y2
   unfold spec_l4whom.l0
   repeat' first
   | (with_reducible exact ih0 _ _)
   | (with_reducible exact ih1 _ _ _)
   | (with_reducible exact spec_ValidAddress.mono _ _)
   | (with_reducible exact LeO.refl _)
   | (with_reducible exact LeO.none _)
   | (with_reducible refine LeO.ite ?_ ?_)
   | (with_reducible refine LeO.bind ?_ (fun _ => ?_))
   | exact ih0 _ _
   | exact ih1 _ _ _
   | exact spec_ValidAddress.mono _ _
   | exact LeO.none _
   | refine LeO.ite ?_ ?_
   | refine LeO.bind ?_ (fun _ => ?_)
theorem spec_l4whom.mono : ∀ a0 a1 k, LeO (spec_l4whom.f k a0 a1) (spec_l4whom.f (k + 1) a0 a1) := by
 intro a0 a1 k
 obtain ⟨ih0, ih1⟩ := spec_l4whom.mono_l k
 unfold spec_l4whom.f
 repeat' first
   | (with_reducible exact ih0 _ _)
   | (with_reducible exact ih1 _ _ _)
   | (with_reducible exact spec_ValidAddress.mono _ _)
   | (with_reducible exact LeO.refl _)
   | (with_reducible exact LeO.none _)
   | (with_reducible refine LeO.ite ?_ ?_)
   | (with_reducible refine LeO.bind ?_ (fun _ => ?_))
   | exact ih0 _ _
   | exact ih1 _ _ _
   | exact spec_ValidAddress.mono _ _
   | exact LeO.none _
   | refine LeO.ite ?_ ?_
   | refine LeO.bind ?_ (fun _ => ?_)
set_option maxHeartbeats 8000000 in
set_option maxRecDepth 100000 in
theorem spec_l4whom.calls (k : Nat) (a0 : ByteArray) (A1 : Option Addr) (c1 : Nat) (l1 : List ByteArray) (r : Bool) (w : World) (hr1 : Kd.C Kd.string w A1 l1.length l1) (hc1 : l1.length ≤ c1) (h : spec_l4whom.f k a0 l1 = some r) :
  Calls Tryz.prog 54 #[.string a0, .slice A1 l1.length c1] w fun e w' => e = .returned (.bool r) ∧ Below w.heap.size w w' := by
 have HR1 := Aside0.mk hr1
 have HC1 := Aside0.mk hc1
 clear hr1 hc1
 have HB := Aside0.mk (Below.refl w.heap.size w)
 have H := h
 unfold spec_l4whom.f at H
 clear h
 have HC3 := Aside0.mk H
 clear H
 go_enter Tryz.func54, Tryz.ntmps54
 go_upto_region 1 with (fail)
 go_cut [23] (fun v23 wc => ∃ (kq : Nat) (x23_2 : Bool), v23 = .bool x23_2 ∧ Aside0 (spec_l4whom.j0 kq l1 x23_2 = some r) ∧ Aside0 (kq ≤ k) ∧ Aside0 (Below w.heap.size w wc))
 case first =>
  have H := HC3.out
  clear HC3
  by_cases c4 : a0.toList = ([] : List UInt8)
  ·rw [if_pos c4] at H
   have c4b0 : (a0.toList == ([] : List UInt8)) = true := beq_iff_eq.mpr c4
   have c4b7 : a0.toList.isEmpty = true := by rw [c4]; rfl
   have c4b1 : (a0.toList != ([] : List UInt8)) = false := bne_eq_false_iff_eq.mpr c4
   clear c4
   (first | rw [c4b0] | rw [c4b7] | (simp only [i64_w, i32_w]; rw [c4b0]) | rw [c4b1] | simp only [c4b2, decide_true, decide_false] | skip)
   by_cases c5 : (l1.length : Int) < 1
   ·rw [if_pos c5] at H
    have c5b0 : decide ((l1.length : Int) < 1) = true := decide_eq_true c5
    have c5b1 : decide (l1.length < 1) = true := decide_eq_true (by omega)
    clear c5
    have H' := Aside0.mk H
    clear H
    go_wp2
    go_meet
    case rel => exact ⟨_, (true), z15_6_, H', ⟨(by first | omega | exact Nat.le_refl _)⟩, ⟨bq_⟩⟩
   ·rw [if_neg c5] at H
    have c5b0 : decide ((l1.length : Int) < 1) = false := decide_eq_false c5
    have c5b1 : decide (l1.length < 1) = false := decide_eq_false (by omega)
    clear c5
    have H' := Aside0.mk H
    clear H
    go_wp2
    go_meet
    case rel => exact ⟨_, (decide ((l1.length : Int) > 20)), z15_6_, H', ⟨(by first | omega | exact Nat.le_refl _)⟩, ⟨bq_⟩⟩
  ·rw [if_neg c4] at H
   have c4b0 : (a0.toList == ([] : List UInt8)) = false := beq_eq_false_iff_ne.mpr c4
   have c4b7 : a0.toList.isEmpty = false := by simpa using c4
   have c4b1 : (a0.toList != ([] : List UInt8)) = true := bne_iff_ne.mpr c4
   (first | rw [c4b0] | rw [c4b7] | (simp only [i64_w, i32_w]; rw [c4b0]) | rw [c4b1] | simp only [c4b2, decide_true, decide_false] | skip)
   obtain ⟨t251, A6, H⟩ := zbi H
   by_cases c7 : t251 = true
   ·subst c7
    rw [if_pos rfl] at H
    by_cases c8 : (l1.length : Int) < 1
    ·rw [if_pos c8] at H
     have c8b0 : decide ((l1.length : Int) < 1) = true := decide_eq_true c8
     have c8b1 : decide (l1.length < 1) = true := decide_eq_true (by omega)
     clear c8
     have H' := Aside0.mk H
     clear H
     go_wp2_with (first | (go_at_call 80; (with_reducible refine (spec_ValidAddress.calls k a0 true _ A6.out).mono ?_); rintro e w9 ⟨rfl, hb⟩; replace HB := Aside0.mk (below_step (bq_) hb); clear hb))
     go_meet
     case rel => exact ⟨_, (true), z15_6_, H', ⟨(by first | omega | exact Nat.le_refl _)⟩, ⟨bq_⟩⟩
    ·rw [if_neg c8] at H
     have c8b0 : decide ((l1.length : Int) < 1) = false := decide_eq_false c8
     have c8b1 : decide (l1.length < 1) = false := decide_eq_false (by omega)
     clear c8
     have H' := Aside0.mk H
     clear H
     go_wp2_with (first | (go_at_call 80; (with_reducible refine (spec_ValidAddress.calls k a0 true _ A6.out).mono ?_); rintro e w10 ⟨rfl, hb⟩; replace HB := Aside0.mk (below_step (bq_) hb); clear hb))
     go_meet
     case rel => exact ⟨_, (decide ((l1.length : Int) > 20)), z15_6_, H', ⟨(by first | omega | exact Nat.le_refl _)⟩, ⟨bq_⟩⟩
   ·replace c7 := Bool.eq_false_iff.mpr c7
    subst c7
    rw [if_neg (show ¬ (false = true) by decide)] at H
    have H' := Aside0.mk H
    clear H
    go_wp2_with (first | (go_at_call 80; (with_reducible refine (spec_ValidAddress.calls k a0 false _ A6.out).mono ?_); rintro e w11 ⟨rfl, hb⟩; replace HB := Aside0.mk (below_step (bq_) hb); clear hb))
    go_meet
    case rel => exact ⟨_, (true), z15_6_, H', ⟨(by first | omega | exact Nat.le_refl _)⟩, ⟨bq_⟩⟩
 case rest =>
  clear HC3
  try clear c1
  try clear p2
  try clear c4
  try clear c4b0
  try clear c4b1
  try clear c5
  try clear c5b0
  try clear c5b1
  try clear c7
  try clear c8
  try clear c8b0
  try clear c8b1
  obtain ⟨kq, x23_2, rfl, HA, HJ2, HB⟩ := hcut
  cases kq with
  | zero => exact absurd HA.out (by simp [spec_l4whom.j0])
  | succ kj2 =>
   have H := HA.out
   clear HA
   simp only [spec_l4whom.j0] at H
   by_cases c12 : x23_2 = true
   ·subst c12
    rw [if_pos rfl] at H
    obtain rfl := Option.some.inj H
    go_wp2
    go_ret
    exact ⟨z15_0_, bq_⟩
   ·replace c12 := Bool.eq_false_iff.mpr c12
    subst c12
    rw [if_neg (show ¬ (false = true) by decide)] at H
    have H' := Aside0.mk H
    clear H
    go_wp2
    go_loopg [26] kj2 (fun kq v26 w' => ∃ (x26_2 : Int), v26 = .int .i64 x26_2 ∧ Aside0 (spec_l4whom.l0 kq l1 (l1.length : Int) x26_2 = some r) ∧ Aside0 (kq ≤ kj2) ∧ Aside0 (Below w.heap.size w w'))
    case atStart => exact ⟨(0), z15_6_, H', ⟨Nat.le_refl _⟩, ⟨bq_⟩⟩
    case round =>
     clear H'
     try clear c1
     try clear p2
     try clear c4
     try clear c4b0
     try clear c4b1
     try clear c5
     try clear c5b0
     try clear c5b1
     try clear c7
     try clear c8
     try clear c8b0
     try clear c8b1
     try clear c12
     try clear p2
     obtain ⟨x26_2, rfl, HA, HK2, HB⟩ := hrel
     cases gk with
     | zero => exact absurd HA.out (by simp [spec_l4whom.l0])
     | succ k2 =>
      have H := HA.out
      clear HA
      simp only [spec_l4whom.l0] at H
      by_cases c13 : x26_2 < (l1.length : Int)
      ·rw [if_pos c13] at H
       have c13b0 : decide (x26_2 < (l1.length : Int)) = true := decide_eq_true c13
       clear c13
       by_cases c14 : 0 ≤ x26_2
       ·rw [if_pos c14] at H
        have c14b0 : decide (0 ≤ x26_2) = true := decide_eq_true c14
        clear c14
        by_cases c15 : x26_2 < (l1.length : Int)
        ·rw [if_pos c15] at H
         have c15b0 : decide (x26_2 < (l1.length : Int)) = true := decide_eq_true c15
         clear c15
         obtain ⟨t253, A16, H⟩ := zbi H
         have HS17 := Aside0.mk H
         clear H
         have p252 : 0 ≤ (x26_2 : Int) := of_decide_eq_true z15_5_
         have q252 : x26_2 < (l1.length : Int) := of_decide_eq_true z15_5_
         obtain ⟨ad252, e252, hx252_0⟩ := Kd.at_string HR1.out x26_2 p252 q252
         cases e252
         try replace hx252_0 := (HB.out.cell (World.block_lt_of_cell? w _ hx252_0)).trans hx252_0
         replace p252 := eq_true p252
         replace q252 := eq_true q252
         go_upto_if 32 with (first | ((with_reducible refine gate_callee (f := 80) rfl ?_); refine goesL_ (some 31) rfl rfl Tryz.func80 (by kernel_rfl) rfl #[.string (rdOf ByteArray.empty l1 x26_2)] rfl z15_2_ ?_; (with_reducible refine (spec_ValidAddress.calls k2 (rdOf ByteArray.empty l1 x26_2) t253 _ A16.out).mono ?_); rintro e w18 ⟨rfl, hb⟩; refine ⟨_, rfl, ?_⟩; replace HB := Aside0.mk (below_step (bq_) hb); clear hb))
         (try simp only [Act.put, List.setIfInBounds_toArray, List.set_cons_zero, List.set_cons_succ])
         have H := HS17.out
         clear HS17
         by_cases c19 : t253 = true
         ·subst c19
          rw [if_pos rfl] at H
          have H' := Aside0.mk H
          clear H
          go_wp2
          go_roundg k2
          case measure => have := HJ2.out; have := HK2.out; omega
          case rel => exact ⟨(wrap64 (x26_2 + 1)), z15_6_, H', ⟨(by have := HJ2.out; have := HK2.out; omega)⟩, ⟨bq_⟩⟩
         ·replace c19 := Bool.eq_false_iff.mpr c19
          subst c19
          rw [if_neg (show ¬ (false = true) by decide)] at H
          obtain rfl := Option.some.inj H
          go_wp2
          go_ret
          exact ⟨z15_0_, bq_⟩
        ·rw [if_neg c15] at H
         exact absurd H (by simp)
       ·rw [if_neg c14] at H
        exact absurd H (by simp)
      ·rw [if_neg c13] at H
       have c13b0 : decide (x26_2 < (l1.length : Int)) = false := decide_eq_false c13
       clear c13
       obtain rfl := Option.some.inj H
       go_wp2
       go_ret
       exact ⟨z15_0_, bq_⟩
/-! ### spec_l2lines: function 81 -/
def spec_l2lines.l0 : Nat → List ByteArray → List ByteArray → Int → Int → Option (List ByteArray × Bool)
 | 0, _, _, _, _ => none
 | k + 1, x4, x24, x25, x26 => if x26 < x25 then (if 0 ≤ x26 then (if x26 < (x24.length : Int) then (if ((rdOf ByteArray.empty x24 x26).size : Int) > 998 then (some (([] : List ByteArray), false)) else ((spec_l2has.f k (rdOf ByteArray.empty x24 x26) 13).bind fun t262 => (if t262 = true then (some (([] : List ByteArray), false)) else ((spec_l2has.f k (rdOf ByteArray.empty x24 x26) 10).bind fun t263 => (if t263 = true then (some (([] : List ByteArray), false)) else ((spec_l2has.f k (rdOf ByteArray.empty x24 x26) 0).bind fun t264 => (if t264 = true then (some (([] : List ByteArray), false)) else (spec_l2lines.l0 k x4 x24 x25 (wrap64 (x26 + 1)))))))))) else (none)) else (none)) else (some (x4, true))
def spec_l2lines.f (k : Nat) (a0 : ByteArray) : Option (List ByteArray × Bool) := if (a0.size : Int) > 3000 then (some (([] : List ByteArray), false)) else ((spec_l2split.f k a0 (⟨#[13, 10]⟩ : ByteArray)).bind fun t254 => (if 0 ≤ (wrap64 ((t254.length : Int) - 1)) then (if (wrap64 ((t254.length : Int) - 1)) < (t254.length : Int) then (if (rdOf ByteArray.empty t254 (wrap64 ((t254.length : Int) - 1))).toList = ([] : List UInt8) then (if (wrap64 ((t254.length : Int) - 1)) ≤ (t254.length : Int) then ((some (t254.take ((wrap64 ((t254.length : Int) - 1)) : Int).toNat : List ByteArray)).bind fun y258 => (spec_l2lines.l0 k y258 y258 (y258.length : Int) 0)) else (none)) else (some (([] : List ByteArray), false))) else (none)) else (none)))
theorem spec_l2lines.mono_l : ∀ k, (∀ y0 y1 y2 y3, LeO (spec_l2lines.l0 k y0 y1 y2 y3) (spec_l2lines.l0 (k + 1) y0 y1 y2 y3))
 | 0 => fun _ _ _ _ r h => by simp [spec_l2lines.l0] at h
 | k + 1 => by
  have ih0 := spec_l2lines.mono_l k
  ·intro y0 y1 y2 y3
   unfold spec_l2lines.l0
   repeat' first
   | (with_reducible exact ih0 _ _ _ _)
   | (with_reducible exact spec_l2has.mono _ _ _)
   | (with_reducible exact spec_l2split.mono _ _ _)
   | (with_reducible exact LeO.refl _)
   | (with_reducible exact LeO.none _)
   | (with_reducible refine LeO.ite ?_ ?_)
   | (with_reducible refine LeO.bind ?_ (fun _ => ?_))
   | exact ih0 _ _ _ _
   | exact spec_l2has.mono _ _ _
   | exact spec_l2split.mono _ _ _
   | exact LeO.none _
   | refine LeO.ite ?_ ?_
   | refine LeO.bind ?_ (fun _ => ?_)
theorem spec_l2lines.mono : ∀ a0 k, LeO (spec_l2lines.f k a0) (spec_l2lines.f (k + 1) a0) := by
 intro a0 k
 have ih0 := spec_l2lines.mono_l k
 unfold spec_l2lines.f
 repeat' first
   | (with_reducible exact ih0 _ _ _ _)
   | (with_reducible exact spec_l2has.mono _ _ _)
   | (with_reducible exact spec_l2split.mono _ _ _)
   | (with_reducible exact LeO.refl _)
   | (with_reducible exact LeO.none _)
   | (with_reducible refine LeO.ite ?_ ?_)
   | (with_reducible refine LeO.bind ?_ (fun _ => ?_))
   | exact ih0 _ _ _ _
   | exact spec_l2has.mono _ _ _
   | exact spec_l2split.mono _ _ _
   | exact LeO.none _
   | refine LeO.ite ?_ ?_
   | refine LeO.bind ?_ (fun _ => ?_)
set_option maxHeartbeats 8000000 in
set_option maxRecDepth 100000 in
theorem spec_l2lines.calls (k : Nat) (a0 : ByteArray) (r1 : List ByteArray) (r2 : Bool) (w : World) (h : spec_l2lines.f k a0 = some (r1, r2)) :
  Calls Tryz.prog 81 #[.string a0] w fun e w' => ∃ v0_ : Value, e = .returned (.tuple #[v0_, .bool r2]) ∧ Kd.R Kd.string 9 w' w.heap.size (fun _ => True) v0_ r1 ∧ Below w.heap.size w w' := by
 have HB := Aside0.mk (Below.refl w.heap.size w)
 have H := h
 unfold spec_l2lines.f at H
 clear h
 by_cases c2 : (a0.size : Int) > 3000
 ·rw [if_pos c2] at H
  have c2b0 : decide (3000 < (a0.size : Int)) = true := decide_eq_true c2
  have c2b1 : decide (3000 < a0.size) = true := decide_eq_true (by omega)
  clear c2
  simp only [Option.some.injEq, Prod.mk.injEq] at H
  obtain ⟨rfl, rfl⟩ := H
  go_enter Tryz.func81, Tryz.ntmps81
  go_wp2
  go_ret2
  exact ⟨_, z15_0_, z15_3_, bq_⟩
 ·rw [if_neg c2] at H
  have c2b0 : decide (3000 < (a0.size : Int)) = false := decide_eq_false c2
  have c2b1 : decide (3000 < a0.size) = false := decide_eq_false (by omega)
  clear c2
  obtain ⟨t254, A3, H⟩ := zbi H
  obtain ⟨ji4, hji4⟩ : ∃ j_ : Int, (wrap64 ((t254.length : Int) - 1)) = j_ := ⟨_, rfl⟩
  replace H : (if 0 ≤ (ji4) then (if (ji4) < (t254.length : Int) then (if (rdOf ByteArray.empty t254 (ji4)).toList = ([] : List UInt8) then (if (ji4) ≤ (t254.length : Int) then ((some (t254.take ((ji4) : Int).toNat : List ByteArray)).bind fun y258 => (spec_l2lines.l0 k y258 y258 (y258.length : Int) 0)) else (none)) else (some (([] : List ByteArray), false))) else (none)) else (none)) = some (r1, r2) := by first | (rw [hji4] at H; exact H) | (simp only [hji4] at H ⊢; exact H)
  (try rw [hji4] at A3)
  have hji4w : (IntKind.i64.wrap ((t254.length : Int) - 1)) = ji4 := (i64_w _).trans hji4
  by_cases c5 : 0 ≤ (ji4)
  ·rw [if_pos c5] at H
   have c5b0 : decide (0 ≤ (ji4)) = true := decide_eq_true c5
   clear c5
   by_cases c6 : (ji4) < (t254.length : Int)
   ·rw [if_pos c6] at H
    have c6b0 : decide ((ji4) < (t254.length : Int)) = true := decide_eq_true c6
    clear c6
    have HS7 := Aside0.mk H
    clear H
    go_enter Tryz.func81, Tryz.ntmps81
    go_upto_if 18 with (first | ((with_reducible refine gate_callee (f := 93) rfl ?_); refine goesL_ (some 11) rfl rfl Tryz.func93 (by kernel_rfl) rfl #[.string a0, .string (⟨#[13, 10]⟩ : ByteArray)] rfl z15_2_ ?_; (with_reducible refine (spec_l2split.calls k a0 (⟨#[13, 10]⟩ : ByteArray) t254 _ A3.out).mono ?_); rintro e w8 ⟨v255, rfl, ho0, hb⟩; refine ⟨_, rfl, ?_⟩; have HO256 := Aside0.mk (Kd.R_lower ho0 (below_size (bq_))); replace HB := Aside0.mk (below_step (bq_) hb); clear hb; (try clear ho0); obtain ⟨Ao9, co9, eo9⟩ := Kd.R_slice HO256.out; subst eo9; have p257 : 0 ≤ ((ji4) : Int) := of_decide_eq_true z15_5_; have q257 : (ji4) < (t254.length : Int) := of_decide_eq_true z15_5_; obtain ⟨ad257, e257, hx257_0⟩ := Kd.at_string (Kd.R_reads' HO256.out).2.2 (ji4) p257 q257; cases e257; replace p257 := eq_true p257; replace q257 := eq_true q257))
    (try simp only [Act.put, List.setIfInBounds_toArray, List.set_cons_zero, List.set_cons_succ])
    have H := HS7.out
    clear HS7
    by_cases c10 : (rdOf ByteArray.empty t254 (ji4)).toList = ([] : List UInt8)
    ·rw [if_pos c10] at H
     have c10b0 : ((rdOf ByteArray.empty t254 (ji4)).toList == ([] : List UInt8)) = true := beq_iff_eq.mpr c10
     have c10b7 : (rdOf ByteArray.empty t254 (ji4)).toList.isEmpty = true := by rw [c10]; rfl
     have c10b1 : ((rdOf ByteArray.empty t254 (ji4)).toList != ([] : List UInt8)) = false := bne_eq_false_iff_eq.mpr c10
     clear c10
     (first | rw [c10b0] | rw [c10b7] | (simp only [i64_w, i32_w]; rw [c10b0]) | rw [c10b1] | simp only [c10b2, decide_true, decide_false] | skip)
     by_cases c11 : (ji4) ≤ (t254.length : Int)
     ·rw [if_pos c11] at H
      have c11b0 := eq_true c11
      have c11b1 : decide ((ji4) ≤ (t254.length : Int)) = true := decide_eq_true c11
      clear c11
      obtain ⟨y258, hy258⟩ : ∃ y_ : List ByteArray, y_ = (t254.take ((ji4) : Int).toNat) := ⟨_, rfl⟩
      replace H : (spec_l2lines.l0 k y258 y258 (y258.length : Int) 0) = some (r1, r2) := by first | (rw [hy258]; with_reducible exact H) | (have H2_ := (Option.bind_some _ _).symm.trans H; rw [hy258]; with_reducible exact H2_) | (have H2_ := (Option.bind_some _ _).symm.trans H; with_reducible exact H2_) | with_reducible exact H | (rw [hy258]; exact H) | exact H
      have Ny258 := Aside0.mk hy258
      clear hy258
      have H' := Aside0.mk H
      clear H
      have q12 : ((ji4) : Int) ≤ ((t254.length : Int) : Int) := of_decide_eq_true z15_5_
      obtain ⟨i012, hi012, _, hsz12, _⟩ := info_parts info9
      have hcut12 := cut_to (P := Tryz.prog) 22 9 .i64 Tryz.underlying22 hi012 (some ad257) t254.length co9 (ji4) (of_decide_eq_true z15_5_) q12 (Kd.R_reads' HO256.out).2.1
      have hr12 := Kd.R_take (m := ((ji4) : Int).toNat) HO256.out (by omega)
      have hy12 : y258.length = ((ji4) : Int).toNat := (by rw [Ny258.out, List.length_take]; omega)
      rw [← Ny258.out] at hr12
      rw [← hy12] at hr12 hcut12
      clear hy12 hi012 hsz12 HO256
      have HO260 := Aside0.mk hr12
      clear hr12
      replace q12 := eq_true q12
      go_wp2
      go_loopg [26] k (fun kq v26 w' => ∃ (x26_1 : Int), v26 = .int .i64 x26_1 ∧ Aside0 (spec_l2lines.l0 kq y258 y258 (y258.length : Int) x26_1 = some (r1, r2)) ∧ Aside0 (kq ≤ k) ∧ Aside0 (Kd.R Kd.string 9 w' w.heap.size (fun _ => True) (.slice (some ad257) y258.length co9) y258) ∧ Aside0 (Kd.R Kd.string 9 w' w.heap.size (fun _ => True) (.slice (some ad257) y258.length co9) y258) ∧ Aside0 (Below w.heap.size w w'))
      case atStart => exact ⟨(0), z15_6_, H', ⟨Nat.le_refl _⟩, ⟨(by (with_reducible repeat (first | apply Kd.R_alloc | apply Kd.R_drewN | apply Kd.R_drew)); exact HO260.out)⟩, ⟨(by (with_reducible repeat (first | apply Kd.R_alloc | apply Kd.R_drewN | apply Kd.R_drew)); exact HO260.out)⟩, ⟨bq_⟩⟩
      case round =>
       clear H'
       try clear c1
       try clear q1
       try clear c2
       try clear c2b0
       try clear c2b1
       try clear p2
       try clear q2
       try clear hx2
       try clear c5
       try clear c5b0
       try clear c6
       try clear c6b0
       try clear p6
       try clear c8
       try clear c9
       try clear c10
       try clear c10b0
       try clear c10b1
       try clear c11
       try clear c11b0
       try clear c11b1
       try clear q12
       try clear hx257_0
       try clear p257
       try clear q12
       try clear q257
       obtain ⟨x26_1, rfl, HA, HK1, HO_4, HO_24, HB⟩ := hrel
       cases gk with
       | zero => exact absurd HA.out (by simp [spec_l2lines.l0])
       | succ k1 =>
        have H := HA.out
        clear HA
        simp only [spec_l2lines.l0] at H
        by_cases c13 : x26_1 < (y258.length : Int)
        ·rw [if_pos c13] at H
         have c13b0 : decide (x26_1 < (y258.length : Int)) = true := decide_eq_true c13
         clear c13
         by_cases c14 : 0 ≤ x26_1
         ·rw [if_pos c14] at H
          have c14b0 : decide (0 ≤ x26_1) = true := decide_eq_true c14
          clear c14
          by_cases c15 : x26_1 < (y258.length : Int)
          ·rw [if_pos c15] at H
           have c15b0 : decide (x26_1 < (y258.length : Int)) = true := decide_eq_true c15
           clear c15
           by_cases c16 : ((rdOf ByteArray.empty y258 x26_1).size : Int) > 998
           ·rw [if_pos c16] at H
            have c16b0 : decide (998 < ((rdOf ByteArray.empty y258 x26_1).size : Int)) = true := decide_eq_true c16
            have c16b1 : decide (998 < (rdOf ByteArray.empty y258 x26_1).size) = true := decide_eq_true (by omega)
            clear c16
            simp only [Option.some.injEq, Prod.mk.injEq] at H
            obtain ⟨rfl, rfl⟩ := H
            have p261 : 0 ≤ (x26_1 : Int) := of_decide_eq_true z15_5_
            have q261 : x26_1 < (y258.length : Int) := of_decide_eq_true z15_5_
            obtain ⟨ad261, e261, hx261_0⟩ := Kd.at_string (Kd.R_reads' HO_24.out).2.2 x26_1 p261 q261
            obtain rfl : ad257 = ad261 := (by injection e261)
            replace p261 := eq_true p261
            replace q261 := eq_true q261
            go_wp2
            go_ret2
            exact ⟨_, z15_1_, z15_3_, bq_⟩
           ·rw [if_neg c16] at H
            have c16b0 : decide (998 < ((rdOf ByteArray.empty y258 x26_1).size : Int)) = false := decide_eq_false c16
            have c16b1 : decide (998 < (rdOf ByteArray.empty y258 x26_1).size) = false := decide_eq_false (by omega)
            clear c16
            obtain ⟨t262, A17, H⟩ := zbi H
            by_cases c18 : t262 = true
            ·subst c18
             rw [if_pos rfl] at H
             simp only [Option.some.injEq, Prod.mk.injEq] at H
             obtain ⟨rfl, rfl⟩ := H
             have p261 : 0 ≤ (x26_1 : Int) := of_decide_eq_true z15_5_
             have q261 : x26_1 < (y258.length : Int) := of_decide_eq_true z15_5_
             obtain ⟨ad261, e261, hx261_0⟩ := Kd.at_string (Kd.R_reads' HO_24.out).2.2 x26_1 p261 q261
             obtain rfl : ad257 = ad261 := (by injection e261)
             replace p261 := eq_true p261
             replace q261 := eq_true q261
             go_wp2_with (first | (go_at_call 96; (with_reducible refine (spec_l2has.calls k1 (rdOf ByteArray.empty y258 x26_1) 13 true _ A17.out).mono ?_); rintro e w' ⟨rfl, ⟨nd, rfl⟩⟩))
             go_ret2
             exact ⟨_, z15_1_, z15_3_, bq_⟩
            ·replace c18 := Bool.eq_false_iff.mpr c18
             subst c18
             rw [if_neg (show ¬ (false = true) by decide)] at H
             obtain ⟨t263, A19, H⟩ := zbi H
             by_cases c20 : t263 = true
             ·subst c20
              rw [if_pos rfl] at H
              simp only [Option.some.injEq, Prod.mk.injEq] at H
              obtain ⟨rfl, rfl⟩ := H
              have p261 : 0 ≤ (x26_1 : Int) := of_decide_eq_true z15_5_
              have q261 : x26_1 < (y258.length : Int) := of_decide_eq_true z15_5_
              obtain ⟨ad261, e261, hx261_0⟩ := Kd.at_string (Kd.R_reads' HO_24.out).2.2 x26_1 p261 q261
              obtain rfl : ad257 = ad261 := (by injection e261)
              replace p261 := eq_true p261
              replace q261 := eq_true q261
              go_wp2_with (first | (go_at_call 96; (with_reducible refine (spec_l2has.calls k1 (rdOf ByteArray.empty y258 x26_1) 13 false _ A17.out).mono ?_); rintro e w' ⟨rfl, ⟨nd, rfl⟩⟩) | (go_at_call 96; (with_reducible refine (spec_l2has.calls k1 (rdOf ByteArray.empty y258 x26_1) 10 true _ A19.out).mono ?_); rintro e w' ⟨rfl, ⟨nd, rfl⟩⟩))
              go_ret2
              exact ⟨_, z15_1_, z15_3_, bq_⟩
             ·replace c20 := Bool.eq_false_iff.mpr c20
              subst c20
              rw [if_neg (show ¬ (false = true) by decide)] at H
              obtain ⟨t264, A21, H⟩ := zbi H
              have HS22 := Aside0.mk H
              clear H
              have p261 : 0 ≤ (x26_1 : Int) := of_decide_eq_true z15_5_
              have q261 : x26_1 < (y258.length : Int) := of_decide_eq_true z15_5_
              obtain ⟨ad261, e261, hx261_0⟩ := Kd.at_string (Kd.R_reads' HO_24.out).2.2 x26_1 p261 q261
              obtain rfl : ad257 = ad261 := (by injection e261)
              replace p261 := eq_true p261
              replace q261 := eq_true q261
              go_upto_if 44 with (first | (go_at_call 96; (with_reducible refine (spec_l2has.calls k1 (rdOf ByteArray.empty y258 x26_1) 13 false _ A17.out).mono ?_); rintro e w' ⟨rfl, ⟨nd, rfl⟩⟩) | (go_at_call 96; (with_reducible refine (spec_l2has.calls k1 (rdOf ByteArray.empty y258 x26_1) 10 false _ A19.out).mono ?_); rintro e w' ⟨rfl, ⟨nd, rfl⟩⟩) | (go_at_call 96; (with_reducible refine (spec_l2has.calls k1 (rdOf ByteArray.empty y258 x26_1) 0 t264 _ A21.out).mono ?_); rintro e w' ⟨rfl, ⟨nd, rfl⟩⟩))
              (try simp only [Act.put, List.setIfInBounds_toArray, List.set_cons_zero, List.set_cons_succ])
              have H := HS22.out
              clear HS22
              by_cases c23 : t264 = true
              ·subst c23
               rw [if_pos rfl] at H
               simp only [Option.some.injEq, Prod.mk.injEq] at H
               obtain ⟨rfl, rfl⟩ := H
               go_wp2
               go_ret2
               exact ⟨_, z15_1_, z15_3_, bq_⟩
              ·replace c23 := Bool.eq_false_iff.mpr c23
               subst c23
               rw [if_neg (show ¬ (false = true) by decide)] at H
               have H' := Aside0.mk H
               clear H
               go_wp2
               go_roundg k1
               case measure => have := HK1.out; omega
               case rel => exact ⟨(wrap64 (x26_1 + 1)), z15_6_, H', ⟨(by have := HK1.out; omega)⟩, ⟨(by (with_reducible repeat (first | apply Kd.R_alloc | apply Kd.R_drewN | apply Kd.R_drew)); exact HO_4.out)⟩, ⟨(by (with_reducible repeat (first | apply Kd.R_alloc | apply Kd.R_drewN | apply Kd.R_drew)); exact HO_24.out)⟩, ⟨bq_⟩⟩
          ·rw [if_neg c15] at H
           exact absurd H (by simp)
         ·rw [if_neg c14] at H
          exact absurd H (by simp)
        ·rw [if_neg c13] at H
         have c13b0 : decide (x26_1 < (y258.length : Int)) = false := decide_eq_false c13
         clear c13
         simp only [Option.some.injEq, Prod.mk.injEq] at H
         obtain ⟨rfl, rfl⟩ := H
         go_wp2
         go_ret2
         exact ⟨_, z15_1_, (by (with_reducible repeat (first | apply Kd.R_alloc | apply Kd.R_drewN | apply Kd.R_drew)); exact HO_4.out), bq_⟩
     ·rw [if_neg c11] at H
      exact absurd H (by simp)
    ·rw [if_neg c10] at H
     have c10b0 : ((rdOf ByteArray.empty t254 (ji4)).toList == ([] : List UInt8)) = false := beq_eq_false_iff_ne.mpr c10
     have c10b7 : (rdOf ByteArray.empty t254 (ji4)).toList.isEmpty = false := by simpa using c10
     have c10b1 : ((rdOf ByteArray.empty t254 (ji4)).toList != ([] : List UInt8)) = true := bne_iff_ne.mpr c10
     (first | rw [c10b0] | rw [c10b7] | (simp only [i64_w, i32_w]; rw [c10b0]) | rw [c10b1] | simp only [c10b2, decide_true, decide_false] | skip)
     simp only [Option.some.injEq, Prod.mk.injEq] at H
     obtain ⟨rfl, rfl⟩ := H
     go_wp2
     go_ret2
     exact ⟨_, z15_1_, z15_3_, bq_⟩
   ·rw [if_neg c6] at H
    exact absurd H (by simp)
  ·rw [if_neg c5] at H
   exact absurd H (by simp)
/-! ### spec_ValidBody: function 55 -/
def spec_ValidBody.f (k : Nat) (a0 : ByteArray) : Option (Bool) := (spec_l2lines.f k a0).bind fun bt265 => (some bt265.2)
theorem spec_ValidBody.mono : ∀ a0 k, LeO (spec_ValidBody.f k a0) (spec_ValidBody.f (k + 1) a0) := by
 intro a0 k
 unfold spec_ValidBody.f
 repeat' first
   | (with_reducible exact spec_l2lines.mono _ _)
   | (with_reducible exact LeO.refl _)
   | (with_reducible exact LeO.none _)
   | (with_reducible refine LeO.ite ?_ ?_)
   | (with_reducible refine LeO.bind ?_ (fun _ => ?_))
   | exact spec_l2lines.mono _ _
   | exact LeO.none _
   | refine LeO.ite ?_ ?_
   | refine LeO.bind ?_ (fun _ => ?_)
set_option maxHeartbeats 8000000 in
set_option maxRecDepth 100000 in
theorem spec_ValidBody.calls (k : Nat) (a0 : ByteArray) (r : Bool) (w : World) (h : spec_ValidBody.f k a0 = some r) :
  Calls Tryz.prog 55 #[.string a0] w fun e w' => e = .returned (.bool r) ∧ Below w.heap.size w w' := by
 have HB := Aside0.mk (Below.refl w.heap.size w)
 have H : ((spec_l2lines.f k a0).bind fun bt265 => (some bt265.2)) = some r := h
 clear h
 obtain ⟨⟨t265, t266⟩, A2, H⟩ := zbi H
 try dsimp only at H
 obtain rfl := Option.some.inj H
 go_enter Tryz.func55, Tryz.ntmps55
 go_wp2_with (first | ((with_reducible refine gate_callee (f := 81) rfl ?_); refine goesL_ (some 7) rfl rfl Tryz.func81 (by kernel_rfl) rfl #[.string a0] rfl z15_2_ ?_; (with_reducible refine (spec_l2lines.calls k a0 t265 t266 _ A2.out).mono ?_); rintro e w3 ⟨v267, rfl, ho0, hb⟩; refine ⟨_, rfl, ?_⟩; have HO268 := Aside0.mk (Kd.R_lower ho0 (below_size (bq_))); replace HB := Aside0.mk (below_step (bq_) hb); clear hb; (try clear ho0)))
 go_ret
 exact ⟨z15_0_, bq_⟩
/-! ### spec_l2decimal: function 57 -/
def spec_l2decimal.f : Nat → Int → Option (ByteArray)
 | 0, _ => none
 | k + 1, a0 => if a0 < 10 then (some (strOfNums (([(wrap64 (48 + a0)) % 256] : List Int)))) else ((spec_l2decimal.f k (wrap64 (Int.tdiv a0 10))).bind fun t272 => ((spec_l2decimal.f k (Int.tmod a0 10)).bind fun t273 => (if t272.size + t273.size ≤ 9223372036854775807 then (some (t272 ++ t273)) else (none))))
theorem spec_l2decimal.mono_l : ∀ k, (∀ y0, LeO (spec_l2decimal.f k y0) (spec_l2decimal.f (k + 1) y0))
 | 0 => fun _ r h => by simp [spec_l2decimal.f] at h
 | k + 1 => by
  have ih0 := spec_l2decimal.mono_l k
  ·intro y0
   unfold spec_l2decimal.f
   repeat' first
   | (with_reducible exact ih0 _)
   | (with_reducible exact LeO.refl _)
   | (with_reducible exact LeO.none _)
   | (with_reducible refine LeO.ite ?_ ?_)
   | (with_reducible refine LeO.bind ?_ (fun _ => ?_))
   | exact ih0 _
   | exact LeO.none _
   | refine LeO.ite ?_ ?_
   | refine LeO.bind ?_ (fun _ => ?_)
theorem spec_l2decimal.mono : ∀ a0 k, LeO (spec_l2decimal.f k a0) (spec_l2decimal.f (k + 1) a0) := by
 intro a0 k
 have ih0 := spec_l2decimal.mono_l k
 exact ih0 a0
set_option maxHeartbeats 8000000 in
set_option maxRecDepth 100000 in
theorem spec_l2decimal.calls (k : Nat) : ∀ (a0 : Int) (r : ByteArray) (w : World) (h : spec_l2decimal.f k a0 = some r),
  Calls Tryz.prog 57 #[.int .i64 a0] w fun e w' => e = .returned (.string r) ∧ Below w.heap.size w w' := by
 induction k using Nat.strongRecOn with
 | _ k ih =>
 intro a0 r w h
 cases k with
 | zero => exact absurd h (by simp [spec_l2decimal.f])
 | succ k =>
 simp only [spec_l2decimal.f] at h
 have HB := Aside0.mk (Below.refl w.heap.size w)
 have H : (if a0 < 10 then (some (strOfNums (([(wrap64 (48 + a0)) % 256] : List Int)))) else ((spec_l2decimal.f k (wrap64 (Int.tdiv a0 10))).bind fun t272 => ((spec_l2decimal.f k (Int.tmod a0 10)).bind fun t273 => (if t272.size + t273.size ≤ 9223372036854775807 then (some (t272 ++ t273)) else (none))))) = some r := h
 clear h
 by_cases c2 : a0 < 10
 ·rw [if_pos c2] at H
  have c2b0 : decide (a0 < 10) = true := decide_eq_true c2
  clear c2
  obtain ⟨y269, hy269⟩ : ∃ y_ : List Int, y_ = (([(wrap64 (48 + a0)) % 256] : List Int)) := ⟨_, rfl⟩
  replace H : (some (strOfNums y269)) = some r := by first | (rw [hy269]; with_reducible exact H) | (have H2_ := (Option.bind_some _ _).symm.trans H; rw [hy269]; with_reducible exact H2_) | (have H2_ := (Option.bind_some _ _).symm.trans H; with_reducible exact H2_) | with_reducible exact H | (rw [hy269]; exact H) | exact H
  have Ny269 := Aside0.mk hy269
  clear hy269
  obtain rfl := Option.some.inj H
  go_enter Tryz.func57, Tryz.ntmps57
  go_wp2_with (first | ((with_reducible refine gate_dst (N := 8) rfl ?_); refine Kd.R_lit (Kd.int .u8) _ 5 ?hg (N := 8) ?hd (xs := ([(wrap64 (48 + a0)) % 256] : List Int)) (inner := [.int .u8 ((wrap64 (48 + a0)) % 256)]) (ok := fun _ => True) (okp := fun _ => True) ?hr ?hp (fun _ hk => hk) trivial (Below.refl _ _) (Nat.le_refl _) (by simp) ?_; (case hd => rfl); (case hg => rfl); (case hr => first | (go_simp; done) | (go_simp; rfl)); (case hp => exact (Reps.one (show Kd.M (Kd.int .u8) _ _ _ ((wrap64 (48 + a0)) % 256) [.int .u8 ((wrap64 (48 + a0)) % 256)] from rfl) (Reps.none _ _))); intro v270 w3 ho4 hb hg_ hnew_; clear hg_ hnew_; (first | rw [← Ny269.out] at ho4 | (simp only [Int.reduceToNat] at ho4; rw [← Ny269.out] at ho4)); have HO271 := Aside0.mk (Kd.R_lower ho4 (below_size (bq_))); replace HB := Aside0.mk (below_step (bq_) hb); clear hb ho4; have hcv5 := own_string (P := Tryz.prog) Tryz.underlying34 Tryz.underlying5 Tryz.underlying9 (Kd.own_of_R HO271.out)))
  go_ret
  exact ⟨z15_0_, bq_⟩
 ·rw [if_neg c2] at H
  have c2b0 : decide (a0 < 10) = false := decide_eq_false c2
  clear c2
  obtain ⟨t272, A6, H⟩ := zbi H
  obtain ⟨t273, A7, H⟩ := zbi H
  by_cases c8 : t272.size + t273.size ≤ 9223372036854775807
  ·rw [if_pos c8] at H
   have c8b0 := eq_true c8
   have c8b1 : decide (t272.size + t273.size ≤ 9223372036854775807) = true := decide_eq_true c8
   try have c8b2 : (9223372036854775807 < t272.size + t273.size) = False := eq_false (Nat.not_lt.2 c8)
   obtain rfl := Option.some.inj H
   go_enter Tryz.func57, Tryz.ntmps57
   go_wp2_with (first | ((with_reducible refine gate_callee (f := 57) rfl ?_); refine goesL_ (some 12) rfl rfl Tryz.func57 (by kernel_rfl) rfl #[.int .i64 (wrap64 (Int.tdiv a0 10))] rfl z15_2_ ?_; (with_reducible refine (ih k (by omega) (wrap64 (Int.tdiv a0 10)) t272 _ A6.out).mono ?_); rintro e w9 ⟨rfl, hb⟩; refine ⟨_, rfl, ?_⟩; replace HB := Aside0.mk (below_step (bq_) hb); clear hb) | ((with_reducible refine gate_callee (f := 57) rfl ?_); refine goesL_ (some 15) rfl rfl Tryz.func57 (by kernel_rfl) rfl #[.int .i64 (Int.tmod a0 10)] rfl z15_2_ ?_; (with_reducible refine (ih k (by omega) (Int.tmod a0 10) t273 _ A7.out).mono ?_); rintro e w10 ⟨rfl, hb⟩; refine ⟨_, rfl, ?_⟩; replace HB := Aside0.mk (below_step (bq_) hb); clear hb))
   go_ret
   exact ⟨z15_0_, bq_⟩
  ·rw [if_neg c8] at H
   exact absurd H (by simp)
/-! ### spec_l6num: function 56 -/
def spec_l6num.f (k : Nat) (a0 : Int) : Option (ByteArray) := (spec_l2decimal.f k a0).bind fun t274 => (if 1 + t274.size ≤ 9223372036854775807 then (some ((⟨#[32]⟩ : ByteArray) ++ t274)) else (none))
theorem spec_l6num.mono : ∀ a0 k, LeO (spec_l6num.f k a0) (spec_l6num.f (k + 1) a0) := by
 intro a0 k
 unfold spec_l6num.f
 repeat' first
   | (with_reducible exact spec_l2decimal.mono _ _)
   | (with_reducible exact LeO.refl _)
   | (with_reducible exact LeO.none _)
   | (with_reducible refine LeO.ite ?_ ?_)
   | (with_reducible refine LeO.bind ?_ (fun _ => ?_))
   | exact spec_l2decimal.mono _ _
   | exact LeO.none _
   | refine LeO.ite ?_ ?_
   | refine LeO.bind ?_ (fun _ => ?_)
set_option maxHeartbeats 8000000 in
set_option maxRecDepth 100000 in
theorem spec_l6num.calls (k : Nat) (a0 : Int) (r : ByteArray) (w : World) (h : spec_l6num.f k a0 = some r) :
  Calls Tryz.prog 56 #[.int .i64 a0] w fun e w' => e = .returned (.string r) ∧ Below w.heap.size w w' := by
 have HB := Aside0.mk (Below.refl w.heap.size w)
 have H : ((spec_l2decimal.f k a0).bind fun t274 => (if 1 + t274.size ≤ 9223372036854775807 then (some ((⟨#[32]⟩ : ByteArray) ++ t274)) else (none))) = some r := h
 clear h
 obtain ⟨t274, A2, H⟩ := zbi H
 by_cases c3 : 1 + t274.size ≤ 9223372036854775807
 ·rw [if_pos c3] at H
  have c3b0 := eq_true c3
  have c3b1 : decide (1 + t274.size ≤ 9223372036854775807) = true := decide_eq_true c3
  try have c3b2 : (9223372036854775807 < 1 + t274.size) = False := eq_false (Nat.not_lt.2 c3)
  obtain rfl := Option.some.inj H
  go_enter Tryz.func56, Tryz.ntmps56
  go_wp2_with (first | ((with_reducible refine gate_callee (f := 57) rfl ?_); refine goesL_ (some 4) rfl rfl Tryz.func57 (by kernel_rfl) rfl #[.int .i64 a0] rfl z15_2_ ?_; (with_reducible refine (spec_l2decimal.calls k a0 t274 _ A2.out).mono ?_); rintro e w4 ⟨rfl, hb⟩; refine ⟨_, rfl, ?_⟩; replace HB := Aside0.mk (below_step (bq_) hb); clear hb))
  go_ret
  exact ⟨z15_0_, bq_⟩
 ·rw [if_neg c3] at H
  exact absurd H (by simp)
/-! ### spec_l6str: function 58 -/
def spec_l6str.f (k : Nat) (a0 : ByteArray) : Option (ByteArray) := (spec_l2decimal.f k (a0.size : Int)).bind fun t275 => (if 1 + t275.size ≤ 9223372036854775807 then (if ((⟨#[32]⟩ : ByteArray) ++ t275).size + 1 ≤ 9223372036854775807 then (if (((⟨#[32]⟩ : ByteArray) ++ t275) ++ (⟨#[58]⟩ : ByteArray)).size + a0.size ≤ 9223372036854775807 then (some ((((⟨#[32]⟩ : ByteArray) ++ t275) ++ (⟨#[58]⟩ : ByteArray)) ++ a0)) else (none)) else (none)) else (none))
theorem spec_l6str.mono : ∀ a0 k, LeO (spec_l6str.f k a0) (spec_l6str.f (k + 1) a0) := by
 intro a0 k
 unfold spec_l6str.f
 repeat' first
   | (with_reducible exact spec_l2decimal.mono _ _)
   | (with_reducible exact LeO.refl _)
   | (with_reducible exact LeO.none _)
   | (with_reducible refine LeO.ite ?_ ?_)
   | (with_reducible refine LeO.bind ?_ (fun _ => ?_))
   | exact spec_l2decimal.mono _ _
   | exact LeO.none _
   | refine LeO.ite ?_ ?_
   | refine LeO.bind ?_ (fun _ => ?_)
set_option maxHeartbeats 8000000 in
set_option maxRecDepth 100000 in
theorem spec_l6str.calls (k : Nat) (a0 : ByteArray) (r : ByteArray) (w : World) (h : spec_l6str.f k a0 = some r) :
  Calls Tryz.prog 58 #[.string a0] w fun e w' => e = .returned (.string r) ∧ Below w.heap.size w w' := by
 have HB := Aside0.mk (Below.refl w.heap.size w)
 have H := h
 unfold spec_l6str.f at H
 clear h
 obtain ⟨t275, A2, H⟩ := zbi H
 by_cases c3 : 1 + t275.size ≤ 9223372036854775807
 ·rw [if_pos c3] at H
  have c3b0 := eq_true c3
  have c3b1 : decide (1 + t275.size ≤ 9223372036854775807) = true := decide_eq_true c3
  try have c3b2 : (9223372036854775807 < 1 + t275.size) = False := eq_false (Nat.not_lt.2 c3)
  by_cases c4 : ((⟨#[32]⟩ : ByteArray) ++ t275).size + 1 ≤ 9223372036854775807
  ·rw [if_pos c4] at H
   have c4b0 := eq_true c4
   have c4b1 : decide (((⟨#[32]⟩ : ByteArray) ++ t275).size + 1 ≤ 9223372036854775807) = true := decide_eq_true c4
   try have c4b2 : (9223372036854775807 < ((⟨#[32]⟩ : ByteArray) ++ t275).size + 1) = False := eq_false (Nat.not_lt.2 c4)
   try have c4b3 := c4b2
   try simp only [ByteArray.size_append, ByteArray.size_extract, Nat.min_self, Nat.sub_zero, show (⟨#[32]⟩ : ByteArray).size = 1 from rfl] at c4b3
   by_cases c5 : (((⟨#[32]⟩ : ByteArray) ++ t275) ++ (⟨#[58]⟩ : ByteArray)).size + a0.size ≤ 9223372036854775807
   ·rw [if_pos c5] at H
    have c5b0 := eq_true c5
    have c5b1 : decide ((((⟨#[32]⟩ : ByteArray) ++ t275) ++ (⟨#[58]⟩ : ByteArray)).size + a0.size ≤ 9223372036854775807) = true := decide_eq_true c5
    try have c5b2 : (9223372036854775807 < (((⟨#[32]⟩ : ByteArray) ++ t275) ++ (⟨#[58]⟩ : ByteArray)).size + a0.size) = False := eq_false (Nat.not_lt.2 c5)
    try have c5b3 := c5b2
    try simp only [ByteArray.size_append, ByteArray.size_extract, Nat.min_self, Nat.sub_zero, show (⟨#[32]⟩ : ByteArray).size = 1 from rfl, show (⟨#[58]⟩ : ByteArray).size = 1 from rfl] at c5b3
    obtain rfl := Option.some.inj H
    go_enter Tryz.func58, Tryz.ntmps58
    go_wp2_with (first | ((with_reducible refine gate_callee (f := 57) rfl ?_); refine goesL_ (some 5) rfl rfl Tryz.func57 (by kernel_rfl) rfl #[.int .i64 (a0.size : Int)] rfl z15_2_ ?_; (with_reducible refine (spec_l2decimal.calls k (a0.size : Int) t275 _ A2.out).mono ?_); rintro e w6 ⟨rfl, hb⟩; refine ⟨_, rfl, ?_⟩; replace HB := Aside0.mk (below_step (bq_) hb); clear hb))
    go_ret
    exact ⟨z15_0_, bq_⟩
   ·rw [if_neg c5] at H
    exact absurd H (by simp)
  ·rw [if_neg c4] at H
   exact absurd H (by simp)
 ·rw [if_neg c3] at H
  exact absurd H (by simp)
/-! ### spec_l6noMsg: function 59 -/
def spec_l6noMsg.f (a0_0 : Int) (a0_1 : Int) (a0_2 : ByteArray) (l0_3 : List ByteArray) (a0_4 : ByteArray) : Option (Bool) := if a0_0 = 0 then (if a0_1 = 0 then (if a0_2.toList = ([] : List UInt8) then (if (l0_3.length : Int) = 0 then (some (a0_4.toList == ([] : List UInt8))) else (some false)) else (some false)) else (some false)) else (some false)
set_option maxHeartbeats 8000000 in
set_option maxRecDepth 100000 in
theorem spec_l6noMsg.calls (a0_0 : Int) (a0_1 : Int) (a0_2 : ByteArray) (A0_3 : Option Addr) (c0_3 : Nat) (l0_3 : List ByteArray) (a0_4 : ByteArray) (r : Bool) (w : World) (hr0_3 : Kd.C Kd.string w A0_3 l0_3.length l0_3) (hc0_3 : l0_3.length ≤ c0_3) (h : spec_l6noMsg.f a0_0 a0_1 a0_2 l0_3 a0_4 = some r) :
  Calls Tryz.prog 59 #[.agg #[.int .i64 a0_0, .int .i64 a0_1, .string a0_2, .slice A0_3 l0_3.length c0_3, .string a0_4]] w fun e w' => e = .returned (.bool r) ∧ Below w.heap.size w w' := by
 have hu24 := Tryz.underlying24
 have HR0_3 := Aside0.mk hr0_3
 have HC0_3 := Aside0.mk hc0_3
 clear hr0_3 hc0_3
 have HB := Aside0.mk (Below.refl w.heap.size w)
 have H := h
 unfold spec_l6noMsg.f at H
 clear h
 have HS2 := Aside0.mk H
 clear H
 go_enter Tryz.func59, Tryz.ntmps59
 go_upto_region 1 with (first | ((with_reducible refine gate_dst (N := 1) rfl ?_); (try (refine gate_guard (by rfl) ?_; dsimp only)); refine box_event (by rfl) (N := 1) (by rfl) (cs := #[.int .i64 a0_0, .int .i64 a0_1, .string a0_2, .slice A0_3 l0_3.length c0_3, .string a0_4]) (t := 24) (by first | (go_simp; done) | (go_simp; rfl)) ?_; intro gb276 hg w3 hbox hb; have BK276 := Aside0.mk (hbox); have GW276 := Aside0.mk ((by rw [hg]; exact (below_size (bq_)) : w.heap.size ≤ gb276)); have GE276 := GW276; replace HB := Aside0.mk (below_step (bq_) hb); clear hb hbox hg))
 (try simp only [Act.put, List.setIfInBounds_toArray, List.set_cons_zero, List.set_cons_succ])
 have H := HS2.out
 clear HS2
 by_cases c4 : a0_0 = 0
 ·rw [if_pos c4] at H
  have c4b0 : (a0_0 == 0) = true := beq_iff_eq.mpr c4
  have c4b1 : (a0_0 != 0) = false := bne_eq_false_iff_eq.mpr c4
  clear c4
  by_cases c5 : a0_1 = 0
  ·rw [if_pos c5] at H
   have c5b0 : (a0_1 == 0) = true := beq_iff_eq.mpr c5
   have c5b1 : (a0_1 != 0) = false := bne_eq_false_iff_eq.mpr c5
   clear c5
   by_cases c6 : a0_2.toList = ([] : List UInt8)
   ·rw [if_pos c6] at H
    have c6b0 : (a0_2.toList == ([] : List UInt8)) = true := beq_iff_eq.mpr c6
    have c6b7 : a0_2.toList.isEmpty = true := by rw [c6]; rfl
    have c6b1 : (a0_2.toList != ([] : List UInt8)) = false := bne_eq_false_iff_eq.mpr c6
    clear c6
    by_cases c7 : (l0_3.length : Int) = 0
    ·rw [if_pos c7] at H
     have c7b0 : ((l0_3.length : Int) == 0) = true := beq_iff_eq.mpr c7
     have c7b1 : ((l0_3.length : Int) != 0) = false := bne_eq_false_iff_eq.mpr c7
     clear c7
     obtain rfl := Option.some.inj H
     obtain ⟨q8_0, q8_1, q8_2, q8_3, q8_4⟩ := zc5 BK276.out
     obtain ⟨f8_0, f8_1, f8_2, f8_3, f8_4⟩ := zf5 BK276.out
     go_wp2
     go_ret
     exact ⟨z15_0_, z15_4_⟩
    ·rw [if_neg c7] at H
     have c7b0 : ((l0_3.length : Int) == 0) = false := beq_eq_false_iff_ne.mpr c7
     have c7b1 : ((l0_3.length : Int) != 0) = true := bne_iff_ne.mpr c7
     have c7b2 : ¬ (l0_3 = []) := fun h_ => c7 (by rw [h_]; rfl)
     obtain rfl := Option.some.inj H
     obtain ⟨q9_0, q9_1, q9_2, q9_3, q9_4⟩ := zc5 BK276.out
     obtain ⟨f9_0, f9_1, f9_2, f9_3, f9_4⟩ := zf5 BK276.out
     go_wp2
     go_ret
     exact ⟨z15_0_, z15_4_⟩
   ·rw [if_neg c6] at H
    have c6b0 : (a0_2.toList == ([] : List UInt8)) = false := beq_eq_false_iff_ne.mpr c6
    have c6b7 : a0_2.toList.isEmpty = false := by simpa using c6
    have c6b1 : (a0_2.toList != ([] : List UInt8)) = true := bne_iff_ne.mpr c6
    obtain rfl := Option.some.inj H
    obtain ⟨q10_0, q10_1, q10_2, q10_3, q10_4⟩ := zc5 BK276.out
    obtain ⟨f10_0, f10_1, f10_2, f10_3, f10_4⟩ := zf5 BK276.out
    go_wp2
    go_ret
    exact ⟨z15_0_, z15_4_⟩
  ·rw [if_neg c5] at H
   have c5b0 : (a0_1 == 0) = false := beq_eq_false_iff_ne.mpr c5
   have c5b1 : (a0_1 != 0) = true := bne_iff_ne.mpr c5
   obtain rfl := Option.some.inj H
   obtain ⟨q11_0, q11_1, q11_2, q11_3, q11_4⟩ := zc5 BK276.out
   obtain ⟨f11_0, f11_1, f11_2, f11_3, f11_4⟩ := zf5 BK276.out
   go_wp2
   go_ret
   exact ⟨z15_0_, z15_4_⟩
 ·rw [if_neg c4] at H
  have c4b0 : (a0_0 == 0) = false := beq_eq_false_iff_ne.mpr c4
  have c4b1 : (a0_0 != 0) = true := bne_iff_ne.mpr c4
  obtain rfl := Option.some.inj H
  obtain ⟨q12_0, q12_1, q12_2, q12_3, q12_4⟩ := zc5 BK276.out
  obtain ⟨f12_0, f12_1, f12_2, f12_3, f12_4⟩ := zf5 BK276.out
  go_wp2
  go_ret
  exact ⟨z15_0_, z15_4_⟩
/-! ### spec_l4code: function 60 -/
def spec_l4code.f (a0 : Int) : Option (Bool) := if a0 = 0 then (some true) else (if a0 ≥ 200 then (some (decide (a0 ≤ 599))) else (some false))
set_option maxHeartbeats 8000000 in
set_option maxRecDepth 100000 in
theorem spec_l4code.calls (a0 : Int) (r : Bool) (w : World) (h : spec_l4code.f a0 = some r) :
  Calls Tryz.prog 60 #[.int .i64 a0] w fun e w' => e = .returned (.bool r) ∧ Drawn0 w w' := by
 have H : (if a0 = 0 then (some true) else (if a0 ≥ 200 then (some (decide (a0 ≤ 599))) else (some false))) = some r := h
 clear h
 by_cases c2 : a0 = 0
 ·rw [if_pos c2] at H
  have c2b0 : (a0 == 0) = true := beq_iff_eq.mpr c2
  have c2b1 : (a0 != 0) = false := bne_eq_false_iff_eq.mpr c2
  clear c2
  obtain rfl := Option.some.inj H
  go_enter Tryz.func60, Tryz.ntmps60
  go_wp2
  go_ret
  exact ⟨z15_6_, (by repeat (first | exact Drawn0.refl _ | apply Drawn0.step))⟩
 ·rw [if_neg c2] at H
  have c2b0 : (a0 == 0) = false := beq_eq_false_iff_ne.mpr c2
  have c2b1 : (a0 != 0) = true := bne_iff_ne.mpr c2
  by_cases c3 : a0 ≥ 200
  ·rw [if_pos c3] at H
   have c3b0 : decide (200 ≤ a0) = true := decide_eq_true c3
   clear c3
   obtain rfl := Option.some.inj H
   go_enter Tryz.func60, Tryz.ntmps60
   go_wp2
   go_ret
   exact ⟨z15_6_, (by repeat (first | exact Drawn0.refl _ | apply Drawn0.step))⟩
  ·rw [if_neg c3] at H
   have c3b0 : decide (200 ≤ a0) = false := decide_eq_false c3
   clear c3
   obtain rfl := Option.some.inj H
   go_enter Tryz.func60, Tryz.ntmps60
   go_wp2
   go_ret
   exact ⟨z15_6_, (by repeat (first | exact Drawn0.refl _ | apply Drawn0.step))⟩
end Go.Proofs.YtnlembpmcbnpnaaGreatDoor.X
/- Words of the walk of spec.PackRecord. No condition on inputs. -/
namespace Go.Proofs.YtnlembpmcbnpnaaGreatDoor.X
open Go Go.RowKit Go.Proofs.YtnlembpmcbnpnaaGreatDoorW.PrintWords Go.Proofs.YtnlembpmcbnpnaaGreatDoorW.PrintLast Go.Proofs.YtnlembpmcbnpnaaGreatDoorW.PrintMore
theorem zsplit {p q r : Bool} (h : (p && q) = r) : (p = true ∧ q = r) ∨ (p = false ∧ r = false) := by cases p <;> cases q <;> cases r <;> simp_all
theorem eqAV (d : Nat) (w : World) (x0 y0 : Int) (x1 y1 : Int) (x2 y2 : ByteArray) :
    (Op.equalIn (d + 2) 26 (.agg #[.int .i64 x0, .int .i64 x1, .string x2]) (.agg #[.int .i64 y0, .int .i64 y1, .string y2])).run Tryz.prog w = .ok (x0 == y0 && (x1 == y1 && (x2.toList == y2.toList))) w := by
  refine eqA_of Tryz.underlying26 (by kernel_rfl) ?_
  refine eqf_cons (by rfl) (by go_simp; rfl) (by go_simp; rfl) (by go_simp) ?_
  refine eqf_cons (by rfl) (by go_simp; rfl) (by go_simp; rfl) (by go_simp) ?_
  exact eqf_last (by rfl) (by go_simp; rfl) (by go_simp; rfl) (by go_simp)
end Go.Proofs.YtnlembpmcbnpnaaGreatDoor.X
/- spec.PackRecord at a message that is not right: nothing. -/
namespace Go.Proofs.YtnlembpmcbnpnaaGreatDoor.X
open Go Go.RowKit Go.Proofs.YtnlembpmcbnpnaaGreatDoorW.PrintWords Go.Proofs.YtnlembpmcbnpnaaGreatDoorW.PrintLast Go.Proofs.YtnlembpmcbnpnaaGreatDoorW.PrintMore
set_option linter.unusedVariables false
set_option linter.unusedSimpArgs false
attribute [local go_sem high] eqAV
set_option maxHeartbeats 8000000 in
set_option maxRecDepth 100000 in
theorem sp_m_no (k : Nat) (a1 : Int) (a2 : Int) (a3 : ByteArray) (aA : Option Addr) (ac : Nat) (al : List ByteArray) (a5 : ByteArray) (a6 : Int) (a7 : Int) (a8 : Int) (a9 : Int) (a10 : ByteArray) (a11 : Int) (a12 : Int) (nv : Bool) (nt : Bool) (w : World) (hr : Kd.C Kd.string w aA al.length al) (hc : al.length ≤ ac) (hv : (a8 == 0 && (a9 == 0 && (a10.toList == ([] : List UInt8)))) = nv) (ht : (a11 == 0 && a12 == 0) = nt)
    (h : ((a6 != 0) = true) ∨ ((a6 != 0) = false ∧ (a7 != 0) = true) ∨ ((a6 != 0) = false ∧ (a7 != 0) = false ∧ nv = false) ∨ ((a6 != 0) = false ∧ (a7 != 0) = false ∧ nv = true ∧ nt = false) ∨ ((a6 != 0) = false ∧ (a7 != 0) = false ∧ nv = true ∧ nt = true ∧ spec_l6id.f a1 = some false) ∨ ((a6 != 0) = false ∧ (a7 != 0) = false ∧ nv = true ∧ nt = true ∧ spec_l6id.f a1 = some true ∧ decide (a2 < 0) = true) ∨ ((a6 != 0) = false ∧ (a7 != 0) = false ∧ nv = true ∧ nt = true ∧ spec_l6id.f a1 = some true ∧ decide (a2 < 0) = false ∧ decide (20000000 < a2) = true) ∨ ((a6 != 0) = false ∧ (a7 != 0) = false ∧ nv = true ∧ nt = true ∧ spec_l6id.f a1 = some true ∧ decide (a2 < 0) = false ∧ decide (20000000 < a2) = false ∧ spec_l4whom.f k a3 al = some false) ∨ ((a6 != 0) = false ∧ (a7 != 0) = false ∧ nv = true ∧ nt = true ∧ spec_l6id.f a1 = some true ∧ decide (a2 < 0) = false ∧ decide (20000000 < a2) = false ∧ spec_l4whom.f k a3 al = some true ∧ spec_ValidBody.f k a5 = some false)) :
    Calls Tryz.prog 27 #[.agg #[.int .i64 1, .int .i64 a1, .int .i64 a2, .string a3, .slice aA al.length ac, .string a5, .int .i64 a6, .int .i64 a7, .int .i64 a8, .int .i64 a9, .string a10, .int .i64 a11, .int .i64 a12]] w fun e w' => e = .returned (.string ⟨#[]⟩) ∧ Below w.heap.size w w' := by
  have hu28 := Tryz.underlying28
  have hu26 := Tryz.underlying26
  have hu24 := Tryz.underlying24
  have hnv2 : (a8 == 0 && (a9 == 0 && a10.toList.isEmpty)) = nv := by rw [show a10.toList.isEmpty = (a10.toList == ([] : List UInt8)) from by cases a10.toList <;> rfl]; exact hv
  have HR := Aside0.mk hr
  have HC := Aside0.mk hc
  clear hr hc
  rcases zsplit ht with ⟨t1, t2⟩ | ⟨t1, t2⟩
  all_goals
    clear ht
    rcases h with f1 | ⟨f1, f2⟩ | ⟨f1, f2, rfl⟩ | ⟨f1, f2, rfl, rfl⟩ | ⟨f1, f2, rfl, rfl, c1⟩ | ⟨f1, f2, rfl, rfl, c1, f3⟩ | ⟨f1, f2, rfl, rfl, c1, f3, f4⟩ | ⟨f1, f2, rfl, rfl, c1, f3, f4, c2⟩ | ⟨f1, f2, rfl, rfl, c1, f3, f4, c2, c3⟩
    all_goals
      try (exact absurd t2 (by decide))
    all_goals
      go_enter Tryz.func27, Tryz.ntmps27
      go_upto_region 2 with (first | ((with_reducible refine gate_dst (N := 1) rfl ?_); refine box_event ?hg (N := 1) ?hd (cs := #[.int .i64 1, .int .i64 a1, .int .i64 a2, .string a3, .slice aA al.length ac, .string a5, .int .i64 a6, .int .i64 a7, .int .i64 a8, .int .i64 a9, .string a10, .int .i64 a11, .int .i64 a12]) (t := 28) ?hr ?_; (case hd => rfl); (case hg => rfl); (case hr => first | (go_simp; done) | (go_simp; rfl)); intro gb hgb wb hbb hbwb; have BB := Aside0.mk hbb; have GB := Aside0.mk (show w.heap.size ≤ gb by rw [hgb]; exact Nat.le_refl _); have HB := Aside0.mk hbwb; clear hbb hbwb hgb; obtain ⟨cb_0, cb_1, cb_2, cb_3, cb_4, cb_5, cb_6, cb_7, cb_8, cb_9, cb_10, cb_11, cb_12⟩ := zc13 BB.out; obtain ⟨fb_0, fb_1, fb_2, fb_3, fb_4, fb_5, fb_6, fb_7, fb_8, fb_9, fb_10, fb_11, fb_12⟩ := zf13 BB.out))
      (try simp only [Act.put, List.setIfInBounds_toArray, List.set_cons_zero, List.set_cons_succ])
      (first | simp only [hnv2] | simp only [hv] | skip)
      go_upto_region 5 with (first | ((with_reducible refine gate_dst (N := 5) rfl ?_); refine box_event ?hg (N := 5) ?hd (cs := #[.int .i64 0, .int .i64 0, .string (⟨#[]⟩ : ByteArray), .slice none 0 0, .string (⟨#[]⟩ : ByteArray)]) (t := 24) ?hr ?_; (case hd => rfl); (case hg => rfl); (case hr => first | (go_simp; done) | (go_simp; rfl)); intro gm hgm wm hbm hbwm; have BM := Aside0.mk hbm; have GM := Aside0.mk (show w.heap.size ≤ gm by rw [hgm]; exact HB.out.size); have BB2 := Aside0.mk (blk_below BB.out hbwm); have HB2 := Aside0.mk (HB.out.trans (hbwm.mono HB.out.size)); have NBM := Aside0.mk (show gb ≠ gm by rw [hgm]; exact Nat.ne_of_lt (blk_lt BB.out)); have nbm := NBM.out; have nmb := NBM.out.symm; clear hbm hbwm hgm; obtain ⟨cp_0, cp_1, cp_2, cp_3, cp_4, cp_5, cp_6, cp_7, cp_8, cp_9, cp_10, cp_11, cp_12⟩ := zc13 BB2.out; obtain ⟨fp_0, fp_1, fp_2, fp_3, fp_4, fp_5, fp_6, fp_7, fp_8, fp_9, fp_10, fp_11, fp_12⟩ := zf13 BB2.out; obtain ⟨cq_0, cq_1, cq_2, cq_3, cq_4⟩ := zc5 BM.out; obtain ⟨fq0, fq1, fq2, fq3, fq4⟩ := zf5 BM.out))
      have n1 := Aside0.mk (zp5 (u0 := .int .i64 a1) (u1 := .int .i64 a2) (u2 := .string a3) (u3 := .slice aA al.length ac) (u4 := .string a5) BM.out)
      have n2 := Aside0.mk (blk_far (p := ⟨gm, 4, none⟩) (blk_far (p := ⟨gm, 3, none⟩) (blk_far (p := ⟨gm, 2, none⟩) (blk_far (p := ⟨gm, 1, none⟩) (blk_far (p := ⟨gm, 0, none⟩) BB2.out NBM.out (.int .i64 a1)) NBM.out (.int .i64 a2)) NBM.out (.string a3)) NBM.out (.slice aA al.length ac)) NBM.out (.string a5))
      have n3 : Aside0 (Below w.heap.size w (((((wm.setCell ⟨gm, 0, none⟩ (.int .i64 a1)).setCell ⟨gm, 1, none⟩ (.int .i64 a2)).setCell ⟨gm, 2, none⟩ (.string a3)).setCell ⟨gm, 3, none⟩ (.slice aA al.length ac)).setCell ⟨gm, 4, none⟩ (.string a5))) := ⟨(below_set (below_set (below_set (below_set (below_set HB2.out GM.out) GM.out) GM.out) GM.out) GM.out)⟩
      generalize (((((wm.setCell ⟨gm, 0, none⟩ (.int .i64 a1)).setCell ⟨gm, 1, none⟩ (.int .i64 a2)).setCell ⟨gm, 2, none⟩ (.string a3)).setCell ⟨gm, 3, none⟩ (.slice aA al.length ac)).setCell ⟨gm, 4, none⟩ (.string a5)) = w5 at n1 n2 n3 ⊢
      have BM5 := n1
      have BB5 := n2
      have HB5 := n3
      clear n1 n2 n3 BM BB2 HB2 BB HB
      obtain ⟨cm_0, cm_1, cm_2, cm_3, cm_4⟩ := zc5 BM5.out
      obtain ⟨cr_0, cr_1, cr_2, cr_3, cr_4, cr_5, cr_6, cr_7, cr_8, cr_9, cr_10, cr_11, cr_12⟩ := zc13 BB5.out
      go_wp2_with (first | (go_at_call 53; (with_reducible refine (spec_l6id.calls _ _ _ c1).mono ?_); rintro e w' ⟨rfl, ⟨nd, rfl⟩⟩) | (go_at_call 54; (with_reducible refine (spec_l4whom.calls k a3 aA ac al _ _ (Kd.C_below HR.out (pw_below_drewN HB5.out _)) HC.out c2).mono ?_); rintro e w7 ⟨rfl, hb7⟩; have HB7 := Aside0.mk (below_step (pw_below_drewN HB5.out nd) hb7); have BM7 := Aside0.mk (blk_below (blk_drewN BM5.out nd) hb7); clear hb7; obtain ⟨ct_0, ct_1, ct_2, ct_3, ct_4⟩ := zc5 BM7.out) | (go_at_call 55; (with_reducible refine (spec_ValidBody.calls k a5 _ _ c3).mono ?_); rintro e w8 ⟨rfl, hb8⟩; have HB8 := Aside0.mk (below_step HB7.out hb8); have BM8 := Aside0.mk (blk_below BM7.out hb8); clear hb8; obtain ⟨cu_0, cu_1, cu_2, cu_3, cu_4⟩ := zc5 BM8.out))
      go_ret
      exact ⟨rfl, by first | exact HB8.out | exact HB7.out | exact pw_below_drewN HB5.out _ | exact HB5.out⟩
end Go.Proofs.YtnlembpmcbnpnaaGreatDoor.X
/- spec.PackRecord at a record that is no message and whose number or message bars it: nothing. -/
namespace Go.Proofs.YtnlembpmcbnpnaaGreatDoor.X
open Go Go.RowKit Go.Proofs.YtnlembpmcbnpnaaGreatDoorW.PrintWords Go.Proofs.YtnlembpmcbnpnaaGreatDoorW.PrintLast Go.Proofs.YtnlembpmcbnpnaaGreatDoorW.PrintMore
set_option linter.unusedVariables false
set_option linter.unusedSimpArgs false
attribute [local go_sem high] eqAV
set_option maxHeartbeats 8000000 in
set_option maxRecDepth 100000 in
theorem sp_n_no (a0 : Int) (a1 : Int) (a2 : Int) (a3 : ByteArray) (aA : Option Addr) (ac : Nat) (al : List ByteArray) (a5 : ByteArray) (a6 : Int) (a7 : Int) (a8 : Int) (a9 : Int) (a10 : ByteArray) (a11 : Int) (a12 : Int) (nv : Bool) (nt : Bool) (w : World) (hr : Kd.C Kd.string w aA al.length al) (hc : al.length ≤ ac) (hv : (a8 == 0 && (a9 == 0 && (a10.toList == ([] : List UInt8)))) = nv) (ht : (a11 == 0 && a12 == 0) = nt) (h1 : (a0 == 1) = false)
    (h : (spec_l6noMsg.f a1 a2 a3 al a5 = some false) ∨ (spec_l6noMsg.f a1 a2 a3 al a5 = some true ∧ spec_l6id.f a6 = some false ∧ (a0 == 6) = false) ∨ (spec_l6noMsg.f a1 a2 a3 al a5 = some true ∧ spec_l6id.f a6 = some false ∧ (a0 == 6) = true ∧ (a6 == 1000000) = false)) :
    Calls Tryz.prog 27 #[.agg #[.int .i64 a0, .int .i64 a1, .int .i64 a2, .string a3, .slice aA al.length ac, .string a5, .int .i64 a6, .int .i64 a7, .int .i64 a8, .int .i64 a9, .string a10, .int .i64 a11, .int .i64 a12]] w fun e w' => e = .returned (.string ⟨#[]⟩) ∧ Below w.heap.size w w' := by
  have hu28 := Tryz.underlying28
  have hu26 := Tryz.underlying26
  have hu24 := Tryz.underlying24
  have hnv2 : (a8 == 0 && (a9 == 0 && a10.toList.isEmpty)) = nv := by rw [show a10.toList.isEmpty = (a10.toList == ([] : List UInt8)) from by cases a10.toList <;> rfl]; exact hv
  have HR := Aside0.mk hr
  have HC := Aside0.mk hc
  clear hr hc
  go_enter Tryz.func27, Tryz.ntmps27
  go_upto_region 2 with (first | ((with_reducible refine gate_dst (N := 1) rfl ?_); refine box_event ?hg (N := 1) ?hd (cs := #[.int .i64 a0, .int .i64 a1, .int .i64 a2, .string a3, .slice aA al.length ac, .string a5, .int .i64 a6, .int .i64 a7, .int .i64 a8, .int .i64 a9, .string a10, .int .i64 a11, .int .i64 a12]) (t := 28) ?hr ?_; (case hd => rfl); (case hg => rfl); (case hr => first | (go_simp; done) | (go_simp; rfl)); intro gb hgb wb hbb hbwb; have BB := Aside0.mk hbb; have GB := Aside0.mk (show w.heap.size ≤ gb by rw [hgb]; exact Nat.le_refl _); have HB := Aside0.mk hbwb; clear hbb hbwb hgb; obtain ⟨cb_0, cb_1, cb_2, cb_3, cb_4, cb_5, cb_6, cb_7, cb_8, cb_9, cb_10, cb_11, cb_12⟩ := zc13 BB.out; obtain ⟨fb_0, fb_1, fb_2, fb_3, fb_4, fb_5, fb_6, fb_7, fb_8, fb_9, fb_10, fb_11, fb_12⟩ := zf13 BB.out))
  (try simp only [Act.put, List.setIfInBounds_toArray, List.set_cons_zero, List.set_cons_succ])
  (first | simp only [hnv2] | simp only [hv] | skip)
  go_cut [4] from 4 to 4 (fun v4 wc => v4 = .bool nt ∧ Aside0 (wc.heap[gb]? = some (.cells #[.int .i64 a0, .int .i64 a1, .int .i64 a2, .string a3, .slice aA al.length ac, .string a5, .int .i64 a6, .int .i64 a7, .int .i64 a8, .int .i64 a9, .string a10, .int .i64 a11, .int .i64 a12] 28 (0, 0))) ∧ Aside0 (Below w.heap.size w wc))
  case first =>
    rcases zsplit ht with ⟨t1, t2⟩ | ⟨t1, t2⟩
    all_goals (try (exact absurd t2 (by decide)))
    all_goals
      (try subst t2)
      go_wp2
      go_meet
      case rel => exact ⟨by first | rfl | (simp; done) | (simp [*]; done), ⟨(by (with_reducible repeat (first | refine blk_drewN ?_ _ | refine blk_drew ?_ | refine blk_alloc ?_ _)); exact BB.out)⟩, ⟨(by repeat (first | (with_reducible first | exact HB.out | apply below_alloc | apply pw_below_drewN | apply below_drew1) | exact HB.out))⟩⟩
  case rest =>
    obtain ⟨rfl, BB, HB⟩ := hcut
    clear cb_0 cb_1 cb_2 cb_3 cb_4 cb_5 cb_6 cb_7 cb_8 cb_9 cb_10 cb_11 cb_12 fb_0 fb_1 fb_2 fb_3 fb_4 fb_5 fb_6 fb_7 fb_8 fb_9 fb_10 fb_11 fb_12
    obtain ⟨ca_0, ca_1, ca_2, ca_3, ca_4, ca_5, ca_6, ca_7, ca_8, ca_9, ca_10, ca_11, ca_12⟩ := zc13 BB.out
    obtain ⟨fa_0, fa_1, fa_2, fa_3, fa_4, fa_5, fa_6, fa_7, fa_8, fa_9, fa_10, fa_11, fa_12⟩ := zf13 BB.out
    rcases h with c0 | ⟨c0, c1, i1⟩ | ⟨c0, c1, i1, i2⟩
    all_goals
      go_wp2_with (first | ((with_reducible refine gate_callee (f := 59) rfl ?_); refine goesL_ (some 110) rfl rfl Tryz.func59 (by kernel_rfl) rfl #[.agg #[.int .i64 a1, .int .i64 a2, .string a3, .slice aA al.length ac, .string a5]] rfl (by (try simp only [List.map_toArray, List.map_cons, List.map_nil]); first | done | rfl | (simp only [List.length_drop, List.length_take]; rfl)) ?_; (with_reducible refine (spec_l6noMsg.calls a1 a2 a3 _ _ al a5 _ _ ?side1 ?side2 c0).mono ?_); (case side1 => repeat (first | exact (Kd.C_below HR.out HB.out) | (with_reducible refine Kd.C_alloc ?_ _) | (with_reducible refine Kd.C_drewN ?_ _) | (with_reducible refine Kd.C_drew ?_))); (case side2 => exact HC.out); rintro e w7 ⟨rfl, hb⟩; refine ⟨_, rfl, ?_⟩; have n0 := Aside0.mk (blk_below (by (with_reducible repeat (first | refine blk_drewN ?_ _ | refine blk_drew ?_ | refine blk_alloc ?_ _)); exact BB.out) hb); have nb := Aside0.mk (below_step (by repeat (first | (with_reducible first | exact HB.out | apply below_alloc | apply pw_below_drewN | apply below_drew1) | exact HB.out)) hb); clear BB HB hb; have BB := n0; have HB := nb; clear n0 nb; obtain ⟨cn_0, cn_1, cn_2, cn_3, cn_4, cn_5, cn_6, cn_7, cn_8, cn_9, cn_10, cn_11, cn_12⟩ := zc13 BB.out; obtain ⟨fn_0, fn_1, fn_2, fn_3, fn_4, fn_5, fn_6, fn_7, fn_8, fn_9, fn_10, fn_11, fn_12⟩ := zf13 BB.out) | (go_at_call 53; (with_reducible refine (spec_l6id.calls _ _ _ c1).mono ?_); rintro e w' ⟨rfl, ⟨nd, rfl⟩⟩))
      go_ret
      exact ⟨by first | rfl | (simp; done) | (simp [*]; done), (by repeat (first | (with_reducible first | exact HB.out | apply below_alloc | apply pw_below_drewN | apply below_drew1) | exact HB.out))⟩
end Go.Proofs.YtnlembpmcbnpnaaGreatDoor.X
/- spec.PackRecord at a record that is no message, but whose message is nothing and whose number is right. -/
namespace Go.Proofs.YtnlembpmcbnpnaaGreatDoor.X
open Go Go.RowKit Go.Proofs.YtnlembpmcbnpnaaGreatDoorW.PrintWords Go.Proofs.YtnlembpmcbnpnaaGreatDoorW.PrintLast Go.Proofs.YtnlembpmcbnpnaaGreatDoorW.PrintMore
set_option linter.unusedVariables false
set_option linter.unusedSimpArgs false
attribute [local go_sem high] eqAV
theorem spt20 : rtab .any (opsOf Tryz.f27 20) = (true, [([], []), ([0], [0]), ([1], [1]), ([2], [2]), ([], []), ([4], [4]), ([5, 2], [5]), ([3, 6], [3, 6]), ([], []), ([8], [8]), ([9, 6], [9]), ([7, 10], [7, 10]), ([], []), ([12], [12]), ([13, 10], [13]), ([11, 14], [11, 14]), ([], []), ([16], [16]), ([17, 14], [17]), ([15, 18], [15, 18]), ([19, 18, 0, 1, 2, 3, 4, 5, 6, 7, 8, 9, 10, 11, 12, 13, 14, 15, 16, 17, 18, 19], [19])]) ∧ waitsOk ((true, [([], []), ([0], [0]), ([1], [1]), ([2], [2]), ([], []), ([4], [4]), ([5, 2], [5]), ([3, 6], [3, 6]), ([], []), ([8], [8]), ([9, 6], [9]), ([7, 10], [7, 10]), ([], []), ([12], [12]), ([13, 10], [13]), ([11, 14], [11, 14]), ([], []), ([16], [16]), ([17, 14], [17]), ([15, 18], [15, 18]), ([19, 18, 0, 1, 2, 3, 4, 5, 6, 7, 8, 9, 10, 11, 12, 13, 14, 15, 16, 17, 18, 19], [19])]) : Bool × List (List Nat × List Nat)).2 [0, 1, 3, 7, 0, 16, 55, 127, 0, 256, 887, 2047, 0, 4096, 14199, 32767, 0, 65536, 227191, 524287, 1048575] = true := ⟨by kernel_rfl, by kernel_rfl⟩
theorem spt23 : rtab .any (opsOf Tryz.f27 23) = (true, [([], []), ([0], [0]), ([1], [1]), ([2], [2]), ([], []), ([4], [4]), ([5, 2], [5]), ([3, 6], [3, 6]), ([7], [7]), ([], []), ([9], [9]), ([10, 6], [10]), ([8, 11], [8, 11]), ([12, 11, 0, 1, 2, 3, 4, 5, 6, 7, 8, 9, 10, 11, 12], [12])]) ∧ waitsOk ((true, [([], []), ([0], [0]), ([1], [1]), ([2], [2]), ([], []), ([4], [4]), ([5, 2], [5]), ([3, 6], [3, 6]), ([7], [7]), ([], []), ([9], [9]), ([10, 6], [10]), ([8, 11], [8, 11]), ([12, 11, 0, 1, 2, 3, 4, 5, 6, 7, 8, 9, 10, 11, 12], [12])]) : Bool × List (List Nat × List Nat)).2 [0, 1, 3, 7, 0, 16, 55, 127, 255, 0, 512, 1655, 4095, 8191] = true := ⟨by kernel_rfl, by kernel_rfl⟩
theorem spt28 : rtab .any (opsOf Tryz.f27 28) = (true, [([], []), ([], []), ([1], [1]), ([2], [2]), ([0, 3], [0, 3]), ([4], [4]), ([], []), ([6], [6]), ([7], [7]), ([5, 8], [5, 8]), ([9, 8, 0, 1, 2, 3, 4, 5, 6, 7, 8, 9], [9])]) ∧ waitsOk ((true, [([], []), ([], []), ([1], [1]), ([2], [2]), ([0, 3], [0, 3]), ([4], [4]), ([], []), ([6], [6]), ([7], [7]), ([5, 8], [5, 8]), ([9, 8, 0, 1, 2, 3, 4, 5, 6, 7, 8, 9], [9])]) : Bool × List (List Nat × List Nat)).2 [0, 0, 2, 6, 15, 31, 0, 64, 192, 511, 1023] = true := ⟨by kernel_rfl, by kernel_rfl⟩
set_option maxHeartbeats 8000000 in
set_option maxRecDepth 100000 in
theorem sp_n (a0 : Int) (a1 : Int) (a2 : Int) (a3 : ByteArray) (aA : Option Addr) (ac : Nat) (al : List ByteArray) (a5 : ByteArray) (a6 : Int) (a7 : Int) (a8 : Int) (a9 : Int) (a10 : ByteArray) (a11 : Int) (a12 : Int) (nv : Bool) (nt : Bool) (w : World) (hr : Kd.C Kd.string w aA al.length al) (hc : al.length ≤ ac) (hv : (a8 == 0 && (a9 == 0 && (a10.toList == ([] : List UInt8)))) = nv) (ht : (a11 == 0 && a12 == 0) = nt) (r : ByteArray) (h1 : (a0 == 1) = false) (c0 : spec_l6noMsg.f a1 a2 a3 al a5 = some true) (hi : spec_l6id.f a6 = some true ∨ spec_l6id.f a6 = some false ∧ (a0 == 6) = true ∧ (a6 == 1000000) = true)
    (h : (a0 == 2) = true ∧ (((nt = false) ∨ (nt = true ∧ decide (0 ≤ a7) = false) ∨ (nt = true ∧ decide (0 ≤ a7) = true ∧ decide (a7 < 20) = false) ∨ (nt = true ∧ decide (0 ≤ a7) = true ∧ decide (a7 < 20) = true ∧ decide (1 ≤ a8) = false) ∨ (nt = true ∧ decide (0 ≤ a7) = true ∧ decide (a7 < 20) = true ∧ decide (1 ≤ a8) = true ∧ decide (a8 ≤ 4) = false) ∨ (nt = true ∧ decide (0 ≤ a7) = true ∧ decide (a7 < 20) = true ∧ decide (1 ≤ a8) = true ∧ decide (a8 ≤ 4) = true ∧ spec_l4code.f a9 = some false) ∨ (nt = true ∧ decide (0 ≤ a7) = true ∧ decide (a7 < 20) = true ∧ decide (1 ≤ a8) = true ∧ decide (a8 ≤ 4) = true ∧ spec_l4code.f a9 = some true ∧ decide ((a10.size : Int) ≤ 512) = false)) ∧ r = (⟨#[]⟩ : ByteArray) ∨ nt = true ∧ decide (0 ≤ a7) = true ∧ decide (a7 < 20) = true ∧ decide (1 ≤ a8) = true ∧ decide (a8 ≤ 4) = true ∧ spec_l4code.f a9 = some true ∧ decide ((a10.size : Int) ≤ 512) = true ∧ ∃ t1 t2 t3 t4 t5, (∃ k, spec_l6num.f k a6 = some t1) ∧ (∃ k, spec_l6num.f k a7 = some t2) ∧ (∃ k, spec_l6num.f k a8 = some t3) ∧ (∃ k, spec_l6num.f k a9 = some t4) ∧ (∃ k, spec_l6str.f k a10 = some t5) ∧ 1 + t1.size ≤ 9223372036854775807 ∧ ((⟨#[86]⟩ : ByteArray) ++ t1).size + t2.size ≤ 9223372036854775807 ∧ (((⟨#[86]⟩ : ByteArray) ++ t1) ++ t2).size + t3.size ≤ 9223372036854775807 ∧ ((((⟨#[86]⟩ : ByteArray) ++ t1) ++ t2) ++ t3).size + t4.size ≤ 9223372036854775807 ∧ (((((⟨#[86]⟩ : ByteArray) ++ t1) ++ t2) ++ t3) ++ t4).size + t5.size ≤ 9223372036854775807 ∧ r = ((((((⟨#[86]⟩ : ByteArray) ++ t1) ++ t2) ++ t3) ++ t4) ++ t5)) ∨ (a0 == 2) = false ∧ (a0 == 3) = true ∧ (((nv = false) ∨ (nv = true ∧ (a7 == 0) = false) ∨ (nv = true ∧ (a7 == 0) = true ∧ decide (0 ≤ a11) = false) ∨ (nv = true ∧ (a7 == 0) = true ∧ decide (0 ≤ a11) = true ∧ decide (a11 ≤ 999999) = false) ∨ (nv = true ∧ (a7 == 0) = true ∧ decide (0 ≤ a11) = true ∧ decide (a11 ≤ 999999) = true ∧ decide (0 ≤ a12) = false) ∨ (nv = true ∧ (a7 == 0) = true ∧ decide (0 ≤ a11) = true ∧ decide (a11 ≤ 999999) = true ∧ decide (0 ≤ a12) = true ∧ decide (a12 ≤ 20014400) = false)) ∧ r = (⟨#[]⟩ : ByteArray) ∨ nv = true ∧ (a7 == 0) = true ∧ decide (0 ≤ a11) = true ∧ decide (a11 ≤ 999999) = true ∧ decide (0 ≤ a12) = true ∧ decide (a12 ≤ 20014400) = true ∧ ∃ t1 t2 t3, (∃ k, spec_l6num.f k a6 = some t1) ∧ (∃ k, spec_l6num.f k a11 = some t2) ∧ (∃ k, spec_l2decimal.f k a12 = some t3) ∧ 1 + t1.size ≤ 9223372036854775807 ∧ ((⟨#[84]⟩ : ByteArray) ++ t1).size + t2.size ≤ 9223372036854775807 ∧ (((⟨#[84]⟩ : ByteArray) ++ t1) ++ t2).size + 1 ≤ 9223372036854775807 ∧ ((((⟨#[84]⟩ : ByteArray) ++ t1) ++ t2) ++ (⟨#[32]⟩ : ByteArray)).size + t3.size ≤ 9223372036854775807 ∧ r = (((((⟨#[84]⟩ : ByteArray) ++ t1) ++ t2) ++ (⟨#[32]⟩ : ByteArray)) ++ t3)) ∨ (a0 == 2) = false ∧ (a0 == 3) = false ∧ ((a0 == 4) = true ∨ (a0 == 4) = false ∧ (a0 == 5) = true ∨ (a0 == 4) = false ∧ (a0 == 5) = false ∧ (a0 == 6) = true) ∧ (((nv = false) ∨ (nv = true ∧ nt = false) ∨ (nv = true ∧ nt = true ∧ (a7 == 0) = false)) ∧ r = (⟨#[]⟩ : ByteArray) ∨ nv = true ∧ nt = true ∧ (a7 == 0) = true ∧ ∃ (j : Int) (t1 : ByteArray), (∃ k, spec_l6num.f k a6 = some t1) ∧ wrap64 (a0 - 4) = j ∧ decide (0 ≤ j) = true ∧ decide (j < 3) = true ∧ (rdOf ByteArray.empty [(⟨#[66]⟩ : ByteArray), (⟨#[68]⟩ : ByteArray), (⟨#[78]⟩ : ByteArray)] j).size + t1.size ≤ 9223372036854775807 ∧ r = (rdOf ByteArray.empty [(⟨#[66]⟩ : ByteArray), (⟨#[68]⟩ : ByteArray), (⟨#[78]⟩ : ByteArray)] j) ++ t1) ∨ (a0 == 2) = false ∧ (a0 == 3) = false ∧ (a0 == 4) = false ∧ (a0 == 5) = false ∧ (a0 == 6) = false ∧ r = (⟨#[]⟩ : ByteArray)) :
    Calls Tryz.prog 27 #[.agg #[.int .i64 a0, .int .i64 a1, .int .i64 a2, .string a3, .slice aA al.length ac, .string a5, .int .i64 a6, .int .i64 a7, .int .i64 a8, .int .i64 a9, .string a10, .int .i64 a11, .int .i64 a12]] w fun e w' => e = .returned (.string r) ∧ Below w.heap.size w w' := by
  have HW := Aside0.mk h
  clear h
  have hu28 := Tryz.underlying28
  have hu26 := Tryz.underlying26
  have hu24 := Tryz.underlying24
  have hnv2 : (a8 == 0 && (a9 == 0 && a10.toList.isEmpty)) = nv := by rw [show a10.toList.isEmpty = (a10.toList == ([] : List UInt8)) from by cases a10.toList <;> rfl]; exact hv
  have HR := Aside0.mk hr
  have HC := Aside0.mk hc
  clear hr hc
  go_enter Tryz.func27, Tryz.ntmps27
  go_upto_region 2 with (first | ((with_reducible refine gate_dst (N := 1) rfl ?_); refine box_event ?hg (N := 1) ?hd (cs := #[.int .i64 a0, .int .i64 a1, .int .i64 a2, .string a3, .slice aA al.length ac, .string a5, .int .i64 a6, .int .i64 a7, .int .i64 a8, .int .i64 a9, .string a10, .int .i64 a11, .int .i64 a12]) (t := 28) ?hr ?_; (case hd => rfl); (case hg => rfl); (case hr => first | (go_simp; done) | (go_simp; rfl)); intro gb hgb wb hbb hbwb; have BB := Aside0.mk hbb; have GB := Aside0.mk (show w.heap.size ≤ gb by rw [hgb]; exact Nat.le_refl _); have HB := Aside0.mk hbwb; clear hbb hbwb hgb; obtain ⟨cb_0, cb_1, cb_2, cb_3, cb_4, cb_5, cb_6, cb_7, cb_8, cb_9, cb_10, cb_11, cb_12⟩ := zc13 BB.out; obtain ⟨fb_0, fb_1, fb_2, fb_3, fb_4, fb_5, fb_6, fb_7, fb_8, fb_9, fb_10, fb_11, fb_12⟩ := zf13 BB.out))
  (try simp only [Act.put, List.setIfInBounds_toArray, List.set_cons_zero, List.set_cons_succ])
  (first | simp only [hnv2] | simp only [hv] | skip)
  go_cut [4] from 4 to 4 (fun v4 wc => v4 = .bool nt ∧ Aside0 (wc.heap[gb]? = some (.cells #[.int .i64 a0, .int .i64 a1, .int .i64 a2, .string a3, .slice aA al.length ac, .string a5, .int .i64 a6, .int .i64 a7, .int .i64 a8, .int .i64 a9, .string a10, .int .i64 a11, .int .i64 a12] 28 (0, 0))) ∧ Aside0 (Below w.heap.size w wc))
  case first =>
    rcases zsplit ht with ⟨t1, t2⟩ | ⟨t1, t2⟩
    all_goals (try (exact absurd t2 (by decide)))
    all_goals
      (try subst t2)
      go_wp2
      go_meet
      case rel => exact ⟨by first | rfl | (simp; done) | (simp [*]; done), ⟨(by (with_reducible repeat (first | refine blk_drewN ?_ _ | refine blk_drew ?_ | refine blk_alloc ?_ _)); exact BB.out)⟩, ⟨(by repeat (first | (with_reducible first | exact HB.out | apply below_alloc | apply pw_below_drewN | apply below_drew1) | exact HB.out))⟩⟩
  case rest =>
    obtain ⟨rfl, BB, HB⟩ := hcut
    clear cb_0 cb_1 cb_2 cb_3 cb_4 cb_5 cb_6 cb_7 cb_8 cb_9 cb_10 cb_11 cb_12 fb_0 fb_1 fb_2 fb_3 fb_4 fb_5 fb_6 fb_7 fb_8 fb_9 fb_10 fb_11 fb_12
    obtain ⟨ca_0, ca_1, ca_2, ca_3, ca_4, ca_5, ca_6, ca_7, ca_8, ca_9, ca_10, ca_11, ca_12⟩ := zc13 BB.out
    obtain ⟨fa_0, fa_1, fa_2, fa_3, fa_4, fa_5, fa_6, fa_7, fa_8, fa_9, fa_10, fa_11, fa_12⟩ := zf13 BB.out
    go_upto_region 14 with (fail)
    go_cut [128] from 128 to 128 (fun v128 wc => v128 = .bool false ∧ Aside0 (wc.heap[gb]? = some (.cells #[.int .i64 a0, .int .i64 a1, .int .i64 a2, .string a3, .slice aA al.length ac, .string a5, .int .i64 a6, .int .i64 a7, .int .i64 a8, .int .i64 a9, .string a10, .int .i64 a11, .int .i64 a12] 28 (0, 0))) ∧ Aside0 (Below w.heap.size w wc))
    case first =>
      rcases hi with c1 | ⟨c1, i1, i2⟩
      all_goals
        go_wp2_with (first | ((with_reducible refine gate_callee (f := 59) rfl ?_); refine goesL_ (some 110) rfl rfl Tryz.func59 (by kernel_rfl) rfl #[.agg #[.int .i64 a1, .int .i64 a2, .string a3, .slice aA al.length ac, .string a5]] rfl (by (try simp only [List.map_toArray, List.map_cons, List.map_nil]); first | done | rfl | (simp only [List.length_drop, List.length_take]; rfl)) ?_; (with_reducible refine (spec_l6noMsg.calls a1 a2 a3 _ _ al a5 _ _ ?side1 ?side2 c0).mono ?_); (case side1 => repeat (first | exact (Kd.C_below HR.out HB.out) | (with_reducible refine Kd.C_alloc ?_ _) | (with_reducible refine Kd.C_drewN ?_ _) | (with_reducible refine Kd.C_drew ?_))); (case side2 => exact HC.out); rintro e w7 ⟨rfl, hb⟩; refine ⟨_, rfl, ?_⟩; have n0 := Aside0.mk (blk_below (by (with_reducible repeat (first | refine blk_drewN ?_ _ | refine blk_drew ?_ | refine blk_alloc ?_ _)); exact BB.out) hb); have nb := Aside0.mk (below_step (by repeat (first | (with_reducible first | exact HB.out | apply below_alloc | apply pw_below_drewN | apply below_drew1) | exact HB.out)) hb); clear BB HB hb; have BB := n0; have HB := nb; clear n0 nb; obtain ⟨cn_0, cn_1, cn_2, cn_3, cn_4, cn_5, cn_6, cn_7, cn_8, cn_9, cn_10, cn_11, cn_12⟩ := zc13 BB.out; obtain ⟨fn_0, fn_1, fn_2, fn_3, fn_4, fn_5, fn_6, fn_7, fn_8, fn_9, fn_10, fn_11, fn_12⟩ := zf13 BB.out) | (go_at_call 53; (with_reducible refine (spec_l6id.calls _ _ _ c1).mono ?_); rintro e w' ⟨rfl, ⟨nd, rfl⟩⟩))
        go_meet
        case rel => exact ⟨by first | rfl | (simp; done) | (simp [*]; done), ⟨(by (with_reducible repeat (first | refine blk_drewN ?_ _ | refine blk_drew ?_ | refine blk_alloc ?_ _)); exact BB.out)⟩, ⟨(by repeat (first | (with_reducible first | exact HB.out | apply below_alloc | apply pw_below_drewN | apply below_drew1) | exact HB.out))⟩⟩
    case rest =>
      obtain ⟨rfl, BB, HB⟩ := hcut
      obtain ⟨cc_0, cc_1, cc_2, cc_3, cc_4, cc_5, cc_6, cc_7, cc_8, cc_9, cc_10, cc_11, cc_12⟩ := zc13 BB.out
      obtain ⟨fc_0, fc_1, fc_2, fc_3, fc_4, fc_5, fc_6, fc_7, fc_8, fc_9, fc_10, fc_11, fc_12⟩ := zf13 BB.out
      clear hi hnv2 hv ht
      have h := HW.out
      clear HW
      rcases h with ⟨f2, h⟩ | ⟨f2, f3, h⟩ | ⟨f2, f3, hk, h⟩ | ⟨f2, f3, f4, f5, f6, rfl⟩
      · go_upto_region 19 with (first | ((with_reducible refine gate_dst (N := 9) rfl ?_); refine box_event ?hg (N := 9) ?hd (cs := #[.int .i64 0, .int .i64 0, .string (⟨#[]⟩ : ByteArray)]) (t := 26) ?hr ?_; (case hd => rfl); (case hg => rfl); (case hr => first | (go_simp; done) | (go_simp; rfl)); intro gv hgv wv hbv hbwv; have n0 := Aside0.mk hbv; have n1 := Aside0.mk (blk_below (by (with_reducible repeat (first | refine blk_drewN ?_ _ | refine blk_drew ?_ | refine blk_alloc ?_ _)); exact BB.out) hbwv); have n2 := Aside0.mk (below_step (by repeat (first | (with_reducible first | exact HB.out | apply below_alloc | apply pw_below_drewN | apply below_drew1) | exact HB.out)) hbwv); have GV := Aside0.mk (show w.heap.size ≤ gv by rw [hgv]; exact below_size (by repeat (first | (with_reducible first | exact HB.out | apply below_alloc | apply pw_below_drewN | apply below_drew1) | exact HB.out))); have NBV := Aside0.mk (show gb ≠ gv by rw [hgv]; exact Nat.ne_of_lt (blk_lt ((by (with_reducible repeat (first | refine blk_drewN ?_ _ | refine blk_drew ?_ | refine blk_alloc ?_ _)); exact BB.out) : _))); have nbv := NBV.out; have nvb := NBV.out.symm; clear BB HB hbv hbwv hgv; have BV := n0; have BB := n1; have HB := n2; clear n0 n1 n2; obtain ⟨cv_0, cv_1, cv_2⟩ := zc3 BV.out; obtain ⟨cw_0, cw_1, cw_2, cw_3, cw_4, cw_5, cw_6, cw_7, cw_8, cw_9, cw_10, cw_11, cw_12⟩ := zc13 BB.out; obtain ⟨fq0, fq1, fq2⟩ := zf3 BV.out))
        have n1 := Aside0.mk (zp3 (u0 := .int .i64 a8) (u1 := .int .i64 a9) (u2 := .string a10) BV.out)
        have n2 := Aside0.mk (blk_far (p := ⟨gv, 2, none⟩) (blk_far (p := ⟨gv, 1, none⟩) (blk_far (p := ⟨gv, 0, none⟩) BB.out NBV.out (.int .i64 a8)) NBV.out (.int .i64 a9)) NBV.out (.string a10))
        have n3 : Aside0 (Below w.heap.size w (((wv.setCell ⟨gv, 0, none⟩ (.int .i64 a8)).setCell ⟨gv, 1, none⟩ (.int .i64 a9)).setCell ⟨gv, 2, none⟩ (.string a10))) := ⟨(below_set (below_set (below_set HB.out GV.out) GV.out) GV.out)⟩
        generalize (((wv.setCell ⟨gv, 0, none⟩ (.int .i64 a8)).setCell ⟨gv, 1, none⟩ (.int .i64 a9)).setCell ⟨gv, 2, none⟩ (.string a10)) = w9 at n1 n2 n3 ⊢
        clear BV BB HB
        have BV := n1
        have BB := n2
        have HB := n3
        clear n1 n2 n3
        obtain ⟨cx_0, cx_1, cx_2⟩ := zc3 BV.out
        obtain ⟨cy_0, cy_1, cy_2, cy_3, cy_4, cy_5, cy_6, cy_7, cy_8, cy_9, cy_10, cy_11, cy_12⟩ := zc13 BB.out
        rcases h with ⟨h, rfl⟩ | ⟨rfl, h1, h2, h3, h4, c2, h5, t1, t2, t3, t4, t5, ⟨k1, e1⟩, ⟨k2, e2⟩, ⟨k3, e3⟩, ⟨k4, e4⟩, ⟨k5, e5⟩, q0, q1, q2, q3, q4, rfl⟩
        · rcases h with rfl | ⟨rfl, h1⟩ | ⟨rfl, h1, h2⟩ | ⟨rfl, h1, h2, h3⟩ | ⟨rfl, h1, h2, h3, h4⟩ | ⟨rfl, h1, h2, h3, h4, c2⟩ | ⟨rfl, h1, h2, h3, h4, c2, h6⟩
          all_goals
            go_wp2_with (first | (go_at_call 60; (with_reducible refine (spec_l4code.calls _ _ _ c2).mono ?_); rintro e w' ⟨rfl, ⟨nd, rfl⟩⟩))
            go_ret
            exact ⟨by first | rfl | (simp; done) | (simp [*]; done), (by repeat (first | (with_reducible first | exact HB.out | apply below_alloc | apply pw_below_drewN | apply below_drew1) | exact HB.out))⟩
        · go_cut [166] from 166 to 166 (fun v166 wc => v166 = .bool true ∧ Aside0 (wc.heap[gb]? = some (.cells #[.int .i64 a0, .int .i64 a1, .int .i64 a2, .string a3, .slice aA al.length ac, .string a5, .int .i64 a6, .int .i64 a7, .int .i64 a8, .int .i64 a9, .string a10, .int .i64 a11, .int .i64 a12] 28 (0, 0))) ∧ Aside0 (wc.heap[gv]? = some (.cells #[.int .i64 a8, .int .i64 a9, .string a10] 26 (0, 0))) ∧ Aside0 (Below w.heap.size w wc))
          case first =>
            go_wp2_with (first | (go_at_call 60; (with_reducible refine (spec_l4code.calls _ _ _ c2).mono ?_); rintro e w' ⟨rfl, ⟨nd, rfl⟩⟩))
            go_meet
            case rel => exact ⟨by first | rfl | (simp; done) | (simp [*]; done), ⟨(by (with_reducible repeat (first | refine blk_drewN ?_ _ | refine blk_drew ?_ | refine blk_alloc ?_ _)); exact BB.out)⟩, ⟨(by (with_reducible repeat (first | refine blk_drewN ?_ _ | refine blk_drew ?_ | refine blk_alloc ?_ _)); exact BV.out)⟩, ⟨(by repeat (first | (with_reducible first | exact HB.out | apply below_alloc | apply pw_below_drewN | apply below_drew1) | exact HB.out))⟩⟩
          case rest =>
            obtain ⟨rfl, BB, BV, HB⟩ := hcut
            have q0a := eq_false (Nat.not_lt.2 q0)
            have q0b := q0a
            try simp only [ByteArray.size_append, ByteArray.size_extract, Nat.min_self, Nat.sub_zero, show (⟨#[86]⟩ : ByteArray).size = 1 from rfl, show (⟨#[32]⟩ : ByteArray).size = 1 from rfl] at q0b
            have q0c := decide_eq_true q0
            replace q0 := eq_true q0
            have q1a := eq_false (Nat.not_lt.2 q1)
            have q1b := q1a
            try simp only [ByteArray.size_append, ByteArray.size_extract, Nat.min_self, Nat.sub_zero, show (⟨#[86]⟩ : ByteArray).size = 1 from rfl, show (⟨#[32]⟩ : ByteArray).size = 1 from rfl] at q1b
            have q1c := decide_eq_true q1
            replace q1 := eq_true q1
            have q2a := eq_false (Nat.not_lt.2 q2)
            have q2b := q2a
            try simp only [ByteArray.size_append, ByteArray.size_extract, Nat.min_self, Nat.sub_zero, show (⟨#[86]⟩ : ByteArray).size = 1 from rfl, show (⟨#[32]⟩ : ByteArray).size = 1 from rfl] at q2b
            have q2c := decide_eq_true q2
            replace q2 := eq_true q2
            have q3a := eq_false (Nat.not_lt.2 q3)
            have q3b := q3a
            try simp only [ByteArray.size_append, ByteArray.size_extract, Nat.min_self, Nat.sub_zero, show (⟨#[86]⟩ : ByteArray).size = 1 from rfl, show (⟨#[32]⟩ : ByteArray).size = 1 from rfl] at q3b
            have q3c := decide_eq_true q3
            replace q3 := eq_true q3
            have q4a := eq_false (Nat.not_lt.2 q4)
            have q4b := q4a
            try simp only [ByteArray.size_append, ByteArray.size_extract, Nat.min_self, Nat.sub_zero, show (⟨#[86]⟩ : ByteArray).size = 1 from rfl, show (⟨#[32]⟩ : ByteArray).size = 1 from rfl] at q4b
            have q4c := decide_eq_true q4
            replace q4 := eq_true q4
            try go_wp2
            have n0 := Aside0.mk (blk_drew BB.out)
            have n1 := Aside0.mk (blk_drew BV.out)
            have nb := Aside0.mk (below_drew1 HB.out)
            clear BB BV HB
            have BB := n0
            have BV := n1
            have HB := nb
            clear n0 n1 nb
            refine start_ (n := 21) (S := fun w' => (w'.heap[gb]? = some (.cells #[.int .i64 a0, .int .i64 a1, .int .i64 a2, .string a3, .slice aA al.length ac, .string a5, .int .i64 a6, .int .i64 a7, .int .i64 a8, .int .i64 a9, .string a10, .int .i64 a11, .int .i64 a12] 28 (0, 0))) ∧ (w'.heap[gv]? = some (.cells #[.int .i64 a8, .int .i64 a9, .string a10] 26 (0, 0)))) (ds := []) (zfl 21 []) (by kernel_rfl) rfl rfl ⟨BB.out, BV.out⟩ (fun hHeld => ?_); refine with_tabW spt20.1 spt20.2 (fun HT_ HW_ => ?_)
            generalize wc.drew = w6 at BB BV HB hHeld ⊢
            refine zpu 0 167 (zfl 21 [0]) HT_ ?_
            refine zpu 4 171 (zfl 21 [0, 4]) HT_ ?_
            refine zpu 8 175 (zfl 21 [0, 4, 8]) HT_ ?_
            refine zpu 12 179 (zfl 21 [0, 4, 8, 12]) HT_ ?_
            refine zpu 16 183 (zfl 21 [0, 4, 8, 12, 16]) HT_ ?_
            refine ztk 1 168 (zfl 21 [0, 1, 4, 8, 12, 16]) HT_ HW_ hHeld (hy := by refine Or.inl ⟨by rfl, ?_⟩; rintro w' ⟨z1, z2⟩; obtain ⟨s_0, s_1, s_2, s_3, s_4, s_5, s_6, s_7, s_8, s_9, s_10, s_11, s_12⟩ := zc13 z1; obtain ⟨u_0, u_1, u_2⟩ := zc3 z2; go_simp; with_reducible rfl) ?_
            refine ztk 5 172 (zfl 21 [0, 1, 4, 5, 8, 12, 16]) HT_ HW_ hHeld (hy := by refine Or.inl ⟨by rfl, ?_⟩; rintro w' ⟨z1, z2⟩; obtain ⟨s_0, s_1, s_2, s_3, s_4, s_5, s_6, s_7, s_8, s_9, s_10, s_11, s_12⟩ := zc13 z1; obtain ⟨u_0, u_1, u_2⟩ := zc3 z2; go_simp; with_reducible rfl) ?_
            refine ztk 9 176 (zfl 21 [0, 1, 4, 5, 8, 9, 12, 16]) HT_ HW_ hHeld (hy := by refine Or.inl ⟨by rfl, ?_⟩; rintro w' ⟨z1, z2⟩; obtain ⟨s_0, s_1, s_2, s_3, s_4, s_5, s_6, s_7, s_8, s_9, s_10, s_11, s_12⟩ := zc13 z1; obtain ⟨u_0, u_1, u_2⟩ := zc3 z2; go_simp; with_reducible rfl) ?_
            refine ztk 13 180 (zfl 21 [0, 1, 4, 5, 8, 9, 12, 13, 16]) HT_ HW_ hHeld (hy := by refine Or.inl ⟨by rfl, ?_⟩; rintro w' ⟨z1, z2⟩; obtain ⟨s_0, s_1, s_2, s_3, s_4, s_5, s_6, s_7, s_8, s_9, s_10, s_11, s_12⟩ := zc13 z1; obtain ⟨u_0, u_1, u_2⟩ := zc3 z2; go_simp; with_reducible rfl) ?_
            refine ztk 17 184 (zfl 21 [0, 1, 4, 5, 8, 9, 12, 13, 16, 17]) HT_ HW_ hHeld (hy := by refine Or.inl ⟨by rfl, ?_⟩; rintro w' ⟨z1, z2⟩; obtain ⟨s_0, s_1, s_2, s_3, s_4, s_5, s_6, s_7, s_8, s_9, s_10, s_11, s_12⟩ := zc13 z1; obtain ⟨u_0, u_1, u_2⟩ := zc3 z2; go_simp; with_reducible rfl) ?_
            refine zon 2 169 (zfl 21 [0, 1, 2, 4, 5, 8, 9, 12, 13, 16, 17]) HT_ (fun K hK => ?_)
            refine goes_ Tryz.func56 (by kernel_rfl) rfl #[.int .i64 a6] (by rfl) rfl rfl (by (try simp only [List.map_toArray, List.map_cons, List.map_nil]); first | done | rfl | (simp only [List.length_drop, List.length_take]; rfl)) ?_
            with_reducible refine (spec_l6num.calls k1 a6 t1 _ e1).mono ?_
            rintro e w5 ⟨rfl, hb⟩
            refine ⟨_, rfl, ?_⟩
            have n0 := Aside0.mk (blk_below (by (with_reducible repeat (first | refine blk_drewN ?_ _ | refine blk_drew ?_ | refine blk_alloc ?_ _)); exact BB.out) hb); have n1 := Aside0.mk (blk_below (by (with_reducible repeat (first | refine blk_drewN ?_ _ | refine blk_drew ?_ | refine blk_alloc ?_ _)); exact BV.out) hb); have nb := Aside0.mk (below_step (by repeat (first | (with_reducible first | exact HB.out | apply below_alloc | apply pw_below_drewN | apply below_drew1) | exact HB.out)) hb); clear BB BV HB hb; have BB := n0; have BV := n1; have HB := nb; clear n0 n1 nb
            refine hK.out _ _ ⟨BB.out, BV.out⟩ (fun hHeld => ?_)
            clear hK K
            refine znm ?_
            refine zpu 3 170 (zfl 21 [0, 1, 2, 3, 4, 5, 8, 9, 12, 13, 16, 17]) HT_ ?_
            refine zon 6 173 (zfl 21 [0, 1, 2, 3, 4, 5, 6, 8, 9, 12, 13, 16, 17]) HT_ (fun K hK => ?_)
            refine goes_ Tryz.func56 (by kernel_rfl) rfl #[.int .i64 a7] (by rfl) rfl rfl (by (try simp only [List.map_toArray, List.map_cons, List.map_nil]); first | done | rfl | (simp only [List.length_drop, List.length_take]; rfl)) ?_
            with_reducible refine (spec_l6num.calls k2 a7 t2 _ e2).mono ?_
            rintro e w5 ⟨rfl, hb⟩
            refine ⟨_, rfl, ?_⟩
            have n0 := Aside0.mk (blk_below (by (with_reducible repeat (first | refine blk_drewN ?_ _ | refine blk_drew ?_ | refine blk_alloc ?_ _)); exact BB.out) hb); have n1 := Aside0.mk (blk_below (by (with_reducible repeat (first | refine blk_drewN ?_ _ | refine blk_drew ?_ | refine blk_alloc ?_ _)); exact BV.out) hb); have nb := Aside0.mk (below_step (by repeat (first | (with_reducible first | exact HB.out | apply below_alloc | apply pw_below_drewN | apply below_drew1) | exact HB.out)) hb); clear BB BV HB hb; have BB := n0; have BV := n1; have HB := nb; clear n0 n1 nb
            refine hK.out _ _ ⟨BB.out, BV.out⟩ (fun hHeld => ?_)
            clear hK K
            refine znm ?_
            refine zpu 7 174 (zfl 21 [0, 1, 2, 3, 4, 5, 6, 7, 8, 9, 12, 13, 16, 17]) HT_ ?_
            refine zon 10 177 (zfl 21 [0, 1, 2, 3, 4, 5, 6, 7, 8, 9, 10, 12, 13, 16, 17]) HT_ (fun K hK => ?_)
            refine goes_ Tryz.func56 (by kernel_rfl) rfl #[.int .i64 a8] (by rfl) rfl rfl (by (try simp only [List.map_toArray, List.map_cons, List.map_nil]); first | done | rfl | (simp only [List.length_drop, List.length_take]; rfl)) ?_
            with_reducible refine (spec_l6num.calls k3 a8 t3 _ e3).mono ?_
            rintro e w5 ⟨rfl, hb⟩
            refine ⟨_, rfl, ?_⟩
            have n0 := Aside0.mk (blk_below (by (with_reducible repeat (first | refine blk_drewN ?_ _ | refine blk_drew ?_ | refine blk_alloc ?_ _)); exact BB.out) hb); have n1 := Aside0.mk (blk_below (by (with_reducible repeat (first | refine blk_drewN ?_ _ | refine blk_drew ?_ | refine blk_alloc ?_ _)); exact BV.out) hb); have nb := Aside0.mk (below_step (by repeat (first | (with_reducible first | exact HB.out | apply below_alloc | apply pw_below_drewN | apply below_drew1) | exact HB.out)) hb); clear BB BV HB hb; have BB := n0; have BV := n1; have HB := nb; clear n0 n1 nb
            refine hK.out _ _ ⟨BB.out, BV.out⟩ (fun hHeld => ?_)
            clear hK K
            refine znm ?_
            refine zpu 11 178 (zfl 21 [0, 1, 2, 3, 4, 5, 6, 7, 8, 9, 10, 11, 12, 13, 16, 17]) HT_ ?_
            refine zon 14 181 (zfl 21 [0, 1, 2, 3, 4, 5, 6, 7, 8, 9, 10, 11, 12, 13, 14, 16, 17]) HT_ (fun K hK => ?_)
            refine goes_ Tryz.func56 (by kernel_rfl) rfl #[.int .i64 a9] (by rfl) rfl rfl (by (try simp only [List.map_toArray, List.map_cons, List.map_nil]); first | done | rfl | (simp only [List.length_drop, List.length_take]; rfl)) ?_
            with_reducible refine (spec_l6num.calls k4 a9 t4 _ e4).mono ?_
            rintro e w5 ⟨rfl, hb⟩
            refine ⟨_, rfl, ?_⟩
            have n0 := Aside0.mk (blk_below (by (with_reducible repeat (first | refine blk_drewN ?_ _ | refine blk_drew ?_ | refine blk_alloc ?_ _)); exact BB.out) hb); have n1 := Aside0.mk (blk_below (by (with_reducible repeat (first | refine blk_drewN ?_ _ | refine blk_drew ?_ | refine blk_alloc ?_ _)); exact BV.out) hb); have nb := Aside0.mk (below_step (by repeat (first | (with_reducible first | exact HB.out | apply below_alloc | apply pw_below_drewN | apply below_drew1) | exact HB.out)) hb); clear BB BV HB hb; have BB := n0; have BV := n1; have HB := nb; clear n0 n1 nb
            refine hK.out _ _ ⟨BB.out, BV.out⟩ (fun hHeld => ?_)
            clear hK K
            refine znm ?_
            refine zpu 15 182 (zfl 21 [0, 1, 2, 3, 4, 5, 6, 7, 8, 9, 10, 11, 12, 13, 14, 15, 16, 17]) HT_ ?_
            refine zon 18 185 (zfl 21 [0, 1, 2, 3, 4, 5, 6, 7, 8, 9, 10, 11, 12, 13, 14, 15, 16, 17, 18]) HT_ (fun K hK => ?_)
            refine goes_ Tryz.func58 (by kernel_rfl) rfl #[.string a10] (by rfl) rfl rfl (by (try simp only [List.map_toArray, List.map_cons, List.map_nil]); first | done | rfl | (simp only [List.length_drop, List.length_take]; rfl)) ?_
            with_reducible refine (spec_l6str.calls k5 a10 t5 _ e5).mono ?_
            rintro e w5 ⟨rfl, hb⟩
            refine ⟨_, rfl, ?_⟩
            have n0 := Aside0.mk (blk_below (by (with_reducible repeat (first | refine blk_drewN ?_ _ | refine blk_drew ?_ | refine blk_alloc ?_ _)); exact BB.out) hb); have n1 := Aside0.mk (blk_below (by (with_reducible repeat (first | refine blk_drewN ?_ _ | refine blk_drew ?_ | refine blk_alloc ?_ _)); exact BV.out) hb); have nb := Aside0.mk (below_step (by repeat (first | (with_reducible first | exact HB.out | apply below_alloc | apply pw_below_drewN | apply below_drew1) | exact HB.out)) hb); clear BB BV HB hb; have BB := n0; have BV := n1; have HB := nb; clear n0 n1 nb
            refine hK.out _ _ ⟨BB.out, BV.out⟩ (fun hHeld => ?_)
            clear hK K
            refine znm ?_
            refine zpu 19 186 (zfl 21 [0, 1, 2, 3, 4, 5, 6, 7, 8, 9, 10, 11, 12, 13, 14, 15, 16, 17, 18, 19]) HT_ ?_
            refine zpu 20 2 (zfl 21 [0, 1, 2, 3, 4, 5, 6, 7, 8, 9, 10, 11, 12, 13, 14, 15, 16, 17, 18, 19, 20]) HT_ ?_
            refine done_ (done_of HT_.out (by kernel_rfl)) ?_
            try go_wp2
            go_ret
            exact ⟨by first | rfl | (simp; done) | (simp [*]; done), (by repeat (first | (with_reducible first | exact HB.out | apply below_alloc | apply pw_below_drewN | apply below_drew1) | exact HB.out))⟩
      · go_upto_region 22 with (fail)
        rcases h with ⟨h, rfl⟩ | ⟨rfl, h1, h2, h3, h4, h5, t1, t2, t3, ⟨k1, e1⟩, ⟨k2, e2⟩, ⟨k3, e3⟩, q0, q1, q2, q3, rfl⟩
        · rcases h with rfl | ⟨rfl, h1⟩ | ⟨rfl, h1, h2⟩ | ⟨rfl, h1, h2, h3⟩ | ⟨rfl, h1, h2, h3, h4⟩ | ⟨rfl, h1, h2, h3, h4, h5⟩
          all_goals
            go_wp2
            go_ret
            exact ⟨by first | rfl | (simp; done) | (simp [*]; done), (by repeat (first | (with_reducible first | exact HB.out | apply below_alloc | apply pw_below_drewN | apply below_drew1) | exact HB.out))⟩
        · go_cut [214] from 214 to 214 (fun v214 wc => v214 = .bool true ∧ Aside0 (wc.heap[gb]? = some (.cells #[.int .i64 a0, .int .i64 a1, .int .i64 a2, .string a3, .slice aA al.length ac, .string a5, .int .i64 a6, .int .i64 a7, .int .i64 a8, .int .i64 a9, .string a10, .int .i64 a11, .int .i64 a12] 28 (0, 0))) ∧ Aside0 (Below w.heap.size w wc))
          case first =>
            go_wp2_with (first | fail)
            go_meet
            case rel => exact ⟨by first | rfl | (simp; done) | (simp [*]; done), ⟨(by (with_reducible repeat (first | refine blk_drewN ?_ _ | refine blk_drew ?_ | refine blk_alloc ?_ _)); exact BB.out)⟩, ⟨(by repeat (first | (with_reducible first | exact HB.out | apply below_alloc | apply pw_below_drewN | apply below_drew1) | exact HB.out))⟩⟩
          case rest =>
            obtain ⟨rfl, BB, HB⟩ := hcut
            have q0a := eq_false (Nat.not_lt.2 q0)
            have q0b := q0a
            try simp only [ByteArray.size_append, ByteArray.size_extract, Nat.min_self, Nat.sub_zero, show (⟨#[84]⟩ : ByteArray).size = 1 from rfl, show (⟨#[32]⟩ : ByteArray).size = 1 from rfl] at q0b
            have q0c := decide_eq_true q0
            replace q0 := eq_true q0
            have q1a := eq_false (Nat.not_lt.2 q1)
            have q1b := q1a
            try simp only [ByteArray.size_append, ByteArray.size_extract, Nat.min_self, Nat.sub_zero, show (⟨#[84]⟩ : ByteArray).size = 1 from rfl, show (⟨#[32]⟩ : ByteArray).size = 1 from rfl] at q1b
            have q1c := decide_eq_true q1
            replace q1 := eq_true q1
            have q2a := eq_false (Nat.not_lt.2 q2)
            have q2b := q2a
            try simp only [ByteArray.size_append, ByteArray.size_extract, Nat.min_self, Nat.sub_zero, show (⟨#[84]⟩ : ByteArray).size = 1 from rfl, show (⟨#[32]⟩ : ByteArray).size = 1 from rfl] at q2b
            have q2c := decide_eq_true q2
            replace q2 := eq_true q2
            have q3a := eq_false (Nat.not_lt.2 q3)
            have q3b := q3a
            try simp only [ByteArray.size_append, ByteArray.size_extract, Nat.min_self, Nat.sub_zero, show (⟨#[84]⟩ : ByteArray).size = 1 from rfl, show (⟨#[32]⟩ : ByteArray).size = 1 from rfl] at q3b
            have q3c := decide_eq_true q3
            replace q3 := eq_true q3
            try go_wp2
            have n0 := Aside0.mk (blk_drew BB.out)
            have nb := Aside0.mk (below_drew1 HB.out)
            clear BB HB
            have BB := n0
            have HB := nb
            clear n0 nb
            refine start_ (n := 14) (S := fun w' => w'.heap[gb]? = some (.cells #[.int .i64 a0, .int .i64 a1, .int .i64 a2, .string a3, .slice aA al.length ac, .string a5, .int .i64 a6, .int .i64 a7, .int .i64 a8, .int .i64 a9, .string a10, .int .i64 a11, .int .i64 a12] 28 (0, 0))) (ds := []) (zfl 14 []) (by kernel_rfl) rfl rfl BB.out (fun hHeld => ?_); refine with_tabW spt23.1 spt23.2 (fun HT_ HW_ => ?_)
            generalize wc.drew = w6 at BB HB hHeld ⊢
            refine zpu 0 215 (zfl 14 [0]) HT_ ?_
            refine zpu 4 219 (zfl 14 [0, 4]) HT_ ?_
            refine zpu 9 224 (zfl 14 [0, 4, 9]) HT_ ?_
            refine ztk 1 216 (zfl 14 [0, 1, 4, 9]) HT_ HW_ hHeld (hy := by refine Or.inl ⟨by rfl, ?_⟩; intro w' z1; obtain ⟨s_0, s_1, s_2, s_3, s_4, s_5, s_6, s_7, s_8, s_9, s_10, s_11, s_12⟩ := zc13 z1; go_simp; with_reducible rfl) ?_
            refine ztk 5 220 (zfl 14 [0, 1, 4, 5, 9]) HT_ HW_ hHeld (hy := by refine Or.inl ⟨by rfl, ?_⟩; intro w' z1; obtain ⟨s_0, s_1, s_2, s_3, s_4, s_5, s_6, s_7, s_8, s_9, s_10, s_11, s_12⟩ := zc13 z1; go_simp; with_reducible rfl) ?_
            refine ztk 10 225 (zfl 14 [0, 1, 4, 5, 9, 10]) HT_ HW_ hHeld (hy := by refine Or.inl ⟨by rfl, ?_⟩; intro w' z1; obtain ⟨s_0, s_1, s_2, s_3, s_4, s_5, s_6, s_7, s_8, s_9, s_10, s_11, s_12⟩ := zc13 z1; go_simp; with_reducible rfl) ?_
            refine zon 2 217 (zfl 14 [0, 1, 2, 4, 5, 9, 10]) HT_ (fun K hK => ?_)
            refine goes_ Tryz.func56 (by kernel_rfl) rfl #[.int .i64 a6] (by rfl) rfl rfl (by (try simp only [List.map_toArray, List.map_cons, List.map_nil]); first | done | rfl | (simp only [List.length_drop, List.length_take]; rfl)) ?_
            with_reducible refine (spec_l6num.calls k1 a6 t1 _ e1).mono ?_
            rintro e w5 ⟨rfl, hb⟩
            refine ⟨_, rfl, ?_⟩
            have n0 := Aside0.mk (blk_below (by (with_reducible repeat (first | refine blk_drewN ?_ _ | refine blk_drew ?_ | refine blk_alloc ?_ _)); exact BB.out) hb); have nb := Aside0.mk (below_step (by repeat (first | (with_reducible first | exact HB.out | apply below_alloc | apply pw_below_drewN | apply below_drew1) | exact HB.out)) hb); clear BB HB hb; have BB := n0; have HB := nb; clear n0 nb
            refine hK.out _ _ BB.out (fun hHeld => ?_)
            clear hK K
            refine znm ?_
            refine zpu 3 218 (zfl 14 [0, 1, 2, 3, 4, 5, 9, 10]) HT_ ?_
            refine zon 6 221 (zfl 14 [0, 1, 2, 3, 4, 5, 6, 9, 10]) HT_ (fun K hK => ?_)
            refine goes_ Tryz.func56 (by kernel_rfl) rfl #[.int .i64 a11] (by rfl) rfl rfl (by (try simp only [List.map_toArray, List.map_cons, List.map_nil]); first | done | rfl | (simp only [List.length_drop, List.length_take]; rfl)) ?_
            with_reducible refine (spec_l6num.calls k2 a11 t2 _ e2).mono ?_
            rintro e w5 ⟨rfl, hb⟩
            refine ⟨_, rfl, ?_⟩
            have n0 := Aside0.mk (blk_below (by (with_reducible repeat (first | refine blk_drewN ?_ _ | refine blk_drew ?_ | refine blk_alloc ?_ _)); exact BB.out) hb); have nb := Aside0.mk (below_step (by repeat (first | (with_reducible first | exact HB.out | apply below_alloc | apply pw_below_drewN | apply below_drew1) | exact HB.out)) hb); clear BB HB hb; have BB := n0; have HB := nb; clear n0 nb
            refine hK.out _ _ BB.out (fun hHeld => ?_)
            clear hK K
            refine znm ?_
            refine zpu 7 222 (zfl 14 [0, 1, 2, 3, 4, 5, 6, 7, 9, 10]) HT_ ?_
            refine zpu 8 223 (zfl 14 [0, 1, 2, 3, 4, 5, 6, 7, 8, 9, 10]) HT_ ?_
            refine zon 11 226 (zfl 14 [0, 1, 2, 3, 4, 5, 6, 7, 8, 9, 10, 11]) HT_ (fun K hK => ?_)
            refine goes_ Tryz.func57 (by kernel_rfl) rfl #[.int .i64 a12] (by rfl) rfl rfl (by (try simp only [List.map_toArray, List.map_cons, List.map_nil]); first | done | rfl | (simp only [List.length_drop, List.length_take]; rfl)) ?_
            with_reducible refine (spec_l2decimal.calls k3 a12 t3 _ e3).mono ?_
            rintro e w5 ⟨rfl, hb⟩
            refine ⟨_, rfl, ?_⟩
            have n0 := Aside0.mk (blk_below (by (with_reducible repeat (first | refine blk_drewN ?_ _ | refine blk_drew ?_ | refine blk_alloc ?_ _)); exact BB.out) hb); have nb := Aside0.mk (below_step (by repeat (first | (with_reducible first | exact HB.out | apply below_alloc | apply pw_below_drewN | apply below_drew1) | exact HB.out)) hb); clear BB HB hb; have BB := n0; have HB := nb; clear n0 nb
            refine hK.out _ _ BB.out (fun hHeld => ?_)
            clear hK K
            refine znm ?_
            refine zpu 12 227 (zfl 14 [0, 1, 2, 3, 4, 5, 6, 7, 8, 9, 10, 11, 12]) HT_ ?_
            refine zpu 13 2 (zfl 14 [0, 1, 2, 3, 4, 5, 6, 7, 8, 9, 10, 11, 12, 13]) HT_ ?_
            refine done_ (done_of HT_.out (by kernel_rfl)) ?_
            try go_wp2
            go_ret
            exact ⟨by first | rfl | (simp; done) | (simp [*]; done), (by repeat (first | (with_reducible first | exact HB.out | apply below_alloc | apply pw_below_drewN | apply below_drew1) | exact HB.out))⟩
      · go_upto_if 228 with (fail)
        go_cut [228] from 228 to 228 (fun v228 wc => v228 = .bool true ∧ Aside0 (wc.heap[gb]? = some (.cells #[.int .i64 a0, .int .i64 a1, .int .i64 a2, .string a3, .slice aA al.length ac, .string a5, .int .i64 a6, .int .i64 a7, .int .i64 a8, .int .i64 a9, .string a10, .int .i64 a11, .int .i64 a12] 28 (0, 0))) ∧ Aside0 (Below w.heap.size w wc))
        case first =>
          rcases hk with f4 | ⟨f4, f5⟩ | ⟨f4, f5, f6⟩
          all_goals
            go_wp2
            go_meet
            case rel => exact ⟨by first | rfl | (simp; done) | (simp [*]; done), ⟨(by (with_reducible repeat (first | refine blk_drewN ?_ _ | refine blk_drew ?_ | refine blk_alloc ?_ _)); exact BB.out)⟩, ⟨(by repeat (first | (with_reducible first | exact HB.out | apply below_alloc | apply pw_below_drewN | apply below_drew1) | exact HB.out))⟩⟩
        case rest =>
          obtain ⟨rfl, BB, HB⟩ := hcut
          clear hk
          obtain ⟨cd_0, cd_1, cd_2, cd_3, cd_4, cd_5, cd_6, cd_7, cd_8, cd_9, cd_10, cd_11, cd_12⟩ := zc13 BB.out
          obtain ⟨fd_0, fd_1, fd_2, fd_3, fd_4, fd_5, fd_6, fd_7, fd_8, fd_9, fd_10, fd_11, fd_12⟩ := zf13 BB.out
          go_upto_region 27 with (fail)
          rcases h with ⟨h, rfl⟩ | ⟨rfl, rfl, h1, j, t1, ⟨k1, e1⟩, hj, hj0, hj3, q1, rfl⟩
          · rcases h with rfl | ⟨rfl, rfl⟩ | ⟨rfl, rfl, f1⟩
            all_goals
              go_wp2
              go_ret
              exact ⟨by first | rfl | (simp; done) | (simp [*]; done), (by repeat (first | (with_reducible first | exact HB.out | apply below_alloc | apply pw_below_drewN | apply below_drew1) | exact HB.out))⟩
          · obtain ⟨y, ny⟩ : ∃ y : List ByteArray, y = [(⟨#[66]⟩ : ByteArray), (⟨#[68]⟩ : ByteArray), (⟨#[78]⟩ : ByteArray)] := ⟨_, rfl⟩
            rw [← ny] at q1
            replace hj3 : decide (j < (y.length : Int)) = true := by rw [ny]; exact hj3
            have NY := Aside0.mk ny
            clear ny
            replace hj : IntKind.i64.wrap (a0 - 4) = j := (i64_w _).trans hj
            go_cut [240] from 240 to 240 (fun v240 wc => v240 = .bool true ∧ Aside0 (wc.heap[gb]? = some (.cells #[.int .i64 a0, .int .i64 a1, .int .i64 a2, .string a3, .slice aA al.length ac, .string a5, .int .i64 a6, .int .i64 a7, .int .i64 a8, .int .i64 a9, .string a10, .int .i64 a11, .int .i64 a12] 28 (0, 0))) ∧ Aside0 (Below w.heap.size w wc))
            case first =>
              go_wp2
              go_meet
              case rel => exact ⟨by first | rfl | (simp; done) | (simp [*]; done), ⟨(by (with_reducible repeat (first | refine blk_drewN ?_ _ | refine blk_drew ?_ | refine blk_alloc ?_ _)); exact BB.out)⟩, ⟨(by repeat (first | (with_reducible first | exact HB.out | apply below_alloc | apply pw_below_drewN | apply below_drew1) | exact HB.out))⟩⟩
            case rest =>
              obtain ⟨rfl, BB, HB⟩ := hcut
              have q1a := eq_false (Nat.not_lt.2 q1)
              try go_wp2
              have pj : (0 ≤ ((j) : Int)) = True := eq_true (of_decide_eq_true (by first | (with_reducible assumption) | assumption))
              have qj : ((j) < (y.length : Int)) = True := eq_true (of_decide_eq_true (by first | (with_reducible assumption) | assumption))
              have n0_ := Aside0.mk (blk_drew BB.out)
              have n1_ := Aside0.mk (below_drew1 HB.out)
              clear BB
              clear HB
              have BB := n0_
              have HB := n1_
              clear n0_ n1_
              refine start_ (n := 11) (S := fun w' => True) (ds := []) #[false, false, false, false, false, false, false, false, false, false, false] (by kernel_rfl) rfl rfl trivial (fun hHeld => ?_); refine with_tabW spt28.1 spt28.2 (fun HT_ HW_ => ?_)
              generalize wc.drew = w6 at BB HB hHeld ⊢
              refine pure_ (i := 1) (N := some 242) (v := ?_) (a' := ?_) #[false, true, false, false, false, false, false, false, false, false, false] rfl rfl (any_of HT_.out (by kernel_rfl)) (fun _ _ _ h => h) (Or.inl ⟨by rfl, ?_⟩) ?_ ?_
              rotate_left
              ·intro w'
               go_simp
               with_reducible rfl
              rotate_left
              ·simp only [Act.put, List.setIfInBounds_toArray, List.set_cons_zero, List.set_cons_succ, i64_w, i32_w]
               rfl
              refine pure_ (i := 6) (N := some 247) (v := ?_) (a' := ?_) #[false, true, false, false, false, false, true, false, false, false, false] rfl rfl (any_of HT_.out (by kernel_rfl)) (fun _ _ _ h => h) (Or.inl ⟨by rfl, ?_⟩) ?_ ?_
              rotate_left
              ·intro w'
               go_simp
               with_reducible rfl
              rotate_left
              ·simp only [Act.put, List.setIfInBounds_toArray, List.set_cons_zero, List.set_cons_succ, i64_w, i32_w]
               rfl
              refine inv_at [0, 2, 3, 4, 5, 7, 8, 9, 10] (fun a0_ b a w' => ∃ (sv : Value) (ad : Addr) (m4_ : Value), a = putSel a0_ b [(0, 241, sv), (2, 243, .int .i64 a0), (3, 244, .int .i64 j), (4, 245, m4_), (5, 246, .string (rdOf ByteArray.empty y (j))), (7, 248, .int .i64 a6), (8, 249, .string t1), (9, 250, .string ((rdOf ByteArray.empty y (j)) ++ t1)), (10, 2, .string ((rdOf ByteArray.empty y (j)) ++ t1))] ∧ (w'.heap[gb]? = some (.cells #[.int .i64 a0, .int .i64 a1, .int .i64 a2, .string a3, .slice aA al.length ac, .string a5, .int .i64 a6, .int .i64 a7, .int .i64 a8, .int .i64 a9, .string a10, .int .i64 a11, .int .i64 a12] 28 (0, 0))) ∧ (Below w.heap.size w w') ∧ (b 0 = true → Kd.R Kd.string 9 w' w.heap.size (fun _ => True) sv y) ∧ (b 0 = true → ∃ c_, (sv : Value) = .slice (some ad) y.length c_) ∧ (b 4 = true → (m4_ : Value) = .pointer (some (ad.add ((j)).toNat)))) HT_.out HW_.out (by kernel_rfl) (by kernel_rfl) ?_ ?_ ?_
              ·exact ⟨.bool false, ⟨0, 0, none⟩, .bool false, by simp only [putSel, Bool.false_eq_true, if_false], BB.out, HB.out, fun h_ => absurd h_ (by decide), fun h_ => absurd h_ (by decide), fun h_ => absurd h_ (by decide)⟩
              ·skip
               clear BB HB
               refine steps_cons ?_ ?_
               ·rintro b a w' ⟨sv, ad, m4_, ha, Q_BB, Q_HB, Q_HO, Q_HAO, Q_X4_⟩ hb_ hon hoff
                refine ⟨_, rfl, fun K hK => ?_⟩
                replace ha := Aside0.mk ha
                have BB := Aside0.mk Q_BB
                have HB := Aside0.mk Q_HB
                refine Kd.R_lit_step Kd.string _ 9 ?hg (N := 241) ?hd (xs := ([(⟨#[66]⟩ : ByteArray), (⟨#[68]⟩ : ByteArray), (⟨#[78]⟩ : ByteArray)] : List ByteArray)) (inner := [.string (⟨#[66]⟩ : ByteArray), .string (⟨#[68]⟩ : ByteArray), .string (⟨#[78]⟩ : ByteArray)]) (ok := fun _ => True) (okp := fun _ => True) ?hr ?hp (fun _ hk => hk) trivial (Below.refl _ _) (Nat.le_refl _) (by simp) ?_; (case hd => rfl); (case hg => rfl); (case hr => first | (go_simp; done) | (go_simp; rfl)); (case hp => exact (Reps.one (show Kd.M Kd.string _ _ _ (⟨#[66]⟩ : ByteArray) [.string (⟨#[66]⟩ : ByteArray)] from rfl) (Reps.one (show Kd.M Kd.string _ _ _ (⟨#[68]⟩ : ByteArray) [.string (⟨#[68]⟩ : ByteArray)] from rfl) (Reps.one (show Kd.M Kd.string _ _ _ (⟨#[78]⟩ : ByteArray) [.string (⟨#[78]⟩ : ByteArray)] from rfl) (Reps.none _ _)))))
                intro sv w7 ho hb hg_ hnew_
                clear hg_ hnew_
                (first | rw [← NY.out] at ho | (simp only [Int.reduceToNat] at ho; rw [← NY.out] at ho))
                have n0_ := Aside0.mk (Kd.R_lower ho (below_size (by repeat (first | (with_reducible first | exact HB.out | apply below_alloc | apply pw_below_drewN | apply below_drew1 | refine below_set ?_ GB.out) | exact HB.out))))
                have n1_ := Aside0.mk (blk_below BB.out hb)
                have n2_ := Aside0.mk (below_step (by repeat (first | (with_reducible first | exact HB.out | apply below_alloc | apply pw_below_drewN | apply below_drew1 | refine below_set ?_ GB.out) | exact HB.out)) hb)
                clear BB
                clear HB
                have HO := n0_
                have BB := n1_
                have HB := n2_
                clear n0_ n1_ n2_
                clear hb ho
                obtain ⟨Ao188, co188, eo188⟩ := Kd.R_slice HO.out
                subst eo188
                obtain ⟨ado188, fo188, _⟩ := Kd.at_string (Kd.R_reads' HO.out).2.2 0 (by decide) (by rw [NY.out]; simp)
                cases fo188
                refine hK.out _ _ ⟨.slice (some ado188) y.length co188, ado188, m4_, (by rw [ha.out]; exact putSel_upk 0 hb_ rfl rfl rfl), (by (with_reducible repeat (first | refine blk_drewN ?_ _ | refine blk_drew ?_ | refine blk_alloc ?_ _)); exact BB.out), (by repeat (first | (with_reducible first | exact HB.out | apply below_alloc | apply pw_below_drewN | apply below_drew1 | refine below_set ?_ GB.out) | exact HB.out)), fun _ => (by (with_reducible repeat (first | apply Kd.R_alloc | apply Kd.R_drewN | apply Kd.R_drew)); exact HO.out), fun _ => ⟨_, rfl⟩, fun h0_ => absurd ((hoff 4 (by kernel_rfl)).symm.trans h0_) (by decide)⟩
               refine steps_cons ?_ ?_
               ·rintro b a w' ⟨sv, ad, m4_, ha, Q_BB, Q_HB, Q_HO, Q_HAO, Q_X4_⟩ hb_ hon hoff
                refine ⟨_, rfl, fun K hK => ?_⟩
                have e242 : a.tmps[242]? = some (.pointer (some ⟨gb, 0, none⟩)) := by rw [ha]; exact (putSel_off rfl).trans rfl
                replace ha := Aside0.mk ha
                have BB := Aside0.mk Q_BB
                have HB := Aside0.mk Q_HB
                have hc0_ : w'.cell? ⟨gb, 0, none⟩ = some (.int .i64 a0) := (blk_cell BB.out 0).trans rfl
                have hc6_ : w'.cell? ⟨gb, 6, none⟩ = some (.int .i64 a6) := (blk_cell BB.out 6).trans rfl
                refine value_ (w1 := w') (v := .int .i64 a0) (by rfl) rfl ?_ ?_
                ·go_simp
                 (try simp only [i64_w])
                 try rfl
                refine hK.out _ _ ⟨sv, ad, m4_, (by rw [ha.out]; exact putSel_upk 1 hb_ rfl rfl rfl), Q_BB, Q_HB, Q_HO, Q_HAO, fun h0_ => absurd ((hoff 4 (by kernel_rfl)).symm.trans h0_) (by decide)⟩
               refine steps_cons ?_ ?_
               ·rintro b a w' ⟨sv, ad, m4_, ha, Q_BB, Q_HB, Q_HO, Q_HAO, Q_X4_⟩ hb_ hon hoff
                refine ⟨_, rfl, fun K hK => ?_⟩
                have e243 : a.tmps[243]? = some (.int .i64 a0) := by rw [ha]; exact putSel_on (e := (2, 243, .int .i64 a0)) 1 rfl rfl (hon 2 (by kernel_rfl)) rfl
                replace ha := Aside0.mk ha
                have BB := Aside0.mk Q_BB
                have HB := Aside0.mk Q_HB
                refine value_ (w1 := w') (v := .int .i64 j) (by rfl) rfl ?_ ?_
                ·go_simp
                 (try simp only [i64_w])
                 try rfl
                refine hK.out _ _ ⟨sv, ad, m4_, (by rw [ha.out]; exact putSel_upk 2 hb_ rfl rfl rfl), Q_BB, Q_HB, Q_HO, Q_HAO, fun h0_ => absurd ((hoff 4 (by kernel_rfl)).symm.trans h0_) (by decide)⟩
               refine steps_cons ?_ ?_
               ·rintro b a w' ⟨sv, ad, m4_, ha, Q_BB, Q_HB, Q_HO, Q_HAO, Q_X4_⟩ hb_ hon hoff
                refine ⟨_, rfl, fun K hK => ?_⟩
                have e241 : a.tmps[241]? = some (sv) := by rw [ha]; exact putSel_on (e := (0, 241, sv)) 0 rfl rfl (hon 0 (by kernel_rfl)) rfl
                have e244 : a.tmps[244]? = some (.int .i64 j) := by rw [ha]; exact putSel_on (e := (3, 244, .int .i64 j)) 2 rfl rfl (hon 3 (by kernel_rfl)) rfl
                replace ha := Aside0.mk ha
                have BB := Aside0.mk Q_BB
                have HB := Aside0.mk Q_HB
                have HO := Aside0.mk (Q_HO (hon 0 (by kernel_rfl)))
                have HAO := Aside0.mk (Q_HAO (hon 0 (by kernel_rfl)))
                obtain ⟨c_, hv_⟩ := HAO.out
                rw [hv_] at e241
                refine value_ (w1 := w') (v := .pointer (some (ad.add ((j)).toNat))) (by rfl) rfl ?_ ?_
                ·go_simp
                 (try simp only [i64_w])
                 try rfl
                refine hK.out _ _ ⟨sv, ad, (.pointer (some (ad.add ((j)).toNat))), (by rw [ha.out]; exact putSel_upk 3 hb_ rfl rfl rfl), Q_BB, Q_HB, Q_HO, Q_HAO, fun _ => rfl⟩
               refine steps_cons ?_ ?_
               ·rintro b a w' ⟨sv, ad, m4_, ha, Q_BB, Q_HB, Q_HO, Q_HAO, Q_X4_⟩ hb_ hon hoff
                refine ⟨_, rfl, fun K hK => ?_⟩
                have e245 : a.tmps[245]? = some (m4_) := by rw [ha]; exact putSel_on (e := (4, 245, m4_)) 3 rfl rfl (hon 4 (by kernel_rfl)) rfl
                rw [Q_X4_ (hon 4 (by kernel_rfl))] at e245
                replace ha := Aside0.mk ha
                have BB := Aside0.mk Q_BB
                have HB := Aside0.mk Q_HB
                have HO := Aside0.mk (Q_HO (hon 0 (by kernel_rfl)))
                have HAO := Aside0.mk (Q_HAO (hon 0 (by kernel_rfl)))
                obtain ⟨c_, hv_⟩ := HAO.out
                have hF_ := HO.out
                rw [hv_] at hF_
                obtain ⟨ad_, ea_, hx_⟩ := Kd.at_string (Kd.R_reads' hF_).2.2 (j) (of_eq_true pj) (of_eq_true qj)
                cases ea_
                refine value_ (w1 := w') (v := .string (rdOf ByteArray.empty y (j))) (by rfl) rfl ?_ ?_
                ·go_simp
                 (try simp only [i64_w])
                 try rfl
                refine hK.out _ _ ⟨sv, ad, m4_, (by rw [ha.out]; exact putSel_upk 4 hb_ rfl rfl rfl), Q_BB, Q_HB, Q_HO, Q_HAO, Q_X4_⟩
               refine steps_cons ?_ ?_
               ·rintro b a w' ⟨sv, ad, m4_, ha, Q_BB, Q_HB, Q_HO, Q_HAO, Q_X4_⟩ hb_ hon hoff
                refine ⟨_, rfl, fun K hK => ?_⟩
                have e247 : a.tmps[247]? = some (.pointer (some ⟨gb, 6, none⟩)) := by rw [ha]; exact (putSel_off rfl).trans rfl
                replace ha := Aside0.mk ha
                have BB := Aside0.mk Q_BB
                have HB := Aside0.mk Q_HB
                have hc0_ : w'.cell? ⟨gb, 0, none⟩ = some (.int .i64 a0) := (blk_cell BB.out 0).trans rfl
                have hc6_ : w'.cell? ⟨gb, 6, none⟩ = some (.int .i64 a6) := (blk_cell BB.out 6).trans rfl
                refine value_ (w1 := w') (v := .int .i64 a6) (by rfl) rfl ?_ ?_
                ·go_simp
                 (try simp only [i64_w])
                 try rfl
                refine hK.out _ _ ⟨sv, ad, m4_, (by rw [ha.out]; exact putSel_upk 5 hb_ rfl rfl rfl), Q_BB, Q_HB, Q_HO, Q_HAO, Q_X4_⟩
               refine steps_cons ?_ ?_
               ·rintro b a w' ⟨sv, ad, m4_, ha, Q_BB, Q_HB, Q_HO, Q_HAO, Q_X4_⟩ hb_ hon hoff
                refine ⟨_, rfl, fun K hK => ?_⟩
                have e248 : a.tmps[248]? = some (.int .i64 a6) := by rw [ha]; exact putSel_on (e := (7, 248, .int .i64 a6)) 5 rfl rfl (hon 7 (by kernel_rfl)) rfl
                replace ha := Aside0.mk ha
                have BB := Aside0.mk Q_BB
                have HB := Aside0.mk Q_HB
                refine goes_ Tryz.func56 (by kernel_rfl) rfl #[.int .i64 a6] (by rfl) rfl rfl (by first | (simp only [List.map_toArray, List.map_cons, List.map_nil, Act.eval, Array.getD_eq_getD_getElem?, Option.getD_some, e248]; done) | (simp only [List.map_toArray, List.map_cons, List.map_nil, Act.eval, Array.getD_eq_getD_getElem?, Option.getD_some, e248]; rfl)) ?_
                with_reducible refine (spec_l6num.calls k1 a6 t1 _ e1).mono ?_
                rintro e w7 ⟨rfl, hb⟩
                refine ⟨_, rfl, ?_⟩
                have n0_ := Aside0.mk (blk_below BB.out hb)
                have n1_ := Aside0.mk (below_step (by repeat (first | (with_reducible first | exact HB.out | apply below_alloc | apply pw_below_drewN | apply below_drew1 | refine below_set ?_ GB.out) | exact HB.out)) hb)
                have z_HO := fun (h0_ : b 0 = true) => (show Kd.R Kd.string 9 w7 w.heap.size (fun _ => True) sv y from by first | exact (Kd.R_below (by (with_reducible repeat (first | apply Kd.R_alloc | apply Kd.R_drewN | apply Kd.R_drew)); exact (Q_HO h0_)) hb) | exact Kd.R_mono (Kd.R_below (by (with_reducible repeat (first | apply Kd.R_alloc | apply Kd.R_drewN | apply Kd.R_drew)); exact (Q_HO h0_)) hb) (fun _ h_ => by first | trivial | exact h_ | exact h_.1))
                clear BB
                clear HB
                have BB := n0_
                have HB := n1_
                clear n0_ n1_
                refine hK.out _ _ ⟨sv, ad, m4_, (by rw [ha.out]; exact putSel_upk 6 hb_ rfl rfl rfl), (by (with_reducible repeat (first | refine blk_drewN ?_ _ | refine blk_drew ?_ | refine blk_alloc ?_ _)); exact BB.out), (by repeat (first | (with_reducible first | exact HB.out | apply below_alloc | apply pw_below_drewN | apply below_drew1 | refine below_set ?_ GB.out) | exact HB.out)), z_HO, Q_HAO, Q_X4_⟩
               refine steps_cons ?_ ?_
               ·rintro b a w' ⟨sv, ad, m4_, ha, Q_BB, Q_HB, Q_HO, Q_HAO, Q_X4_⟩ hb_ hon hoff
                refine ⟨_, rfl, fun K hK => ?_⟩
                have e246 : a.tmps[246]? = some (.string (rdOf ByteArray.empty y (j))) := by rw [ha]; exact putSel_on (e := (5, 246, .string (rdOf ByteArray.empty y (j)))) 4 rfl rfl (hon 5 (by kernel_rfl)) rfl
                have e249 : a.tmps[249]? = some (.string t1) := by rw [ha]; exact putSel_on (e := (8, 249, .string t1)) 6 rfl rfl (hon 8 (by kernel_rfl)) rfl
                replace ha := Aside0.mk ha
                have BB := Aside0.mk Q_BB
                have HB := Aside0.mk Q_HB
                have HO := Aside0.mk (Q_HO (hon 0 (by kernel_rfl)))
                have HAO := Aside0.mk (Q_HAO (hon 0 (by kernel_rfl)))
                refine value_ (w1 := w') (v := .string ((rdOf ByteArray.empty y (j)) ++ t1)) (by rfl) rfl ?_ ?_
                ·go_simp
                 (try simp only [i64_w])
                 try rfl
                refine hK.out _ _ ⟨sv, ad, m4_, (by rw [ha.out]; exact putSel_upk 7 hb_ rfl rfl rfl), Q_BB, Q_HB, Q_HO, Q_HAO, Q_X4_⟩
               refine steps_cons ?_ ?_
               ·rintro b a w' ⟨sv, ad, m4_, ha, Q_BB, Q_HB, Q_HO, Q_HAO, Q_X4_⟩ hb_ hon hoff
                refine ⟨_, rfl, fun K hK => ?_⟩
                have e250 : a.tmps[250]? = some (.string ((rdOf ByteArray.empty y (j)) ++ t1)) := by rw [ha]; exact putSel_on (e := (9, 250, .string ((rdOf ByteArray.empty y (j)) ++ t1))) 7 rfl rfl (hon 9 (by kernel_rfl)) rfl
                replace ha := Aside0.mk ha
                have BB := Aside0.mk Q_BB
                have HB := Aside0.mk Q_HB
                have HO := Aside0.mk (Q_HO (hon 0 (by kernel_rfl)))
                have HAO := Aside0.mk (Q_HAO (hon 0 (by kernel_rfl)))
                refine value_ (w1 := w') (v := .string ((rdOf ByteArray.empty y (j)) ++ t1)) (by rfl) rfl ?_ ?_
                ·go_simp
                 (try simp only [i64_w])
                 try rfl
                refine hK.out _ _ ⟨sv, ad, m4_, (by rw [ha.out]; exact putSel_upk 8 hb_ rfl rfl rfl), Q_BB, Q_HB, Q_HO, Q_HAO, Q_X4_⟩
               exact steps_nil
              rintro b a w8 hall ⟨sv, ad, m4_, ha, Q_BB, Q_HB, Q_HO, Q_HAO, Q_X4_⟩
              clear BB HB
              have hb0_ := hall 0 (by kernel_rfl)
              have hb2_ := hall 2 (by kernel_rfl)
              have hb3_ := hall 3 (by kernel_rfl)
              have hb4_ := hall 4 (by kernel_rfl)
              have hb5_ := hall 5 (by kernel_rfl)
              have hb7_ := hall 7 (by kernel_rfl)
              have hb8_ := hall 8 (by kernel_rfl)
              have hb9_ := hall 9 (by kernel_rfl)
              have hb10_ := hall 10 (by kernel_rfl)
              subst ha
              obtain rfl := Q_X4_ hb4_
              simp only [putSel, hb0_, hb2_, hb3_, hb4_, hb5_, hb7_, hb8_, hb9_, hb10_, if_true, Act.put, List.setIfInBounds_toArray, List.set_cons_zero, List.set_cons_succ]
              have BB := Aside0.mk Q_BB
              clear Q_BB
              have HB := Aside0.mk Q_HB
              clear Q_HB
              have HO := Aside0.mk (Q_HO hb0_)
              clear Q_HO
              have HAO := Aside0.mk (Q_HAO hb0_)
              clear Q_HAO
              clear hall hb0_ hb2_ hb3_ hb4_ hb5_ hb7_ hb8_ hb9_ hb10_
              obtain ⟨co191, eo191⟩ := HAO.out
              clear HAO
              subst eo191
              try go_wp2
              go_ret
              exact ⟨by have e := NY.out; subst e; rfl, (by repeat (first | (with_reducible first | exact HB.out | apply below_alloc | apply pw_below_drewN | apply below_drew1) | exact HB.out))⟩
      · go_wp2
        go_ret
        exact ⟨by first | rfl | (simp; done) | (simp [*]; done), (by repeat (first | (with_reducible first | exact HB.out | apply below_alloc | apply pw_below_drewN | apply below_drew1) | exact HB.out))⟩
end Go.Proofs.YtnlembpmcbnpnaaGreatDoor.X
/- spec.PackRecord at a right message. -/
namespace Go.Proofs.YtnlembpmcbnpnaaGreatDoor.X
open Go Go.RowKit Go.Proofs.YtnlembpmcbnpnaaGreatDoorW.PrintWords Go.Proofs.YtnlembpmcbnpnaaGreatDoorW.PrintLast Go.Proofs.YtnlembpmcbnpnaaGreatDoorW.PrintMore
set_option linter.unusedVariables false
set_option linter.unusedSimpArgs false
attribute [local go_sem high] eqAV
theorem spt7 : rtab .any (opsOf Tryz.f27 7) = (true, [([], []), ([0], [0]), ([1], [1]), ([2], [2]), ([3], [3]), ([], []), ([5], [5]), ([6, 2], [6]), ([4, 7], [4, 7]), ([], []), ([9], [9]), ([10], [10]), ([11, 7], [11]), ([8, 12], [8, 12]), ([], []), ([14], [14]), ([15, 12], [15]), ([13, 16], [13, 16]), ([17, 16, 0, 1, 2, 3, 4, 5, 6, 7, 8, 9, 10, 11, 12, 13, 14, 15, 16, 17], [17])]) ∧ waitsOk ((true, [([], []), ([0], [0]), ([1], [1]), ([2], [2]), ([3], [3]), ([], []), ([5], [5]), ([6, 2], [6]), ([4, 7], [4, 7]), ([], []), ([9], [9]), ([10], [10]), ([11, 7], [11]), ([8, 12], [8, 12]), ([], []), ([14], [14]), ([15, 12], [15]), ([13, 16], [13, 16]), ([17, 16, 0, 1, 2, 3, 4, 5, 6, 7, 8, 9, 10, 11, 12, 13, 14, 15, 16, 17], [17])]) : Bool × List (List Nat × List Nat)).2 [0, 1, 3, 7, 15, 0, 32, 103, 255, 0, 512, 1536, 3815, 8191, 0, 16384, 57063, 131071, 262143] = true := ⟨by kernel_rfl, by kernel_rfl⟩
set_option maxHeartbeats 8000000 in
set_option maxRecDepth 100000 in
theorem sp_m_ok (a1 : Int) (a2 : Int) (a3 : ByteArray) (aA : Option Addr) (ac : Nat) (al : List ByteArray) (a5 : ByteArray) (a6 : Int) (a7 : Int) (a8 : Int) (a9 : Int) (a10 : ByteArray) (a11 : Int) (a12 : Int) (w : World) (hr : Kd.C Kd.string w aA al.length al) (hc : al.length ≤ ac) (hv : (a8 == 0 && (a9 == 0 && (a10.toList == ([] : List UInt8)))) = true) (ht : (a11 == 0 && a12 == 0) = true) (f1 : (a6 != 0) = false) (f2 : (a7 != 0) = false) (c1 : spec_l6id.f a1 = some true) (f3 : decide (a2 < 0) = false) (f4 : decide (20000000 < a2) = false) (kw kb : Nat) (c2 : spec_l4whom.f kw a3 al = some true) (c3 : spec_ValidBody.f kb a5 = some true) (k1 : Nat) (t1 : ByteArray) (e1 : spec_l6num.f k1 a1 = some t1) (k2 : Nat) (t2 : ByteArray) (e2 : spec_l2decimal.f k2 a2 = some t2) (k3 : Nat) (t3 : ByteArray) (e3 : spec_l6num.f k3 (al.length : Int) = some t3) (k4 : Nat) (t4 : ByteArray) (e4 : spec_l6str.f k4 a3 = some t4) (q0 : 1 + t1.size ≤ 9223372036854775807) (q1 : ((⟨#[77]⟩ : ByteArray) ++ t1).size + 1 ≤ 9223372036854775807) (q2 : (((⟨#[77]⟩ : ByteArray) ++ t1) ++ (⟨#[32]⟩ : ByteArray)).size + t2.size ≤ 9223372036854775807) (q3 : ((((⟨#[77]⟩ : ByteArray) ++ t1) ++ (⟨#[32]⟩ : ByteArray)) ++ t2).size + t3.size ≤ 9223372036854775807) (q4 : (((((⟨#[77]⟩ : ByteArray) ++ t1) ++ (⟨#[32]⟩ : ByteArray)) ++ t2) ++ t3).size + t4.size ≤ 9223372036854775807) (S : Nat → ByteArray) (hS0 : S 0 = ((((((⟨#[77]⟩ : ByteArray) ++ t1) ++ (⟨#[32]⟩ : ByteArray)) ++ t2) ++ t3) ++ t4)) (hS : ∀ i < al.length, ∃ k t, spec_l6str.f k (rdOf ByteArray.empty al (i : Int)) = some t ∧ S (i + 1) = S i ++ t ∧ (S i).size + t.size ≤ 9223372036854775807) (k5 : Nat) (t5 : ByteArray) (e5 : spec_l6str.f k5 a5 = some t5) (q5 : (S al.length).size + t5.size ≤ 9223372036854775807) (hn : al.length ≤ 20) :
    Calls Tryz.prog 27 #[.agg #[.int .i64 1, .int .i64 a1, .int .i64 a2, .string a3, .slice aA al.length ac, .string a5, .int .i64 a6, .int .i64 a7, .int .i64 a8, .int .i64 a9, .string a10, .int .i64 a11, .int .i64 a12]] w fun e w' => e = .returned (.string ((S al.length) ++ t5)) ∧ Below w.heap.size w w' := by
  have HS0 := Aside0.mk hS0
  have HS := Aside0.mk hS
  have HN := Aside0.mk hn
  have E5 := Aside0.mk e5
  clear hS0 hS hn e5
  have Q0 := Aside0.mk q0
  have Q1 := Aside0.mk q1
  have Q2 := Aside0.mk q2
  have Q3 := Aside0.mk q3
  have Q4 := Aside0.mk q4
  have Q5 := Aside0.mk q5
  clear q0 q1 q2 q3 q4 q5
  have hu28 := Tryz.underlying28
  have hu26 := Tryz.underlying26
  have hu24 := Tryz.underlying24
  have hnv2 : (a8 == 0 && (a9 == 0 && a10.toList.isEmpty)) = true := by rw [show a10.toList.isEmpty = (a10.toList == ([] : List UInt8)) from by cases a10.toList <;> rfl]; exact hv
  have HR := Aside0.mk hr
  have HC := Aside0.mk hc
  clear hr hc
  obtain ⟨t1_, t2_⟩ : (a11 == 0) = true ∧ (a12 == 0) = true := by simpa using ht
  clear ht
  go_enter Tryz.func27, Tryz.ntmps27
  go_upto_region 2 with (first | ((with_reducible refine gate_dst (N := 1) rfl ?_); refine box_event ?hg (N := 1) ?hd (cs := #[.int .i64 1, .int .i64 a1, .int .i64 a2, .string a3, .slice aA al.length ac, .string a5, .int .i64 a6, .int .i64 a7, .int .i64 a8, .int .i64 a9, .string a10, .int .i64 a11, .int .i64 a12]) (t := 28) ?hr ?_; (case hd => rfl); (case hg => rfl); (case hr => first | (go_simp; done) | (go_simp; rfl)); intro gb hgb wb hbb hbwb; have BB := Aside0.mk hbb; have GB := Aside0.mk (show w.heap.size ≤ gb by rw [hgb]; exact Nat.le_refl _); have HB := Aside0.mk hbwb; clear hbb hbwb hgb; obtain ⟨cb_0, cb_1, cb_2, cb_3, cb_4, cb_5, cb_6, cb_7, cb_8, cb_9, cb_10, cb_11, cb_12⟩ := zc13 BB.out; obtain ⟨fb_0, fb_1, fb_2, fb_3, fb_4, fb_5, fb_6, fb_7, fb_8, fb_9, fb_10, fb_11, fb_12⟩ := zf13 BB.out))
  (try simp only [Act.put, List.setIfInBounds_toArray, List.set_cons_zero, List.set_cons_succ])
  (first | simp only [hnv2] | simp only [hv] | skip)
  go_upto_region 5 with (first | ((with_reducible refine gate_dst (N := 5) rfl ?_); refine box_event ?hg (N := 5) ?hd (cs := #[.int .i64 0, .int .i64 0, .string (⟨#[]⟩ : ByteArray), .slice none 0 0, .string (⟨#[]⟩ : ByteArray)]) (t := 24) ?hr ?_; (case hd => rfl); (case hg => rfl); (case hr => first | (go_simp; done) | (go_simp; rfl)); intro gm hgm wm hbm hbwm; have BM := Aside0.mk hbm; have GM := Aside0.mk (show w.heap.size ≤ gm by rw [hgm]; exact HB.out.size); have BB2 := Aside0.mk (blk_below BB.out hbwm); have HB2 := Aside0.mk (HB.out.trans (hbwm.mono HB.out.size)); have NBM := Aside0.mk (show gb ≠ gm by rw [hgm]; exact Nat.ne_of_lt (blk_lt BB.out)); have nbm := NBM.out; have nmb := NBM.out.symm; clear hbm hbwm hgm; obtain ⟨cp_0, cp_1, cp_2, cp_3, cp_4, cp_5, cp_6, cp_7, cp_8, cp_9, cp_10, cp_11, cp_12⟩ := zc13 BB2.out; obtain ⟨fp_0, fp_1, fp_2, fp_3, fp_4, fp_5, fp_6, fp_7, fp_8, fp_9, fp_10, fp_11, fp_12⟩ := zf13 BB2.out; obtain ⟨cq_0, cq_1, cq_2, cq_3, cq_4⟩ := zc5 BM.out; obtain ⟨fq0, fq1, fq2, fq3, fq4⟩ := zf5 BM.out))
  have n1 := Aside0.mk (zp5 (u0 := .int .i64 a1) (u1 := .int .i64 a2) (u2 := .string a3) (u3 := .slice aA al.length ac) (u4 := .string a5) BM.out)
  have n2 := Aside0.mk (blk_far (p := ⟨gm, 4, none⟩) (blk_far (p := ⟨gm, 3, none⟩) (blk_far (p := ⟨gm, 2, none⟩) (blk_far (p := ⟨gm, 1, none⟩) (blk_far (p := ⟨gm, 0, none⟩) BB2.out NBM.out (.int .i64 a1)) NBM.out (.int .i64 a2)) NBM.out (.string a3)) NBM.out (.slice aA al.length ac)) NBM.out (.string a5))
  have n3 : Aside0 (Below w.heap.size w (((((wm.setCell ⟨gm, 0, none⟩ (.int .i64 a1)).setCell ⟨gm, 1, none⟩ (.int .i64 a2)).setCell ⟨gm, 2, none⟩ (.string a3)).setCell ⟨gm, 3, none⟩ (.slice aA al.length ac)).setCell ⟨gm, 4, none⟩ (.string a5))) := ⟨(below_set (below_set (below_set (below_set (below_set HB2.out GM.out) GM.out) GM.out) GM.out) GM.out)⟩
  generalize (((((wm.setCell ⟨gm, 0, none⟩ (.int .i64 a1)).setCell ⟨gm, 1, none⟩ (.int .i64 a2)).setCell ⟨gm, 2, none⟩ (.string a3)).setCell ⟨gm, 3, none⟩ (.slice aA al.length ac)).setCell ⟨gm, 4, none⟩ (.string a5)) = w5 at n1 n2 n3 ⊢
  have BM5 := n1
  have BB5 := n2
  have HB5 := n3
  clear n1 n2 n3 BM BB2 HB2 BB HB
  obtain ⟨cm_0, cm_1, cm_2, cm_3, cm_4⟩ := zc5 BM5.out
  obtain ⟨cr_0, cr_1, cr_2, cr_3, cr_4, cr_5, cr_6, cr_7, cr_8, cr_9, cr_10, cr_11, cr_12⟩ := zc13 BB5.out
  go_cut [72] from 72 to 72 (fun v72 wc => v72 = .bool false ∧ Aside0 (wc.heap[gm]? = some (.cells #[.int .i64 a1, .int .i64 a2, .string a3, .slice aA al.length ac, .string a5] 24 (0, 0))) ∧ Aside0 (Below w.heap.size w wc))
  case first =>
    go_wp2_with (first | (go_at_call 53; (with_reducible refine (spec_l6id.calls _ _ _ c1).mono ?_); rintro e w' ⟨rfl, ⟨nd, rfl⟩⟩) | (go_at_call 54; (with_reducible refine (spec_l4whom.calls kw a3 aA ac al _ _ (Kd.C_below HR.out (pw_below_drewN HB5.out _)) HC.out c2).mono ?_); rintro e w7 ⟨rfl, hb7⟩; have HB7 := Aside0.mk (below_step (pw_below_drewN HB5.out nd) hb7); have BM7 := Aside0.mk (blk_below (blk_drewN BM5.out nd) hb7); clear hb7; obtain ⟨ct_0, ct_1, ct_2, ct_3, ct_4⟩ := zc5 BM7.out) | (go_at_call 55; (with_reducible refine (spec_ValidBody.calls kb a5 _ _ c3).mono ?_); rintro e w8 ⟨rfl, hb8⟩; have HB8 := Aside0.mk (below_step HB7.out hb8); have BM8 := Aside0.mk (blk_below BM7.out hb8); clear hb8; obtain ⟨cu_0, cu_1, cu_2, cu_3, cu_4⟩ := zc5 BM8.out))
    go_meet
    case rel => exact ⟨by first | rfl | (simp; done) | (simp [*]; done), ⟨(by (with_reducible repeat (first | refine blk_drewN ?_ _ | refine blk_drew ?_)); exact BM8.out)⟩, ⟨(by repeat (first | (with_reducible first | exact HB8.out | apply pw_below_drewN | apply below_drew1) | exact HB8.out))⟩⟩
  case rest =>
    clear BB5 HB5 BM5
    obtain ⟨rfl, BM, HB⟩ := hcut
    have q0 := Q0.out
    have q1 := Q1.out
    have q2 := Q2.out
    have q3 := Q3.out
    have q4 := Q4.out
    have q0a := eq_false (Nat.not_lt.2 q0)
    have q0b := q0a
    try simp only [ByteArray.size_append, ByteArray.size_extract, Nat.min_self, Nat.sub_zero, show (⟨#[77]⟩ : ByteArray).size = 1 from rfl, show (⟨#[32]⟩ : ByteArray).size = 1 from rfl] at q0b
    have q0c := decide_eq_true q0
    replace q0 := eq_true q0
    have q1a := eq_false (Nat.not_lt.2 q1)
    have q1b := q1a
    try simp only [ByteArray.size_append, ByteArray.size_extract, Nat.min_self, Nat.sub_zero, show (⟨#[77]⟩ : ByteArray).size = 1 from rfl, show (⟨#[32]⟩ : ByteArray).size = 1 from rfl] at q1b
    have q1c := decide_eq_true q1
    replace q1 := eq_true q1
    have q2a := eq_false (Nat.not_lt.2 q2)
    have q2b := q2a
    try simp only [ByteArray.size_append, ByteArray.size_extract, Nat.min_self, Nat.sub_zero, show (⟨#[77]⟩ : ByteArray).size = 1 from rfl, show (⟨#[32]⟩ : ByteArray).size = 1 from rfl] at q2b
    have q2c := decide_eq_true q2
    replace q2 := eq_true q2
    have q3a := eq_false (Nat.not_lt.2 q3)
    have q3b := q3a
    try simp only [ByteArray.size_append, ByteArray.size_extract, Nat.min_self, Nat.sub_zero, show (⟨#[77]⟩ : ByteArray).size = 1 from rfl, show (⟨#[32]⟩ : ByteArray).size = 1 from rfl] at q3b
    have q3c := decide_eq_true q3
    replace q3 := eq_true q3
    have q4a := eq_false (Nat.not_lt.2 q4)
    have q4b := q4a
    try simp only [ByteArray.size_append, ByteArray.size_extract, Nat.min_self, Nat.sub_zero, show (⟨#[77]⟩ : ByteArray).size = 1 from rfl, show (⟨#[32]⟩ : ByteArray).size = 1 from rfl] at q4b
    have q4c := decide_eq_true q4
    replace q4 := eq_true q4
    try go_wp2
    have n0 := Aside0.mk (blk_drew BM.out)
    have nb := Aside0.mk (below_drew1 HB.out)
    clear BM HB
    have BM := n0
    have HB := nb
    clear n0 nb
    refine start_ (n := 19) (S := fun w' => w'.heap[gm]? = some (.cells #[.int .i64 a1, .int .i64 a2, .string a3, .slice aA al.length ac, .string a5] 24 (0, 0))) (ds := []) (zfl 19 []) (by kernel_rfl) rfl rfl BM.out (fun hHeld => ?_); refine with_tabW spt7.1 spt7.2 (fun HT_ HW_ => ?_)
    generalize wc.drew = w6 at BM HB hHeld ⊢
    refine zpu 0 73 (zfl 19 [0]) HT_ ?_
    refine zpu 5 78 (zfl 19 [0, 5]) HT_ ?_
    refine zpu 9 82 (zfl 19 [0, 5, 9]) HT_ ?_
    refine zpu 14 87 (zfl 19 [0, 5, 9, 14]) HT_ ?_
    refine ztk 1 74 (zfl 19 [0, 1, 5, 9, 14]) HT_ HW_ hHeld (hy := by refine Or.inl ⟨by rfl, ?_⟩; intro w' z1; obtain ⟨s_0, s_1, s_2, s_3, s_4⟩ := zc5 z1; go_simp; with_reducible rfl) ?_
    refine ztk 6 79 (zfl 19 [0, 1, 5, 6, 9, 14]) HT_ HW_ hHeld (hy := by refine Or.inl ⟨by rfl, ?_⟩; intro w' z1; obtain ⟨s_0, s_1, s_2, s_3, s_4⟩ := zc5 z1; go_simp; with_reducible rfl) ?_
    refine ztk 10 83 (zfl 19 [0, 1, 5, 6, 9, 10, 14]) HT_ HW_ hHeld (hy := by refine Or.inl ⟨by rfl, ?_⟩; intro w' z1; obtain ⟨s_0, s_1, s_2, s_3, s_4⟩ := zc5 z1; go_simp; with_reducible rfl) ?_
    refine zpu 11 84 (zfl 19 [0, 1, 5, 6, 9, 10, 11, 14]) HT_ ?_
    refine ztk 15 88 (zfl 19 [0, 1, 5, 6, 9, 10, 11, 14, 15]) HT_ HW_ hHeld (hy := by refine Or.inl ⟨by rfl, ?_⟩; intro w' z1; obtain ⟨s_0, s_1, s_2, s_3, s_4⟩ := zc5 z1; go_simp; with_reducible rfl) ?_
    refine zon 2 75 (zfl 19 [0, 1, 2, 5, 6, 9, 10, 11, 14, 15]) HT_ (fun K hK => ?_)
    refine goes_ Tryz.func56 (by kernel_rfl) rfl #[.int .i64 a1] (by rfl) rfl rfl (by (try simp only [List.map_toArray, List.map_cons, List.map_nil]); first | done | rfl | (simp only [List.length_drop, List.length_take]; rfl)) ?_
    with_reducible refine (spec_l6num.calls k1 a1 t1 _ e1).mono ?_
    rintro e w5 ⟨rfl, hb⟩
    refine ⟨_, rfl, ?_⟩
    have n0 := Aside0.mk (blk_below (by (with_reducible repeat (first | refine blk_drewN ?_ _ | refine blk_drew ?_ | refine blk_alloc ?_ _)); exact BM.out) hb); have nb := Aside0.mk (below_step (by repeat (first | (with_reducible first | exact HB.out | apply below_alloc | apply pw_below_drewN | apply below_drew1) | exact HB.out)) hb); clear BM HB hb; have BM := n0; have HB := nb; clear n0 nb
    refine hK.out _ _ BM.out (fun hHeld => ?_)
    clear hK K
    refine znm ?_
    refine zpu 3 76 (zfl 19 [0, 1, 2, 3, 5, 6, 9, 10, 11, 14, 15]) HT_ ?_
    refine zpu 4 77 (zfl 19 [0, 1, 2, 3, 4, 5, 6, 9, 10, 11, 14, 15]) HT_ ?_
    refine zon 7 80 (zfl 19 [0, 1, 2, 3, 4, 5, 6, 7, 9, 10, 11, 14, 15]) HT_ (fun K hK => ?_)
    refine goes_ Tryz.func57 (by kernel_rfl) rfl #[.int .i64 a2] (by rfl) rfl rfl (by (try simp only [List.map_toArray, List.map_cons, List.map_nil]); first | done | rfl | (simp only [List.length_drop, List.length_take]; rfl)) ?_
    with_reducible refine (spec_l2decimal.calls k2 a2 t2 _ e2).mono ?_
    rintro e w5 ⟨rfl, hb⟩
    refine ⟨_, rfl, ?_⟩
    have n0 := Aside0.mk (blk_below (by (with_reducible repeat (first | refine blk_drewN ?_ _ | refine blk_drew ?_ | refine blk_alloc ?_ _)); exact BM.out) hb); have nb := Aside0.mk (below_step (by repeat (first | (with_reducible first | exact HB.out | apply below_alloc | apply pw_below_drewN | apply below_drew1) | exact HB.out)) hb); clear BM HB hb; have BM := n0; have HB := nb; clear n0 nb
    refine hK.out _ _ BM.out (fun hHeld => ?_)
    clear hK K
    refine znm ?_
    refine zpu 8 81 (zfl 19 [0, 1, 2, 3, 4, 5, 6, 7, 8, 9, 10, 11, 14, 15]) HT_ ?_
    refine zon 12 85 (zfl 19 [0, 1, 2, 3, 4, 5, 6, 7, 8, 9, 10, 11, 12, 14, 15]) HT_ (fun K hK => ?_)
    refine goes_ Tryz.func56 (by kernel_rfl) rfl #[.int .i64 (al.length : Int)] (by rfl) rfl rfl (by (try simp only [List.map_toArray, List.map_cons, List.map_nil]); first | done | rfl | (simp only [List.length_drop, List.length_take]; rfl)) ?_
    with_reducible refine (spec_l6num.calls k3 (al.length : Int) t3 _ e3).mono ?_
    rintro e w5 ⟨rfl, hb⟩
    refine ⟨_, rfl, ?_⟩
    have n0 := Aside0.mk (blk_below (by (with_reducible repeat (first | refine blk_drewN ?_ _ | refine blk_drew ?_ | refine blk_alloc ?_ _)); exact BM.out) hb); have nb := Aside0.mk (below_step (by repeat (first | (with_reducible first | exact HB.out | apply below_alloc | apply pw_below_drewN | apply below_drew1) | exact HB.out)) hb); clear BM HB hb; have BM := n0; have HB := nb; clear n0 nb
    refine hK.out _ _ BM.out (fun hHeld => ?_)
    clear hK K
    refine znm ?_
    refine zpu 13 86 (zfl 19 [0, 1, 2, 3, 4, 5, 6, 7, 8, 9, 10, 11, 12, 13, 14, 15]) HT_ ?_
    refine zon 16 89 (zfl 19 [0, 1, 2, 3, 4, 5, 6, 7, 8, 9, 10, 11, 12, 13, 14, 15, 16]) HT_ (fun K hK => ?_)
    refine goes_ Tryz.func58 (by kernel_rfl) rfl #[.string a3] (by rfl) rfl rfl (by (try simp only [List.map_toArray, List.map_cons, List.map_nil]); first | done | rfl | (simp only [List.length_drop, List.length_take]; rfl)) ?_
    with_reducible refine (spec_l6str.calls k4 a3 t4 _ e4).mono ?_
    rintro e w5 ⟨rfl, hb⟩
    refine ⟨_, rfl, ?_⟩
    have n0 := Aside0.mk (blk_below (by (with_reducible repeat (first | refine blk_drewN ?_ _ | refine blk_drew ?_ | refine blk_alloc ?_ _)); exact BM.out) hb); have nb := Aside0.mk (below_step (by repeat (first | (with_reducible first | exact HB.out | apply below_alloc | apply pw_below_drewN | apply below_drew1) | exact HB.out)) hb); clear BM HB hb; have BM := n0; have HB := nb; clear n0 nb
    refine hK.out _ _ BM.out (fun hHeld => ?_)
    clear hK K
    refine znm ?_
    refine zpu 17 90 (zfl 19 [0, 1, 2, 3, 4, 5, 6, 7, 8, 9, 10, 11, 12, 13, 14, 15, 16, 17]) HT_ ?_
    refine zpu 18 6 (zfl 19 [0, 1, 2, 3, 4, 5, 6, 7, 8, 9, 10, 11, 12, 13, 14, 15, 16, 17, 18]) HT_ ?_
    refine done_ (done_of HT_.out (by kernel_rfl)) ?_
    clear q0 q0a q0b q0c q1 q1a q1b q1c q2 q2a q2b q2c q3 q3a q3b q3c q4 q4a q4b q4c
    obtain ⟨cg_0, cg_1, cg_2, cg_3, cg_4⟩ := zc5 BM.out
    obtain ⟨fg0, fg1, fg2, fg3, fg4⟩ := zf5 BM.out
    try go_wp2
    go_loopg [6, 94] al.length (fun kq v6 v94 w' => ∃ (i : Nat) (x : Int) (s : ByteArray), v6 = .string s ∧ v94 = .int .i64 x ∧ Aside0 (s = S i) ∧ Aside0 (x = (i : Int)) ∧ Aside0 (i + kq = al.length) ∧ Aside0 (w'.heap[gm]? = some (.cells #[.int .i64 a1, .int .i64 a2, .string a3, .slice aA al.length ac, .string a5] 24 (0, 0))) ∧ Aside0 (Below w.heap.size w w'))
    case atStart => exact ⟨0, 0, _, (by first | rfl | (simp; done) | (simp [*]; done)), (by first | rfl | (simp; done) | (simp [*]; done)), ⟨HS0.out.symm⟩, ⟨rfl⟩, ⟨by omega⟩, ⟨(by (with_reducible repeat (first | refine blk_drewN ?_ _ | refine blk_drew ?_ | refine blk_alloc ?_ _)); exact BM.out)⟩, ⟨(by repeat (first | (with_reducible first | exact HB.out | apply below_alloc | apply pw_below_drewN | apply below_drew1) | exact HB.out))⟩⟩
    case round =>
      obtain ⟨i, x, s, rfl, rfl, ES, EX, EI, BM, HB⟩ := hrel
      obtain ⟨ch_0, ch_1, ch_2, ch_3, ch_4⟩ := zc5 BM.out
      obtain ⟨fh0, fh1, fh2, fh3, fh4⟩ := zf5 BM.out
      by_cases hi : i < al.length
      · have lx : decide (x < (al.length : Int)) = true := decide_eq_true (by rw [EX.out]; omega)
        have gx : decide (0 ≤ x) = true := decide_eq_true (by rw [EX.out]; omega)
        obtain ⟨kk, t, et, es, eq⟩ := HS.out i hi
        rw [← ES.out] at es eq
        rw [← EX.out] at et
        have ET := Aside0.mk et
        have EZ := Aside0.mk es
        clear et es
        have eqa := eq_false (Nat.not_lt.2 eq)
        have eqc := decide_eq_true eq
        replace eq := eq_true eq
        have px : 0 ≤ x := of_decide_eq_true gx
        have qx : x < (al.length : Int) := of_decide_eq_true lx
        obtain ⟨ad, ea, hx⟩ := Kd.at_string HR.out x px qx
        cases ea
        try replace hx := (HB.out.cell (World.block_lt_of_cell? w _ hx)).trans hx
        replace px := eq_true px
        replace qx := eq_true qx
        have HI := Aside0.mk hi
        clear hi
        go_wp2_with (first | ((with_reducible refine gate_callee (f := 58) rfl ?_); refine goesL_ (some 100) rfl rfl Tryz.func58 (by kernel_rfl) rfl #[.string (rdOf ByteArray.empty al x)] rfl (by (try simp only [List.map_toArray, List.map_cons, List.map_nil]); first | done | rfl | (simp only [List.length_drop, List.length_take]; rfl)) ?_; (with_reducible refine (spec_l6str.calls kk (rdOf ByteArray.empty al x) t _ ET.out).mono ?_); rintro e w74 ⟨rfl, hb⟩; refine ⟨_, rfl, ?_⟩; have n0 := Aside0.mk (blk_below (by (with_reducible repeat (first | refine blk_drewN ?_ _ | refine blk_drew ?_ | refine blk_alloc ?_ _)); exact BM.out) hb); have nb := Aside0.mk (below_step (by repeat (first | (with_reducible first | exact HB.out | apply below_alloc | apply pw_below_drewN | apply below_drew1) | exact HB.out)) hb); clear BM HB hb; have BM := n0; have HB := nb; clear n0 nb))
        go_roundg (al.length - (i + 1))
        case measure => have := EI.out; have := HI.out; omega
        case rel => exact ⟨i + 1, (wrap64 (x + 1)), _, (by first | rfl | (simp; done) | (simp [*]; done)), (by first | rfl | (simp; done) | (simp [*]; done)), ⟨EZ.out.symm⟩, ⟨by have := EX.out; have := HI.out; have := HN.out; unfold wrap64; omega⟩, ⟨by have := EI.out; have := HI.out; omega⟩, ⟨(by (with_reducible repeat (first | refine blk_drewN ?_ _ | refine blk_drew ?_ | refine blk_alloc ?_ _)); exact BM.out)⟩, ⟨(by repeat (first | (with_reducible first | exact HB.out | apply below_alloc | apply pw_below_drewN | apply below_drew1) | exact HB.out))⟩⟩
      · have lx : decide (x < (al.length : Int)) = false := decide_eq_false (by rw [EX.out]; omega)
        obtain rfl : i = al.length := by have := EI.out; omega
        have es := ES.out
        subst es
        have eq := Q5.out
        have eqa := eq_false (Nat.not_lt.2 eq)
        have eqc := decide_eq_true eq
        replace eq := eq_true eq
        go_wp2_with (first | ((with_reducible refine gate_callee (f := 58) rfl ?_); refine goesL_ (some 106) rfl rfl Tryz.func58 (by kernel_rfl) rfl #[.string a5] rfl (by (try simp only [List.map_toArray, List.map_cons, List.map_nil]); first | done | rfl | (simp only [List.length_drop, List.length_take]; rfl)) ?_; (with_reducible refine (spec_l6str.calls k5 a5 t5 _ E5.out).mono ?_); rintro e w74 ⟨rfl, hb⟩; refine ⟨_, rfl, ?_⟩; have n0 := Aside0.mk (blk_below (by (with_reducible repeat (first | refine blk_drewN ?_ _ | refine blk_drew ?_ | refine blk_alloc ?_ _)); exact BM.out) hb); have nb := Aside0.mk (below_step (by repeat (first | (with_reducible first | exact HB.out | apply below_alloc | apply pw_below_drewN | apply below_drew1) | exact HB.out)) hb); clear BM HB hb; have BM := n0; have HB := nb; clear n0 nb))
        go_ret
        exact ⟨by first | rfl | (simp; done) | (simp [*]; done), (by repeat (first | (with_reducible first | exact HB.out | apply below_alloc | apply pw_below_drewN | apply below_drew1) | exact HB.out))⟩
end Go.Proofs.YtnlembpmcbnpnaaGreatDoor.X
/- A condition on package-level variables: internal/strconv.uint64pow10 holds the powers of ten. Kept by every world that leaves what lay below as it was. No condition on inputs. -/
namespace Go.Proofs.YtnlembpmcbnpnaaGreatDoor.X
open Go.RowKit Go.Proofs.YtnlembpmcbnpnaaGreatDoorW.PrintWords
def GlI (w : World) : Prop := Lib.TabIs Tryz.prog w "internal/strconv.uint64pow10" .u64 Lib.pow10Tab
theorem pow10_at : Tryz.prog.globalNamed "internal/strconv.uint64pow10" = some 3 := by kernel_rfl
theorem GlI.below {w W : World} (h : GlI w) (hb : Below w.heap.size w W) : GlI W := by
  unfold GlI Lib.TabIs World.var? at h ⊢
  rw [pow10_at, Option.bind_some] at h ⊢
  have hlt : 3 < w.heap.size := by
    rcases Nat.lt_or_ge 3 w.heap.size with h1 | h1
    · exact h1
    · rw [Array.getElem?_eq_none h1] at h; cases h
  rw [hb.block _ hlt]
  exact h
end Go.Proofs.YtnlembpmcbnpnaaGreatDoor.X
