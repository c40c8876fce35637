/- Part 6 of the proof of laws.FnExactUnpackRecord: contracts of functions that it reaches, and laws of what these compute. No condition beyond what each theorem says. -/
import Derived.BigCall
import Derived.BigGuard
import Derived.Handy
import Derived.Lib.AtoiAllMem
import Derived.Lib.ConvBytes
import Derived.Lib.CutLaws
import Derived.Lib.IndexMore
import Derived.Lib.ItoaNum
import Derived.Lib.ParseIntB
import Derived.Test.YtnlembpmcbnpnaaGreatDoorProg
import Derived.Test.YtnlembpmcbnpnaaGreatDoorKM1
import Derived.Test.YtnlembpmcbnpnaaGreatDoorKM2
import Derived.Test.YtnlembpmcbnpnaaGreatDoorKM4
import Derived.Test.YtnlembpmcbnpnaaGreatDoorKM5
namespace Go.Proofs.YtnlembpmcbnpnaaGreatDoor.X
open Go.RowKit Go.Proofs.YtnlembpmcbnpnaaGreatDoorW.PrintWords Go.Proofs.YtnlembpmcbnpnaaGreatDoorW.PrintLast Go.Proofs.YtnlembpmcbnpnaaGreatDoorW.PrintMore
set_option linter.unusedVariables false
set_option linter.unusedSimpArgs false
theorem z13_0_ {P : Prop} (h : P := by (try simp only [List.map_toArray, List.map_cons, List.map_nil]); first | done | rfl | (simp only [List.length_drop, List.length_take]; rfl)) : P := h
theorem z13_1_ {P : Prop} (h : P := by first | rfl | (simp [errW_none, errW_some] <;> rfl) | (simp [*, errW_none, errW_some] <;> rfl)) : P := h
theorem z13_2_ {P : Prop} (h : P := by repeat (first | (with_reducible first | exact HB.out | apply below_alloc | apply pw_below_drewN | apply below_drew1 | refine below_set ?_ GE212.out | refine below_set ?_ GE213.out) | exact HB.out)) : P := h
theorem z13_3_ {P : Prop} (h : P := by repeat (first | (with_reducible first | exact HB.out | apply below_alloc | apply pw_below_drewN | apply below_drew1 | refine below_set ?_ GE220.out | refine below_set ?_ GE221.out) | exact HB.out)) : P := h
/-! ### impl_tryKind_right: function 199 -/
def impl_tryKind_right.f  (a1_0 : Int) (a1_1 : Int) (a1_2 : Int) (a1_3 : ByteArray) (l1_4 : List ByteArray) (a1_5 : ByteArray) (a1_6 : Int) (a1_7 : Int) (a1_8 : Int) (a1_9 : Int) (a1_10 : ByteArray) (a1_11 : Int) (a1_12 : Int) : Option (Bool) := (impl_in.f a1_6 1 999999).bind fun t214 => (if t214 = true then ((impl_in.f a1_11 0 999999).bind fun t215 => (if t215 = true then ((impl_in.f a1_12 0 20014400).bind fun t216 => (some t216)) else (some false))) else (some false))
set_option maxHeartbeats 8000000 in
set_option maxRecDepth 100000 in
theorem impl_tryKind_right.calls  (a1_0 : Int) (a1_1 : Int) (a1_2 : Int) (a1_3 : ByteArray) (A1_4 : Option Addr) (c1_4 : Nat) (l1_4 : List ByteArray) (a1_5 : ByteArray) (a1_6 : Int) (a1_7 : Int) (a1_8 : Int) (a1_9 : Int) (a1_10 : ByteArray) (a1_11 : Int) (a1_12 : Int) (r : Bool) (w : World) (hr1_4 : Kd.C Kd.string w A1_4 l1_4.length l1_4) (hc1_4 : l1_4.length ≤ c1_4) (h : impl_tryKind_right.f a1_0 a1_1 a1_2 a1_3 l1_4 a1_5 a1_6 a1_7 a1_8 a1_9 a1_10 a1_11 a1_12 = some r) :
  Calls Tryz.prog 199 #[.agg #[], .agg #[.int .i64 a1_0, .int .i64 a1_1, .int .i64 a1_2, .string a1_3, .slice A1_4 l1_4.length c1_4, .string a1_5, .int .i64 a1_6, .int .i64 a1_7, .int .i64 a1_8, .int .i64 a1_9, .string a1_10, .int .i64 a1_11, .int .i64 a1_12]] w fun e w' => e = .returned (.bool r) ∧ Below w.heap.size w w' := by
 have hu113 := Tryz.underlying113
 have hu28 := Tryz.underlying28
 have HR1_4 := Aside0.mk hr1_4
 have HC1_4 := Aside0.mk hc1_4
 clear hr1_4 hc1_4
 have HB := Aside0.mk (Below.refl w.heap.size w)
 have H : ((impl_in.f a1_6 1 999999).bind fun t214 => (if t214 = true then ((impl_in.f a1_11 0 999999).bind fun t215 => (if t215 = true then ((impl_in.f a1_12 0 20014400).bind fun t216 => (some t216)) else (some false))) else (some false))) = some r := h
 clear h
 have HS3 := Aside0.mk H
 clear H
 go_enter Tryz.func199, Tryz.ntmps199
 go_upto_region 1 with (first | ((with_reducible refine gate_dst (N := 2) rfl ?_); refine box_event (by rfl) (N := 2) (by rfl) (cs := #[]) (t := 113) (by first | (go_simp; done) | (go_simp; rfl)) ?_; intro gb212 hg w4 hbox hb; have BK212 := Aside0.mk (hbox); have GW212 := Aside0.mk ((by rw [hg]; exact (below_size (bq_)) : w.heap.size ≤ gb212)); have GE212 := GW212; replace HB := Aside0.mk (below_step (bq_) hb); clear hb hbox hg) | ((with_reducible refine gate_dst (N := 3) rfl ?_); refine box_event (by rfl) (N := 3) (by rfl) (cs := #[.int .i64 a1_0, .int .i64 a1_1, .int .i64 a1_2, .string a1_3, .slice A1_4 l1_4.length c1_4, .string a1_5, .int .i64 a1_6, .int .i64 a1_7, .int .i64 a1_8, .int .i64 a1_9, .string a1_10, .int .i64 a1_11, .int .i64 a1_12]) (t := 28) (by first | (go_simp; done) | (go_simp; rfl)) ?_; intro gb213 hg w5 hbox hb; have BK213 := Aside0.mk (hbox); have GW213 := Aside0.mk ((by rw [hg]; exact (below_size (by repeat (first | (with_reducible first | exact HB.out | apply below_alloc | apply pw_below_drewN | apply below_drew1 | refine below_set ?_ GE212.out) | exact HB.out))) : w.heap.size ≤ gb213)); have GE213 := GW213; replace HB := Aside0.mk (below_step (by repeat (first | (with_reducible first | exact HB.out | apply below_alloc | apply pw_below_drewN | apply below_drew1 | refine below_set ?_ GE212.out) | exact HB.out)) hb); have NB212_213 := Aside0.mk ((by rw [hg]; exact Nat.ne_of_lt (blk_lt (g := gb212) (o := .cells #[] 113 (0, 0)) (by (with_reducible repeat (first | refine blk_drewN ?_ _ | refine blk_drew ?_ | refine blk_alloc ?_ _)); exact BK212.out)) : gb212 ≠ gb213)); have NB213_212 := Aside0.mk NB212_213.out.symm; replace BK212 := Aside0.mk (zbb BK212.out hb); clear hb hbox hg))
 (try simp only [Act.put, List.setIfInBounds_toArray, List.set_cons_zero, List.set_cons_succ])
 have H := HS3.out
 clear HS3
 obtain ⟨t214, A6, H⟩ := zbi H
 by_cases c7 : t214 = true
 ·subst c7
  rw [if_pos rfl] at H
  obtain ⟨t215, A8, H⟩ := zbi H
  by_cases c9 : t215 = true
  ·subst c9
   rw [if_pos rfl] at H
   obtain ⟨t216, A10, H⟩ := zbi H
   obtain rfl := Option.some.inj H
   have hnb11 := NB213_212.out
   have hnc11 := NB212_213.out
   obtain ⟨q12_0, q12_1, q12_2, q12_3, q12_4, q12_5, q12_6, q12_7, q12_8, q12_9, q12_10, q12_11, q12_12⟩ := zc13 BK213.out
   obtain ⟨f12_0, f12_1, f12_2, f12_3, f12_4, f12_5, f12_6, f12_7, f12_8, f12_9, f12_10, f12_11, f12_12⟩ := zf13 BK213.out
   go_wp2_with (first | ((with_reducible refine gate_callee (f := 155) rfl ?_); refine goesL_ (some 7) rfl rfl Tryz.func155 (by kernel_rfl) rfl #[.int .i64 a1_6, .int .i64 1, .int .i64 999999] rfl z13_0_ ?_; (with_reducible refine (impl_in.calls a1_6 1 999999 true _ A6.out).mono ?_); rintro e w' ⟨rfl, ⟨nd, rfl⟩⟩; refine ⟨_, rfl, ?_⟩) | (go_at_call 155; (with_reducible refine (impl_in.calls a1_11 0 999999 true _ A8.out).mono ?_); rintro e w' ⟨rfl, ⟨nd, rfl⟩⟩) | (go_at_call 155; (with_reducible refine (impl_in.calls a1_12 0 20014400 t216 _ A10.out).mono ?_); rintro e w' ⟨rfl, ⟨nd, rfl⟩⟩))
   go_ret
   exact ⟨z13_1_, z13_2_⟩
  ·replace c9 := Bool.eq_false_iff.mpr c9
   subst c9
   rw [if_neg (show ¬ (false = true) by decide)] at H
   obtain rfl := Option.some.inj H
   have hnb13 := NB213_212.out
   have hnc13 := NB212_213.out
   obtain ⟨q14_0, q14_1, q14_2, q14_3, q14_4, q14_5, q14_6, q14_7, q14_8, q14_9, q14_10, q14_11, q14_12⟩ := zc13 BK213.out
   obtain ⟨f14_0, f14_1, f14_2, f14_3, f14_4, f14_5, f14_6, f14_7, f14_8, f14_9, f14_10, f14_11, f14_12⟩ := zf13 BK213.out
   go_wp2_with (first | ((with_reducible refine gate_callee (f := 155) rfl ?_); refine goesL_ (some 7) rfl rfl Tryz.func155 (by kernel_rfl) rfl #[.int .i64 a1_6, .int .i64 1, .int .i64 999999] rfl z13_0_ ?_; (with_reducible refine (impl_in.calls a1_6 1 999999 true _ A6.out).mono ?_); rintro e w' ⟨rfl, ⟨nd, rfl⟩⟩; refine ⟨_, rfl, ?_⟩) | (go_at_call 155; (with_reducible refine (impl_in.calls a1_11 0 999999 false _ A8.out).mono ?_); rintro e w' ⟨rfl, ⟨nd, rfl⟩⟩))
   go_ret
   exact ⟨z13_1_, z13_2_⟩
 ·replace c7 := Bool.eq_false_iff.mpr c7
  subst c7
  rw [if_neg (show ¬ (false = true) by decide)] at H
  obtain rfl := Option.some.inj H
  have hnb15 := NB213_212.out
  have hnc15 := NB212_213.out
  obtain ⟨q16_0, q16_1, q16_2, q16_3, q16_4, q16_5, q16_6, q16_7, q16_8, q16_9, q16_10, q16_11, q16_12⟩ := zc13 BK213.out
  obtain ⟨f16_0, f16_1, f16_2, f16_3, f16_4, f16_5, f16_6, f16_7, f16_8, f16_9, f16_10, f16_11, f16_12⟩ := zf13 BK213.out
  go_wp2_with (first | ((with_reducible refine gate_callee (f := 155) rfl ?_); refine goesL_ (some 7) rfl rfl Tryz.func155 (by kernel_rfl) rfl #[.int .i64 a1_6, .int .i64 1, .int .i64 999999] rfl z13_0_ ?_; (with_reducible refine (impl_in.calls a1_6 1 999999 false _ A6.out).mono ?_); rintro e w' ⟨rfl, ⟨nd, rfl⟩⟩; refine ⟨_, rfl, ?_⟩))
  go_ret
  exact ⟨z13_1_, z13_2_⟩
/-! ### impl_markKind_only: function 200 -/
def impl_markKind_only.f (a0_0 : ByteArray) (a0_1 : Int) (a1_0 : Int) (a1_1 : Int) (a1_2 : Int) (a1_3 : ByteArray) (l1_4 : List ByteArray) (a1_5 : ByteArray) (a1_6 : Int) (a1_7 : Int) (a1_8 : Int) (a1_9 : Int) (a1_10 : ByteArray) (a1_11 : Int) (a1_12 : Int) : Option (Int × Int × Int × ByteArray × List ByteArray × ByteArray × Int × Int × Int × Int × ByteArray × Int × Int) := some (a1_0, 0, 0, (⟨#[]⟩ : ByteArray), ([] : List ByteArray), (⟨#[]⟩ : ByteArray), a1_6, 0, 0, 0, (⟨#[]⟩ : ByteArray), 0, 0)
set_option maxHeartbeats 8000000 in
set_option maxRecDepth 100000 in
theorem impl_markKind_only.calls (a0_0 : ByteArray) (a0_1 : Int) (a1_0 : Int) (a1_1 : Int) (a1_2 : Int) (a1_3 : ByteArray) (A1_4 : Option Addr) (c1_4 : Nat) (l1_4 : List ByteArray) (a1_5 : ByteArray) (a1_6 : Int) (a1_7 : Int) (a1_8 : Int) (a1_9 : Int) (a1_10 : ByteArray) (a1_11 : Int) (a1_12 : Int) (r1 : Int) (r2 : Int) (r3 : Int) (r4 : ByteArray) (r5 : List ByteArray) (r6 : ByteArray) (r7 : Int) (r8 : Int) (r9 : Int) (r10 : Int) (r11 : ByteArray) (r12 : Int) (r13 : Int) (w : World) (hr1_4 : Kd.C Kd.string w A1_4 l1_4.length l1_4) (hc1_4 : l1_4.length ≤ c1_4) (h : impl_markKind_only.f a0_0 a0_1 a1_0 a1_1 a1_2 a1_3 l1_4 a1_5 a1_6 a1_7 a1_8 a1_9 a1_10 a1_11 a1_12 = some (r1, r2, r3, r4, r5, r6, r7, r8, r9, r10, r11, r12, r13)) :
  Calls Tryz.prog 200 #[.agg #[.string a0_0, .int .i64 a0_1], .agg #[.int .i64 a1_0, .int .i64 a1_1, .int .i64 a1_2, .string a1_3, .slice A1_4 l1_4.length c1_4, .string a1_5, .int .i64 a1_6, .int .i64 a1_7, .int .i64 a1_8, .int .i64 a1_9, .string a1_10, .int .i64 a1_11, .int .i64 a1_12]] w fun e w' => ∃ v4_ : Value, e = .returned (.agg #[.int .i64 r1, .int .i64 r2, .int .i64 r3, .string r4, v4_, .string r6, .int .i64 r7, .int .i64 r8, .int .i64 r9, .int .i64 r10, .string r11, .int .i64 r12, .int .i64 r13]) ∧ Kd.R Kd.string 9 w' w.heap.size (fun _ => True) v4_ r5 ∧ Below w.heap.size w w' := by
 have hu115 := Tryz.underlying115
 have hu28 := Tryz.underlying28
 have HR1_4 := Aside0.mk hr1_4
 have HC1_4 := Aside0.mk hc1_4
 clear hr1_4 hc1_4
 have HB := Aside0.mk (Below.refl w.heap.size w)
 have H := h
 unfold impl_markKind_only.f at H
 clear h
 simp only [Option.some.injEq, Prod.mk.injEq] at H
 obtain ⟨rfl, rfl, rfl, rfl, rfl, rfl, rfl, rfl, rfl, rfl, rfl, rfl, rfl⟩ := H
 go_enter Tryz.func200, Tryz.ntmps200
 go_wp2_with (first | ((with_reducible refine gate_dst (N := 2) rfl ?_); refine box_event (by rfl) (N := 2) (by rfl) (cs := #[.string a0_0, .int .i64 a0_1]) (t := 115) (by first | (go_simp; done) | (go_simp; rfl)) ?_; intro gb217 hg w3 hbox hb; have BK217 := Aside0.mk (hbox); have GW217 := Aside0.mk ((by rw [hg]; exact (below_size (bq_)) : w.heap.size ≤ gb217)); have GE217 := GW217; replace HB := Aside0.mk (below_step (bq_) hb); clear hb hbox hg) | ((with_reducible refine gate_dst (N := 3) rfl ?_); refine box_event (by rfl) (N := 3) (by rfl) (cs := #[.int .i64 a1_0, .int .i64 a1_1, .int .i64 a1_2, .string a1_3, .slice A1_4 l1_4.length c1_4, .string a1_5, .int .i64 a1_6, .int .i64 a1_7, .int .i64 a1_8, .int .i64 a1_9, .string a1_10, .int .i64 a1_11, .int .i64 a1_12]) (t := 28) (by first | (go_simp; done) | (go_simp; rfl)) ?_; intro gb218 hg w4 hbox hb; have BK218 := Aside0.mk (hbox); have GW218 := Aside0.mk ((by rw [hg]; exact (below_size (by repeat (first | (with_reducible first | exact HB.out | apply below_alloc | apply pw_below_drewN | apply below_drew1 | refine below_set ?_ GE217.out) | exact HB.out))) : w.heap.size ≤ gb218)); have GE218 := GW218; replace HB := Aside0.mk (below_step (by repeat (first | (with_reducible first | exact HB.out | apply below_alloc | apply pw_below_drewN | apply below_drew1 | refine below_set ?_ GE217.out) | exact HB.out)) hb); have NB217_218 := Aside0.mk ((by rw [hg]; exact Nat.ne_of_lt (blk_lt (g := gb217) (o := .cells #[.string a0_0, .int .i64 a0_1] 115 (0, 0)) (by (with_reducible repeat (first | refine blk_drewN ?_ _ | refine blk_drew ?_ | refine blk_alloc ?_ _)); exact BK217.out)) : gb217 ≠ gb218)); have NB218_217 := Aside0.mk NB217_218.out.symm; replace BK217 := Aside0.mk (zbb BK217.out hb); clear hb hbox hg) | ((with_reducible refine gate_dst (N := 4) rfl ?_); refine box_event (by rfl) (N := 4) (by rfl) (cs := #[.int .i64 0, .int .i64 0, .int .i64 0, .string (⟨#[]⟩ : ByteArray), .slice none 0 0, .string (⟨#[]⟩ : ByteArray), .int .i64 0, .int .i64 0, .int .i64 0, .int .i64 0, .string (⟨#[]⟩ : ByteArray), .int .i64 0, .int .i64 0]) (t := 28) (by first | (go_simp; done) | (go_simp; rfl)) ?_; intro gb219 hg w5 hbox hb; have BK219 := Aside0.mk (hbox); have GW219 := Aside0.mk ((by rw [hg]; exact (below_size (by repeat (first | (with_reducible first | exact HB.out | apply below_alloc | apply pw_below_drewN | apply below_drew1 | refine below_set ?_ GE217.out | refine below_set ?_ GE218.out) | exact HB.out))) : w.heap.size ≤ gb219)); have GE219 := GW219; replace HB := Aside0.mk (below_step (by repeat (first | (with_reducible first | exact HB.out | apply below_alloc | apply pw_below_drewN | apply below_drew1 | refine below_set ?_ GE217.out | refine below_set ?_ GE218.out) | exact HB.out)) hb); have NB217_219 := Aside0.mk ((by rw [hg]; exact Nat.ne_of_lt (blk_lt (g := gb217) (o := .cells #[.string a0_0, .int .i64 a0_1] 115 (0, 0)) (by (with_reducible repeat (first | refine blk_drewN ?_ _ | refine blk_drew ?_ | refine blk_alloc ?_ _)); exact BK217.out)) : gb217 ≠ gb219)); have NB219_217 := Aside0.mk NB217_219.out.symm; replace BK217 := Aside0.mk (zbb BK217.out hb); have NB218_219 := Aside0.mk ((by rw [hg]; exact Nat.ne_of_lt (blk_lt (g := gb218) (o := .cells #[.int .i64 a1_0, .int .i64 a1_1, .int .i64 a1_2, .string a1_3, .slice A1_4 l1_4.length c1_4, .string a1_5, .int .i64 a1_6, .int .i64 a1_7, .int .i64 a1_8, .int .i64 a1_9, .string a1_10, .int .i64 a1_11, .int .i64 a1_12] 28 (0, 0)) (by (with_reducible repeat (first | refine blk_drewN ?_ _ | refine blk_drew ?_ | refine blk_alloc ?_ _)); exact BK218.out)) : gb218 ≠ gb219)); have NB219_218 := Aside0.mk NB218_219.out.symm; replace BK218 := Aside0.mk (zbb BK218.out hb); clear hb hbox hg; have hnb6 := NB218_217.out; have hnc6 := NB217_218.out; have hnb7 := NB218_219.out; have hnc7 := NB219_218.out; obtain ⟨q8_0, q8_1, q8_2, q8_3, q8_4, q8_5, q8_6, q8_7, q8_8, q8_9, q8_10, q8_11, q8_12⟩ := zc13 BK218.out; obtain ⟨f8_0, f8_1, f8_2, f8_3, f8_4, f8_5, f8_6, f8_7, f8_8, f8_9, f8_10, f8_11, f8_12⟩ := zf13 BK218.out; have hnb9 := NB219_217.out; have hnc9 := NB217_219.out; obtain ⟨q10_0, q10_1, q10_2, q10_3, q10_4, q10_5, q10_6, q10_7, q10_8, q10_9, q10_10, q10_11, q10_12⟩ := zc13 BK219.out; obtain ⟨f10_0, f10_1, f10_2, f10_3, f10_4, f10_5, f10_6, f10_7, f10_8, f10_9, f10_10, f10_11, f10_12⟩ := zf13 BK219.out))
 refine bodyPost_ret (results_cell_row rfl _ _ gb219 28 #[.int .i64 a1_0, .int .i64 0, .int .i64 0, .string (⟨#[]⟩ : ByteArray), .slice none 0 0, .string (⟨#[]⟩ : ByteArray), .int .i64 a1_6, .int .i64 0, .int .i64 0, .int .i64 0, .string (⟨#[]⟩ : ByteArray), .int .i64 0, .int .i64 0] (0, 0) _ rfl (by (with_reducible repeat (first | refine blk_drewN ?_ _ | refine blk_drew ?_ | refine blk_alloc ?_ _)); apply zp13; (with_reducible repeat (first | refine blk_drewN ?_ _ | refine blk_drew ?_ | refine blk_alloc ?_ _)); exact BK219.out) Tryz.underlying28 rfl (by kernel_rfl)) rfl ?_
 exact ⟨_, z13_1_, (by first | exact Kd.R_nil _ _ _ _ _ | exact Kd.N_nil _ _ _ _ _ | exact Kd.V_nil _ _ _ _ _ | exact Kd.Q_nil _ _ _ _ _ | exact Kd.S_nil _ _ _ _ _), (by repeat (first | (with_reducible first | exact HB.out | apply below_alloc | apply pw_below_drewN | apply below_drew1 | refine below_set ?_ GE217.out | refine below_set ?_ GE218.out | refine below_set ?_ GE219.out) | exact HB.out))⟩
/-! ### impl_markKind_pack: function 201 -/
def impl_markKind_pack.f (a0_0 : ByteArray) (a0_1 : Int) (a1_0 : Int) (a1_1 : Int) (a1_2 : Int) (a1_3 : ByteArray) (l1_4 : List ByteArray) (a1_5 : ByteArray) (a1_6 : Int) (a1_7 : Int) (a1_8 : Int) (a1_9 : Int) (a1_10 : ByteArray) (a1_11 : Int) (a1_12 : Int) : Option (ByteArray) := if a0_0.size + 1 ≤ 9223372036854775807 then ((impl_num.f a1_6).bind fun t222 => (if (a0_0 ++ (⟨#[32]⟩ : ByteArray)).size + t222.size ≤ 9223372036854775807 then (some ((a0_0 ++ (⟨#[32]⟩ : ByteArray)) ++ t222)) else (none))) else (none)
def impl_markKind_pack.T1 : Bool × List (List Nat × List Nat) := (true, [([], []), ([0], [0]), ([1], [1]), ([], []), ([3], [3]), ([4], [4]), ([2, 5], [2, 5]), ([6, 5, 0, 1, 2, 3, 4, 5, 6], [6])])
def impl_markKind_pack.B1 : List Nat := [0, 1, 3, 0, 8, 24, 63, 127]
theorem impl_markKind_pack.tab1 : rtab .any (opsOf Tryz.f201 1) = impl_markKind_pack.T1 := by kernel_rfl
theorem impl_markKind_pack.bits1 : waitsOk impl_markKind_pack.T1.2 impl_markKind_pack.B1 = true := by kernel_rfl
set_option maxHeartbeats 8000000 in
set_option maxRecDepth 100000 in
theorem impl_markKind_pack.calls (a0_0 : ByteArray) (a0_1 : Int) (a1_0 : Int) (a1_1 : Int) (a1_2 : Int) (a1_3 : ByteArray) (A1_4 : Option Addr) (c1_4 : Nat) (l1_4 : List ByteArray) (a1_5 : ByteArray) (a1_6 : Int) (a1_7 : Int) (a1_8 : Int) (a1_9 : Int) (a1_10 : ByteArray) (a1_11 : Int) (a1_12 : Int) (r : ByteArray) (w : World) (hGI : GlI w) (hr1_4 : Kd.C Kd.string w A1_4 l1_4.length l1_4) (hc1_4 : l1_4.length ≤ c1_4) (h : impl_markKind_pack.f a0_0 a0_1 a1_0 a1_1 a1_2 a1_3 l1_4 a1_5 a1_6 a1_7 a1_8 a1_9 a1_10 a1_11 a1_12 = some r) :
  Calls Tryz.prog 201 #[.agg #[.string a0_0, .int .i64 a0_1], .agg #[.int .i64 a1_0, .int .i64 a1_1, .int .i64 a1_2, .string a1_3, .slice A1_4 l1_4.length c1_4, .string a1_5, .int .i64 a1_6, .int .i64 a1_7, .int .i64 a1_8, .int .i64 a1_9, .string a1_10, .int .i64 a1_11, .int .i64 a1_12]] w fun e w' => e = .returned (.string r) ∧ Below w.heap.size w w' := by
 have hu115 := Tryz.underlying115
 have hu28 := Tryz.underlying28
 have HR1_4 := Aside0.mk hr1_4
 have HC1_4 := Aside0.mk hc1_4
 clear hr1_4 hc1_4
 have HB := Aside0.mk (Below.refl w.heap.size w)
 have H := h
 unfold impl_markKind_pack.f at H
 clear h
 by_cases c3 : a0_0.size + 1 ≤ 9223372036854775807
 ·rw [if_pos c3] at H
  have c3b0 := eq_true c3
  have c3b1 : decide (a0_0.size + 1 ≤ 9223372036854775807) = true := decide_eq_true c3
  try have c3b2 : (9223372036854775807 < a0_0.size + 1) = False := eq_false (Nat.not_lt.2 c3)
  obtain ⟨t222, A4, H⟩ := zbi H
  by_cases c5 : (a0_0 ++ (⟨#[32]⟩ : ByteArray)).size + t222.size ≤ 9223372036854775807
  ·rw [if_pos c5] at H
   have c5b0 := eq_true c5
   have c5b1 : decide ((a0_0 ++ (⟨#[32]⟩ : ByteArray)).size + t222.size ≤ 9223372036854775807) = true := decide_eq_true c5
   try have c5b2 : (9223372036854775807 < (a0_0 ++ (⟨#[32]⟩ : ByteArray)).size + t222.size) = False := eq_false (Nat.not_lt.2 c5)
   try have c5b3 := c5b2
   try simp only [ByteArray.size_append, ByteArray.size_extract, Nat.min_self, Nat.sub_zero, show (⟨#[32]⟩ : ByteArray).size = 1 from rfl] at c5b3
   obtain rfl := Option.some.inj H
   go_enter Tryz.func201, Tryz.ntmps201
   try go_wp2_with (first | ((with_reducible refine gate_dst (N := 2) rfl ?_); refine box_event (by rfl) (N := 2) (by rfl) (cs := #[.string a0_0, .int .i64 a0_1]) (t := 115) (by first | (go_simp; done) | (go_simp; rfl)) ?_; intro gb220 hg w6 hbox hb; have BK220 := Aside0.mk (hbox); have GW220 := Aside0.mk ((by rw [hg]; exact (below_size (bq_)) : w.heap.size ≤ gb220)); have GE220 := GW220; replace HB := Aside0.mk (below_step (bq_) hb); clear hb hbox hg) | ((with_reducible refine gate_dst (N := 3) rfl ?_); refine box_event (by rfl) (N := 3) (by rfl) (cs := #[.int .i64 a1_0, .int .i64 a1_1, .int .i64 a1_2, .string a1_3, .slice A1_4 l1_4.length c1_4, .string a1_5, .int .i64 a1_6, .int .i64 a1_7, .int .i64 a1_8, .int .i64 a1_9, .string a1_10, .int .i64 a1_11, .int .i64 a1_12]) (t := 28) (by first | (go_simp; done) | (go_simp; rfl)) ?_; intro gb221 hg w7 hbox hb; have BK221 := Aside0.mk (hbox); have GW221 := Aside0.mk ((by rw [hg]; exact (below_size (by repeat (first | (with_reducible first | exact HB.out | apply below_alloc | apply pw_below_drewN | apply below_drew1 | refine below_set ?_ GE220.out) | exact HB.out))) : w.heap.size ≤ gb221)); have GE221 := GW221; replace HB := Aside0.mk (below_step (by repeat (first | (with_reducible first | exact HB.out | apply below_alloc | apply pw_below_drewN | apply below_drew1 | refine below_set ?_ GE220.out) | exact HB.out)) hb); have NB220_221 := Aside0.mk ((by rw [hg]; exact Nat.ne_of_lt (blk_lt (g := gb220) (o := .cells #[.string a0_0, .int .i64 a0_1] 115 (0, 0)) (by (with_reducible repeat (first | refine blk_drewN ?_ _ | refine blk_drew ?_ | refine blk_alloc ?_ _)); exact BK220.out)) : gb220 ≠ gb221)); have NB221_220 := Aside0.mk NB220_221.out.symm; replace BK220 := Aside0.mk (zbb BK220.out hb); clear hb hbox hg))
   replace BK220 := Aside0.mk (blk_drew BK220.out)
   replace BK221 := Aside0.mk (blk_drew BK221.out)
   replace HB := Aside0.mk (below_drew1 HB.out)
   refine start_ (n := 8) (S := fun w' => w'.cell? ⟨gb220, 0, none⟩ = some (.string a0_0) ∧ w'.cell? ⟨gb220, 1, none⟩ = some (.int .i64 a0_1) ∧ w'.cell? ⟨gb221, 0, none⟩ = some (.int .i64 a1_0) ∧ w'.cell? ⟨gb221, 1, none⟩ = some (.int .i64 a1_1) ∧ w'.cell? ⟨gb221, 2, none⟩ = some (.int .i64 a1_2) ∧ w'.cell? ⟨gb221, 3, none⟩ = some (.string a1_3) ∧ w'.cell? ⟨gb221, 4, none⟩ = some (.slice A1_4 l1_4.length c1_4) ∧ w'.cell? ⟨gb221, 5, none⟩ = some (.string a1_5) ∧ w'.cell? ⟨gb221, 6, none⟩ = some (.int .i64 a1_6) ∧ w'.cell? ⟨gb221, 7, none⟩ = some (.int .i64 a1_7) ∧ w'.cell? ⟨gb221, 8, none⟩ = some (.int .i64 a1_8) ∧ w'.cell? ⟨gb221, 9, none⟩ = some (.int .i64 a1_9) ∧ w'.cell? ⟨gb221, 10, none⟩ = some (.string a1_10) ∧ w'.cell? ⟨gb221, 11, none⟩ = some (.int .i64 a1_11) ∧ w'.cell? ⟨gb221, 12, none⟩ = some (.int .i64 a1_12)) (ds := []) (zfl 8 []) (by kernel_rfl) rfl rfl ⟨(blk_cell BK220.out 0).trans rfl, (blk_cell BK220.out 1).trans rfl, (blk_cell BK221.out 0).trans rfl, (blk_cell BK221.out 1).trans rfl, (blk_cell BK221.out 2).trans rfl, (blk_cell BK221.out 3).trans rfl, (blk_cell BK221.out 4).trans rfl, (blk_cell BK221.out 5).trans rfl, (blk_cell BK221.out 6).trans rfl, (blk_cell BK221.out 7).trans rfl, (blk_cell BK221.out 8).trans rfl, (blk_cell BK221.out 9).trans rfl, (blk_cell BK221.out 10).trans rfl, (blk_cell BK221.out 11).trans rfl, (blk_cell BK221.out 12).trans rfl⟩ (fun hHeld => ?_); refine with_tabW impl_markKind_pack.tab1 impl_markKind_pack.bits1 (fun HT_ HW_ => ?_)
   generalize w7.drew = w8 at BK220 BK221 HB hHeld ⊢
   refine zpu 0 5 (zfl 8 [0]) HT_ ?_
   refine zpu 3 8 (zfl 8 [0, 3]) HT_ ?_
   refine ztk 1 6 (zfl 8 [0, 1, 3]) HT_ HW_ hHeld ?_
   refine zpu 2 7 (zfl 8 [0, 1, 2, 3]) HT_ ?_
   refine ztk 4 9 (zfl 8 [0, 1, 2, 3, 4]) HT_ HW_ hHeld ?_
   refine zon 5 10 (zfl 8 [0, 1, 2, 3, 4, 5]) HT_ (fun K hK => ?_)
   refine goes_ Tryz.func152 (by kernel_rfl) rfl #[.int .i64 a1_6] (by rfl) rfl rfl z13_0_ ?_
   with_reducible refine (impl_num.calls a1_6 t222 _ ?side1 A4.out).mono ?_
   (case side1 => exact GlI.below hGI z13_3_)
   rintro e w9 ⟨rfl, hb⟩
   refine ⟨_, rfl, ?_⟩
   replace BK220 := Aside0.mk (zbb BK220.out hb)
   replace BK221 := Aside0.mk (zbb BK221.out hb)
   replace HB := Aside0.mk (below_step z13_3_ hb)
   (try clear hb)
   (try clear hb2)
   (try clear hk)
   (try clear hi)
   refine hK.out _ _ ⟨(blk_cell BK220.out 0).trans rfl, (blk_cell BK220.out 1).trans rfl, (blk_cell BK221.out 0).trans rfl, (blk_cell BK221.out 1).trans rfl, (blk_cell BK221.out 2).trans rfl, (blk_cell BK221.out 3).trans rfl, (blk_cell BK221.out 4).trans rfl, (blk_cell BK221.out 5).trans rfl, (blk_cell BK221.out 6).trans rfl, (blk_cell BK221.out 7).trans rfl, (blk_cell BK221.out 8).trans rfl, (blk_cell BK221.out 9).trans rfl, (blk_cell BK221.out 10).trans rfl, (blk_cell BK221.out 11).trans rfl, (blk_cell BK221.out 12).trans rfl⟩ (fun hHeld => ?_)
   clear hK K
   refine znm ?_
   refine zpu 6 11 (zfl 8 [0, 1, 2, 3, 4, 5, 6]) HT_ ?_
   refine zpu 7 4 (zfl 8 [0, 1, 2, 3, 4, 5, 6, 7]) HT_ ?_
   refine done_ (done_of HT_.out (by kernel_rfl)) ?_
   try go_wp2
   go_ret
   exact ⟨z13_1_, z13_3_⟩
  ·rw [if_neg c5] at H
   exact absurd H (by simp)
 ·rw [if_neg c3] at H
  exact absurd H (by simp)
/-! ### impl_markKind_right: function 202 -/
def impl_markKind_right.f (a0_0 : ByteArray) (a0_1 : Int) (a1_0 : Int) (a1_1 : Int) (a1_2 : Int) (a1_3 : ByteArray) (l1_4 : List ByteArray) (a1_5 : ByteArray) (a1_6 : Int) (a1_7 : Int) (a1_8 : Int) (a1_9 : Int) (a1_10 : ByteArray) (a1_11 : Int) (a1_12 : Int) : Option (Bool) := (impl_in.f a1_6 1 a0_1).bind fun t225 => (some t225)
set_option maxHeartbeats 8000000 in
set_option maxRecDepth 100000 in
theorem impl_markKind_right.calls (a0_0 : ByteArray) (a0_1 : Int) (a1_0 : Int) (a1_1 : Int) (a1_2 : Int) (a1_3 : ByteArray) (A1_4 : Option Addr) (c1_4 : Nat) (l1_4 : List ByteArray) (a1_5 : ByteArray) (a1_6 : Int) (a1_7 : Int) (a1_8 : Int) (a1_9 : Int) (a1_10 : ByteArray) (a1_11 : Int) (a1_12 : Int) (r : Bool) (w : World) (hr1_4 : Kd.C Kd.string w A1_4 l1_4.length l1_4) (hc1_4 : l1_4.length ≤ c1_4) (h : impl_markKind_right.f a0_0 a0_1 a1_0 a1_1 a1_2 a1_3 l1_4 a1_5 a1_6 a1_7 a1_8 a1_9 a1_10 a1_11 a1_12 = some r) :
  Calls Tryz.prog 202 #[.agg #[.string a0_0, .int .i64 a0_1], .agg #[.int .i64 a1_0, .int .i64 a1_1, .int .i64 a1_2, .string a1_3, .slice A1_4 l1_4.length c1_4, .string a1_5, .int .i64 a1_6, .int .i64 a1_7, .int .i64 a1_8, .int .i64 a1_9, .string a1_10, .int .i64 a1_11, .int .i64 a1_12]] w fun e w' => e = .returned (.bool r) ∧ Below w.heap.size w w' := by
 have hu115 := Tryz.underlying115
 have hu28 := Tryz.underlying28
 have HR1_4 := Aside0.mk hr1_4
 have HC1_4 := Aside0.mk hc1_4
 clear hr1_4 hc1_4
 have HB := Aside0.mk (Below.refl w.heap.size w)
 have H : ((impl_in.f a1_6 1 a0_1).bind fun t225 => (some t225)) = some r := h
 clear h
 obtain ⟨t225, A3, H⟩ := zbi H
 obtain rfl := Option.some.inj H
 go_enter Tryz.func202, Tryz.ntmps202
 go_wp2_with (first | ((with_reducible refine gate_dst (N := 2) rfl ?_); refine box_event (by rfl) (N := 2) (by rfl) (cs := #[.string a0_0, .int .i64 a0_1]) (t := 115) (by first | (go_simp; done) | (go_simp; rfl)) ?_; intro gb223 hg w4 hbox hb; have BK223 := Aside0.mk (hbox); have GW223 := Aside0.mk ((by rw [hg]; exact (below_size (bq_)) : w.heap.size ≤ gb223)); have GE223 := GW223; replace HB := Aside0.mk (below_step (bq_) hb); clear hb hbox hg) | ((with_reducible refine gate_dst (N := 3) rfl ?_); refine box_event (by rfl) (N := 3) (by rfl) (cs := #[.int .i64 a1_0, .int .i64 a1_1, .int .i64 a1_2, .string a1_3, .slice A1_4 l1_4.length c1_4, .string a1_5, .int .i64 a1_6, .int .i64 a1_7, .int .i64 a1_8, .int .i64 a1_9, .string a1_10, .int .i64 a1_11, .int .i64 a1_12]) (t := 28) (by first | (go_simp; done) | (go_simp; rfl)) ?_; intro gb224 hg w5 hbox hb; have BK224 := Aside0.mk (hbox); have GW224 := Aside0.mk ((by rw [hg]; exact (below_size (by repeat (first | (with_reducible first | exact HB.out | apply below_alloc | apply pw_below_drewN | apply below_drew1 | refine below_set ?_ GE223.out) | exact HB.out))) : w.heap.size ≤ gb224)); have GE224 := GW224; replace HB := Aside0.mk (below_step (by repeat (first | (with_reducible first | exact HB.out | apply below_alloc | apply pw_below_drewN | apply below_drew1 | refine below_set ?_ GE223.out) | exact HB.out)) hb); have NB223_224 := Aside0.mk ((by rw [hg]; exact Nat.ne_of_lt (blk_lt (g := gb223) (o := .cells #[.string a0_0, .int .i64 a0_1] 115 (0, 0)) (by (with_reducible repeat (first | refine blk_drewN ?_ _ | refine blk_drew ?_ | refine blk_alloc ?_ _)); exact BK223.out)) : gb223 ≠ gb224)); have NB224_223 := Aside0.mk NB223_224.out.symm; replace BK223 := Aside0.mk (zbb BK223.out hb); clear hb hbox hg; have hnb6 := NB224_223.out; have hnc6 := NB223_224.out; obtain ⟨q7_0, q7_1, q7_2, q7_3, q7_4, q7_5, q7_6, q7_7, q7_8, q7_9, q7_10, q7_11, q7_12⟩ := zc13 BK224.out; obtain ⟨f7_0, f7_1, f7_2, f7_3, f7_4, f7_5, f7_6, f7_7, f7_8, f7_9, f7_10, f7_11, f7_12⟩ := zf13 BK224.out; have q8_0 : w5.cell? ⟨gb223, 0, none⟩ = some (.string a0_0) := (blk_cell BK223.out 0).trans rfl; have q8_1 : w5.cell? ⟨gb223, 1, none⟩ = some (.int .i64 a0_1) := (blk_cell BK223.out 1).trans rfl; have f8_0 := blk_frozen BK223.out 0; have f8_1 := blk_frozen BK223.out 1) | ((with_reducible refine gate_callee (f := 155) rfl ?_); refine goesL_ (some 9) rfl rfl Tryz.func155 (by kernel_rfl) rfl #[.int .i64 a1_6, .int .i64 1, .int .i64 a0_1] rfl z13_0_ ?_; (with_reducible refine (impl_in.calls a1_6 1 a0_1 t225 _ A3.out).mono ?_); rintro e w' ⟨rfl, ⟨nd, rfl⟩⟩; refine ⟨_, rfl, ?_⟩))
 go_ret
 exact ⟨z13_1_, (by repeat (first | (with_reducible first | exact HB.out | apply below_alloc | apply pw_below_drewN | apply below_drew1 | refine below_set ?_ GE223.out | refine below_set ?_ GE224.out) | exact HB.out))⟩
end Go.Proofs.YtnlembpmcbnpnaaGreatDoor.X
/- kindOf's kinds: what kindNamed answers, each kind's methods as the interface reaches them; impl.recordOk and impl.PackRecord, in the form in which this seat's printed functions are told. No condition on inputs beyond what the kinds' own contracts ask. -/
namespace Go.Proofs.YtnlembpmcbnpnaaGreatDoor.X
open Go Go.RowKit Go.Proofs.YtnlembpmcbnpnaaGreatDoorW.PrintWords Go.Proofs.YtnlembpmcbnpnaaGreatDoorW.PrintLast Go.Proofs.YtnlembpmcbnpnaaGreatDoorW.PrintMore
set_option linter.unusedVariables false
set_option linter.unusedSimpArgs false
theorem zk13 {w : World} {g : Nat} {t : TypeId} {v0 v1 v2 v3 v4 v5 v6 v7 v8 v9 v10 v11 v12 : Value} (h : w.heap[g]? = some (.cells #[v0, v1, v2, v3, v4, v5, v6, v7, v8, v9, v10, v11, v12] t (0, 0))) : w.cell? ⟨g, 0, none⟩ = some v0 ∧ w.cell? ⟨g, 1, none⟩ = some v1 ∧ w.cell? ⟨g, 2, none⟩ = some v2 ∧ w.cell? ⟨g, 3, none⟩ = some v3 ∧ w.cell? ⟨g, 4, none⟩ = some v4 ∧ w.cell? ⟨g, 5, none⟩ = some v5 ∧ w.cell? ⟨g, 6, none⟩ = some v6 ∧ w.cell? ⟨g, 7, none⟩ = some v7 ∧ w.cell? ⟨g, 8, none⟩ = some v8 ∧ w.cell? ⟨g, 9, none⟩ = some v9 ∧ w.cell? ⟨g, 10, none⟩ = some v10 ∧ w.cell? ⟨g, 11, none⟩ = some v11 ∧ w.cell? ⟨g, 12, none⟩ = some v12 := ⟨(blk_cell h 0).trans rfl, (blk_cell h 1).trans rfl, (blk_cell h 2).trans rfl, (blk_cell h 3).trans rfl, (blk_cell h 4).trans rfl, (blk_cell h 5).trans rfl, (blk_cell h 6).trans rfl, (blk_cell h 7).trans rfl, (blk_cell h 8).trans rfl, (blk_cell h 9).trans rfl, (blk_cell h 10).trans rfl, (blk_cell h 11).trans rfl, (blk_cell h 12).trans rfl⟩
theorem zkf13 {w : World} {g : Nat} {t : TypeId} {cs : Array Value} (h : w.heap[g]? = some (.cells cs t (0, 0))) : w.frozen? ⟨g, 0, none⟩ = false ∧ w.frozen? ⟨g, 1, none⟩ = false ∧ w.frozen? ⟨g, 2, none⟩ = false ∧ w.frozen? ⟨g, 3, none⟩ = false ∧ w.frozen? ⟨g, 4, none⟩ = false ∧ w.frozen? ⟨g, 5, none⟩ = false ∧ w.frozen? ⟨g, 6, none⟩ = false ∧ w.frozen? ⟨g, 7, none⟩ = false ∧ w.frozen? ⟨g, 8, none⟩ = false ∧ w.frozen? ⟨g, 9, none⟩ = false ∧ w.frozen? ⟨g, 10, none⟩ = false ∧ w.frozen? ⟨g, 11, none⟩ = false ∧ w.frozen? ⟨g, 12, none⟩ = false := ⟨blk_frozen h 0, blk_frozen h 1, blk_frozen h 2, blk_frozen h 3, blk_frozen h 4, blk_frozen h 5, blk_frozen h 6, blk_frozen h 7, blk_frozen h 8, blk_frozen h 9, blk_frozen h 10, blk_frozen h 11, blk_frozen h 12⟩
theorem puts13 {w : World} {g : Nat} {t : TypeId} {v0 v1 v2 v3 v4 v5 v6 v7 v8 v9 v10 v11 v12 : Value} (u0 u1 u2 u3 u4 u5 u6 u7 u8 u9 u10 u11 u12 : Value) (h : w.heap[g]? = some (.cells #[v0, v1, v2, v3, v4, v5, v6, v7, v8, v9, v10, v11, v12] t (0, 0))) :
    (((((((((((((w.setCell ⟨g, 0, none⟩ u0).setCell ⟨g, 1, none⟩ u1).setCell ⟨g, 2, none⟩ u2).setCell ⟨g, 3, none⟩ u3).setCell ⟨g, 4, none⟩ u4).setCell ⟨g, 5, none⟩ u5).setCell ⟨g, 6, none⟩ u6).setCell ⟨g, 7, none⟩ u7).setCell ⟨g, 8, none⟩ u8).setCell ⟨g, 9, none⟩ u9).setCell ⟨g, 10, none⟩ u10).setCell ⟨g, 11, none⟩ u11).setCell ⟨g, 12, none⟩ u12).heap[g]? = some (.cells #[u0, u1, u2, u3, u4, u5, u6, u7, u8, u9, u10, u11, u12] t (0, 0)) := (blk_put (cs' := #[u0, u1, u2, u3, u4, u5, u6, u7, u8, u9, u10, u11, u12]) (blk_put (cs' := #[u0, u1, u2, u3, u4, u5, u6, u7, u8, u9, u10, u11, v12]) (blk_put (cs' := #[u0, u1, u2, u3, u4, u5, u6, u7, u8, u9, u10, v11, v12]) (blk_put (cs' := #[u0, u1, u2, u3, u4, u5, u6, u7, u8, u9, v10, v11, v12]) (blk_put (cs' := #[u0, u1, u2, u3, u4, u5, u6, u7, u8, v9, v10, v11, v12]) (blk_put (cs' := #[u0, u1, u2, u3, u4, u5, u6, u7, v8, v9, v10, v11, v12]) (blk_put (cs' := #[u0, u1, u2, u3, u4, u5, u6, v7, v8, v9, v10, v11, v12]) (blk_put (cs' := #[u0, u1, u2, u3, u4, u5, v6, v7, v8, v9, v10, v11, v12]) (blk_put (cs' := #[u0, u1, u2, u3, u4, v5, v6, v7, v8, v9, v10, v11, v12]) (blk_put (cs' := #[u0, u1, u2, u3, v4, v5, v6, v7, v8, v9, v10, v11, v12]) (blk_put (cs' := #[u0, u1, u2, v3, v4, v5, v6, v7, v8, v9, v10, v11, v12]) (blk_put (cs' := #[u0, u1, v2, v3, v4, v5, v6, v7, v8, v9, v10, v11, v12]) (blk_put (cs' := #[u0, v1, v2, v3, v4, v5, v6, v7, v8, v9, v10, v11, v12]) h 0 u0 rfl) 1 u1 rfl) 2 u2 rfl) 3 u3 rfl) 4 u4 rfl) 5 u5 rfl) 6 u6 rfl) 7 u7 rfl) 8 u8 rfl) 9 u9 rfl) 10 u10 rfl) 11 u11 rfl) 12 u12 rfl)
def kv (n : Int) : Value := if n = 1 then .iface 111 (.agg #[]) else if n = 2 then .iface 112 (.agg #[]) else if n = 3 then .iface 113 (.agg #[]) else if n = 4 then .iface 115 (.agg #[.string ⟨#[66]⟩, .int .i64 999999]) else if n = 5 then .iface 115 (.agg #[.string ⟨#[68]⟩, .int .i64 999999]) else if n = 6 then .iface 115 (.agg #[.string ⟨#[78]⟩, .int .i64 1000000]) else .nilIface
set_option maxHeartbeats 4000000 in
set_option maxRecDepth 100000 in
theorem kindNamed_calls (n : Int) (w : World) : Calls Tryz.prog 66 #[.int .i64 n] w fun e w' => e = .returned (kv n) ∧ w' = w := by
  by_cases h1 : n = 1
  · subst h1
    go_enter Tryz.func66, Tryz.ntmps66
    go_wp2
    go_ret
    exact ⟨rfl, rfl⟩
  by_cases h2 : n = 2
  · subst h2
    go_enter Tryz.func66, Tryz.ntmps66
    go_wp2
    go_ret
    exact ⟨rfl, rfl⟩
  by_cases h3 : n = 3
  · subst h3
    go_enter Tryz.func66, Tryz.ntmps66
    go_wp2
    go_ret
    exact ⟨rfl, rfl⟩
  by_cases h4 : n = 4
  · subst h4
    go_enter Tryz.func66, Tryz.ntmps66
    go_wp2
    go_ret
    exact ⟨rfl, rfl⟩
  by_cases h5 : n = 5
  · subst h5
    go_enter Tryz.func66, Tryz.ntmps66
    go_wp2
    go_ret
    exact ⟨rfl, rfl⟩
  by_cases h6 : n = 6
  · subst h6
    go_enter Tryz.func66, Tryz.ntmps66
    go_wp2
    go_ret
    exact ⟨rfl, rfl⟩
  have c1 : (n == 1) = false := beq_eq_false_iff_ne.mpr h1
  have c2 : (n == 2) = false := beq_eq_false_iff_ne.mpr h2
  have c3 : (n == 3) = false := beq_eq_false_iff_ne.mpr h3
  have c4 : (n == 4) = false := beq_eq_false_iff_ne.mpr h4
  have c5 : (n == 5) = false := beq_eq_false_iff_ne.mpr h5
  have c6 : (n == 6) = false := beq_eq_false_iff_ne.mpr h6
  have hk : kv n = .nilIface := by unfold kv; rw [if_neg h1, if_neg h2, if_neg h3, if_neg h4, if_neg h5, if_neg h6]
  rw [hk]
  clear h1 h2 h3 h4 h5 h6 hk
  go_enter Tryz.func66, Tryz.ntmps66
  go_wp2
  go_ret
  exact ⟨rfl, rfl⟩
theorem kindNamed_is (n : Int) (v : Value) (h : kv n = v) (w : World) : Calls Tryz.prog 66 #[.int .i64 n] w fun e w' => e = .returned v ∧ w' = w := h ▸ kindNamed_calls n w
set_option maxHeartbeats 4000000 in
set_option maxRecDepth 100000 in
theorem impl_messageKind_only.calls (a0 : Int) (a1 : Int) (a2 : Int) (a3 : ByteArray) (aA : Option Addr) (ac : Nat) (al : List ByteArray) (a5 : ByteArray) (a6 : Int) (a7 : Int) (a8 : Int) (a9 : Int) (a10 : ByteArray) (a11 : Int) (a12 : Int) (w : World) :
    Calls Tryz.prog 149 #[.agg #[], .agg #[.int .i64 a0, .int .i64 a1, .int .i64 a2, .string a3, .slice aA al.length ac, .string a5, .int .i64 a6, .int .i64 a7, .int .i64 a8, .int .i64 a9, .string a10, .int .i64 a11, .int .i64 a12]] w fun e w' => e = .returned (.agg #[.int .i64 a0, .int .i64 a1, .int .i64 a2, .string a3, .slice aA al.length ac, .string a5, .int .i64 0, .int .i64 0, .int .i64 0, .int .i64 0, .string (⟨#[]⟩ : ByteArray), .int .i64 0, .int .i64 0]) ∧ Below w.heap.size w w' := by
  have hu111 := Tryz.underlying111
  have hu28 := Tryz.underlying28
  go_enter Tryz.func149, Tryz.ntmps149
  go_wp2_with (first | ((with_reducible refine gate_dst (N := 2) rfl ?_); refine box_event ?hg (N := 2) ?hd (cs := #[]) (t := 111) ?hr ?_; (case hd => rfl); (case hg => rfl); (case hr => first | (go_simp; done) | (go_simp; rfl)); intro ga hga wa hba hbwa; have BA := Aside0.mk hba; have BWA := Aside0.mk hbwa; clear hba hbwa) | ((with_reducible refine gate_dst (N := 3) rfl ?_); refine box_event ?hg (N := 3) ?hd (cs := #[.int .i64 a0, .int .i64 a1, .int .i64 a2, .string a3, .slice aA al.length ac, .string a5, .int .i64 a6, .int .i64 a7, .int .i64 a8, .int .i64 a9, .string a10, .int .i64 a11, .int .i64 a12]) (t := 28) ?hr ?_; (case hd => rfl); (case hg => rfl); (case hr => first | (go_simp; done) | (go_simp; rfl)); intro gb hgb wb hbb hbwb; have BB := Aside0.mk hbb; have BWB := Aside0.mk (BWA.out.trans (hbwb.mono BWA.out.size)); clear hbb hbwb) | ((with_reducible refine gate_dst (N := 4) rfl ?_); refine box_event ?hg (N := 4) ?hd (cs := #[.int .i64 0, .int .i64 0, .int .i64 0, .string (⟨#[]⟩ : ByteArray), .slice none 0 0, .string (⟨#[]⟩ : ByteArray), .int .i64 0, .int .i64 0, .int .i64 0, .int .i64 0, .string (⟨#[]⟩ : ByteArray), .int .i64 0, .int .i64 0]) (t := 28) ?hr ?_; (case hd => rfl); (case hg => rfl); (case hr => first | (go_simp; done) | (go_simp; rfl)); intro gc hgc wc hbc hbwc; have BC := Aside0.mk hbc; have GC := Aside0.mk (show w.heap.size ≤ gc by rw [hgc]; exact BWB.out.size); have BB2 := Aside0.mk (blk_below BB.out hbwc); have BWC := Aside0.mk (BWB.out.trans (hbwc.mono BWB.out.size)); have NBC := Aside0.mk (show gb ≠ gc by rw [hgc]; exact Nat.ne_of_lt (blk_lt BB.out)); clear hbc hbwc hga hgb hgc; obtain ⟨cb_0, cb_1, cb_2, cb_3, cb_4, cb_5, cb_6, cb_7, cb_8, cb_9, cb_10, cb_11, cb_12⟩ := zk13 BB2.out; obtain ⟨fb_0, fb_1, fb_2, fb_3, fb_4, fb_5, fb_6, fb_7, fb_8, fb_9, fb_10, fb_11, fb_12⟩ := zkf13 BB2.out; obtain ⟨cc_0, cc_1, cc_2, cc_3, cc_4, cc_5, cc_6, cc_7, cc_8, cc_9, cc_10, cc_11, cc_12⟩ := zk13 BC.out; obtain ⟨fc_0, fc_1, fc_2, fc_3, fc_4, fc_5, fc_6, fc_7, fc_8, fc_9, fc_10, fc_11, fc_12⟩ := zkf13 BC.out; have nbc := NBC.out; have ncb := NBC.out.symm))
  refine bodyPost_ret (results_cell_row rfl _ _ gc 28 #[.int .i64 a0, .int .i64 a1, .int .i64 a2, .string a3, .slice aA al.length ac, .string a5, .int .i64 0, .int .i64 0, .int .i64 0, .int .i64 0, .string (⟨#[]⟩ : ByteArray), .int .i64 0, .int .i64 0] (0, 0) _ rfl (puts13 _ _ _ _ _ _ _ _ _ _ _ _ _ BC.out) Tryz.underlying28 rfl (by kernel_rfl)) rfl ?_
  exact ⟨rfl, (below_set (below_set (below_set (below_set (below_set (below_set (below_set (below_set (below_set (below_set (below_set (below_set (below_set BWC.out GC.out) GC.out) GC.out) GC.out) GC.out) GC.out) GC.out) GC.out) GC.out) GC.out) GC.out) GC.out) GC.out)⟩
set_option maxHeartbeats 4000000 in
set_option maxRecDepth 100000 in
theorem recordOk_no (a0 : Int) (a1 : Int) (a2 : Int) (a3 : ByteArray) (aA : Option Addr) (ac : Nat) (al : List ByteArray) (a5 : ByteArray) (a6 : Int) (a7 : Int) (a8 : Int) (a9 : Int) (a10 : ByteArray) (a11 : Int) (a12 : Int) (w : World) (t : TypeId) (rv : Value) (hk : kv a0 = .iface t rv) (fR : FuncId) (mfR : ∀ w, (method 296 t rv "loop.example/s01729/impl.right").run Tryz.prog w = .ok (fR, rv) w) (efR : ∀ args w, (callFunc fR args).run Tryz.prog w = .ok (.enter fR args) w)
    (hR : ∀ w1, Below w.heap.size w w1 → Calls Tryz.prog fR #[rv, .agg #[.int .i64 a0, .int .i64 a1, .int .i64 a2, .string a3, .slice aA al.length ac, .string a5, .int .i64 a6, .int .i64 a7, .int .i64 a8, .int .i64 a9, .string a10, .int .i64 a11, .int .i64 a12]] w1 fun e w' => e = .returned (.bool false) ∧ Below w1.heap.size w1 w') :
    Calls Tryz.prog 65 #[.agg #[.int .i64 a0, .int .i64 a1, .int .i64 a2, .string a3, .slice aA al.length ac, .string a5, .int .i64 a6, .int .i64 a7, .int .i64 a8, .int .i64 a9, .string a10, .int .i64 a11, .int .i64 a12]] w fun e w' => e = .returned (.bool false) ∧ Below w.heap.size w w' := by
  have hu28 := Tryz.underlying28
  have HK := Aside0.mk hk
  have HR := Aside0.mk hR
  clear hk hR
  go_enter Tryz.func65, Tryz.ntmps65
  go_wp2_with (first | ((with_reducible refine gate_dst (N := 1) rfl ?_); refine box_event ?hg (N := 1) ?hd (cs := #[.int .i64 a0, .int .i64 a1, .int .i64 a2, .string a3, .slice aA al.length ac, .string a5, .int .i64 a6, .int .i64 a7, .int .i64 a8, .int .i64 a9, .string a10, .int .i64 a11, .int .i64 a12]) (t := 28) ?hr ?_; (case hd => rfl); (case hg => rfl); (case hr => first | (go_simp; done) | (go_simp; rfl)); intro gb hgb wb hbb hbwb; have BB := Aside0.mk hbb; have GB := Aside0.mk (show w.heap.size ≤ gb by rw [hgb]; exact Nat.le_refl _); have HB := Aside0.mk hbwb; clear hbb hbwb hgb; obtain ⟨cb_0, cb_1, cb_2, cb_3, cb_4, cb_5, cb_6, cb_7, cb_8, cb_9, cb_10, cb_11, cb_12⟩ := zk13 BB.out; obtain ⟨fb_0, fb_1, fb_2, fb_3, fb_4, fb_5, fb_6, fb_7, fb_8, fb_9, fb_10, fb_11, fb_12⟩ := zkf13 BB.out) | (go_at_call 66; (with_reducible refine (kindNamed_is _ _ HK.out _).mono ?_); rintro e w1 ⟨rfl, rfl⟩) | (go_at_fn fR; (with_reducible refine (HR.out _ HB.out).mono ?_); rintro e w2 ⟨rfl, hb2⟩; have HB2 := Aside0.mk (HB.out.trans (hb2.mono HB.out.size)); clear hb2))
  go_ret
  exact ⟨rfl, HB2.out⟩
set_option maxHeartbeats 4000000 in
set_option maxRecDepth 100000 in
theorem recordOk_nil (a0 : Int) (a1 : Int) (a2 : Int) (a3 : ByteArray) (aA : Option Addr) (ac : Nat) (al : List ByteArray) (a5 : ByteArray) (a6 : Int) (a7 : Int) (a8 : Int) (a9 : Int) (a10 : ByteArray) (a11 : Int) (a12 : Int) (w : World) (hk : kv a0 = .nilIface) :
    Calls Tryz.prog 65 #[.agg #[.int .i64 a0, .int .i64 a1, .int .i64 a2, .string a3, .slice aA al.length ac, .string a5, .int .i64 a6, .int .i64 a7, .int .i64 a8, .int .i64 a9, .string a10, .int .i64 a11, .int .i64 a12]] w fun e w' => e = .returned (.bool false) ∧ Below w.heap.size w w' := by
  have hu28 := Tryz.underlying28
  have HK := Aside0.mk hk
  clear hk
  go_enter Tryz.func65, Tryz.ntmps65
  go_wp2_with (first | ((with_reducible refine gate_dst (N := 1) rfl ?_); refine box_event ?hg (N := 1) ?hd (cs := #[.int .i64 a0, .int .i64 a1, .int .i64 a2, .string a3, .slice aA al.length ac, .string a5, .int .i64 a6, .int .i64 a7, .int .i64 a8, .int .i64 a9, .string a10, .int .i64 a11, .int .i64 a12]) (t := 28) ?hr ?_; (case hd => rfl); (case hg => rfl); (case hr => first | (go_simp; done) | (go_simp; rfl)); intro gb hgb wb hbb hbwb; have BB := Aside0.mk hbb; have GB := Aside0.mk (show w.heap.size ≤ gb by rw [hgb]; exact Nat.le_refl _); have HB := Aside0.mk hbwb; clear hbb hbwb hgb; obtain ⟨cb_0, cb_1, cb_2, cb_3, cb_4, cb_5, cb_6, cb_7, cb_8, cb_9, cb_10, cb_11, cb_12⟩ := zk13 BB.out; obtain ⟨fb_0, fb_1, fb_2, fb_3, fb_4, fb_5, fb_6, fb_7, fb_8, fb_9, fb_10, fb_11, fb_12⟩ := zkf13 BB.out) | (go_at_call 66; (with_reducible refine (kindNamed_is _ _ HK.out _).mono ?_); rintro e w1 ⟨rfl, rfl⟩))
  go_ret
  exact ⟨rfl, HB.out⟩
-- CUT
set_option maxHeartbeats 16000000 in
set_option maxRecDepth 100000 in
theorem recordOk_yes (k : Nat) (a0 : Int) (a1 : Int) (a2 : Int) (a3 : ByteArray) (aA : Option Addr) (ac : Nat) (al : List ByteArray) (a5 : ByteArray) (a6 : Int) (a7 : Int) (a8 : Int) (a9 : Int) (a10 : ByteArray) (a11 : Int) (a12 : Int) (w : World) (t : TypeId) (rv : Value) (hk : kv a0 = .iface t rv) (hr : Kd.C Kd.string w aA al.length al) (hc : al.length ≤ ac) (fR fO : FuncId) (mfR : ∀ w, (method 296 t rv "loop.example/s01729/impl.right").run Tryz.prog w = .ok (fR, rv) w) (efR : ∀ args w, (callFunc fR args).run Tryz.prog w = .ok (.enter fR args) w) (mfO : ∀ w, (method 296 t rv "loop.example/s01729/impl.only").run Tryz.prog w = .ok (fO, rv) w) (efO : ∀ args w, (callFunc fO args).run Tryz.prog w = .ok (.enter fO args) w) (o0 o1 o2 : Int) (o3 : ByteArray) (ol : List ByteArray) (o5 : ByteArray) (o6 o7 o8 o9 : Int) (o10 : ByteArray) (o11 o12 : Int) (s : Bool)
    (hR : ∀ w1, Below w.heap.size w w1 → Calls Tryz.prog fR #[rv, .agg #[.int .i64 a0, .int .i64 a1, .int .i64 a2, .string a3, .slice aA al.length ac, .string a5, .int .i64 a6, .int .i64 a7, .int .i64 a8, .int .i64 a9, .string a10, .int .i64 a11, .int .i64 a12]] w1 fun e w' => e = .returned (.bool true) ∧ Below w1.heap.size w1 w')
    (hO : ∀ w1, Below w.heap.size w w1 → Calls Tryz.prog fO #[rv, .agg #[.int .i64 a0, .int .i64 a1, .int .i64 a2, .string a3, .slice aA al.length ac, .string a5, .int .i64 a6, .int .i64 a7, .int .i64 a8, .int .i64 a9, .string a10, .int .i64 a11, .int .i64 a12]] w1 fun e w' => ∃ oA oc, e = .returned (.agg #[.int .i64 o0, .int .i64 o1, .int .i64 o2, .string o3, .slice oA ol.length oc, .string o5, .int .i64 o6, .int .i64 o7, .int .i64 o8, .int .i64 o9, .string o10, .int .i64 o11, .int .i64 o12]) ∧ ol.length ≤ oc ∧ Kd.C Kd.string w' oA ol.length ol ∧ Below w1.heap.size w1 w')
    (hS : impl_sameMessage.f k o1 o2 o3 ol o5 a1 a2 a3 al a5 = some s) :
    Calls Tryz.prog 65 #[.agg #[.int .i64 a0, .int .i64 a1, .int .i64 a2, .string a3, .slice aA al.length ac, .string a5, .int .i64 a6, .int .i64 a7, .int .i64 a8, .int .i64 a9, .string a10, .int .i64 a11, .int .i64 a12]] w fun e w' => e = .returned (.bool (s && ((o6 == a6) && ((o7 == a7) && (((o8 == a8) && ((o9 == a9) && (o10.toList == a10.toList))) && ((o11 == a11) && (o12 == a12))))))) ∧ Below w.heap.size w w' := by
  have hu28 := Tryz.underlying28
  have hu24 := Tryz.underlying24
  have HK := Aside0.mk hk
  have HR := Aside0.mk hR
  have HO := Aside0.mk hO
  have HS := Aside0.mk hS
  have HAR := Aside0.mk hr
  have HAC := Aside0.mk hc
  clear hk hR hO hS hr hc
  go_enter Tryz.func65, Tryz.ntmps65
  go_upto_region 5 with (first | ((with_reducible refine gate_dst (N := 1) rfl ?_); refine box_event ?hg (N := 1) ?hd (cs := #[.int .i64 a0, .int .i64 a1, .int .i64 a2, .string a3, .slice aA al.length ac, .string a5, .int .i64 a6, .int .i64 a7, .int .i64 a8, .int .i64 a9, .string a10, .int .i64 a11, .int .i64 a12]) (t := 28) ?hr ?_; (case hd => rfl); (case hg => rfl); (case hr => first | (go_simp; done) | (go_simp; rfl)); intro gb hgb wb hbb hbwb; have BB := Aside0.mk hbb; have GB := Aside0.mk (show w.heap.size ≤ gb by rw [hgb]; exact Nat.le_refl _); have HB := Aside0.mk hbwb; clear hbb hbwb hgb; obtain ⟨cb_0, cb_1, cb_2, cb_3, cb_4, cb_5, cb_6, cb_7, cb_8, cb_9, cb_10, cb_11, cb_12⟩ := zk13 BB.out; obtain ⟨fb_0, fb_1, fb_2, fb_3, fb_4, fb_5, fb_6, fb_7, fb_8, fb_9, fb_10, fb_11, fb_12⟩ := zkf13 BB.out) | (go_at_call 66; (with_reducible refine (kindNamed_is _ _ HK.out _).mono ?_); rintro e w1 ⟨rfl, rfl⟩) | (go_at_fn fR; (with_reducible refine (HR.out _ HB.out).mono ?_); rintro e w2 ⟨rfl, hb2⟩; have BB2 := Aside0.mk (blk_below BB.out hb2); have HB2 := Aside0.mk (HB.out.trans (hb2.mono HB.out.size)); clear hb2; obtain ⟨cd_0, cd_1, cd_2, cd_3, cd_4, cd_5, cd_6, cd_7, cd_8, cd_9, cd_10, cd_11, cd_12⟩ := zk13 BB2.out; obtain ⟨fd_0, fd_1, fd_2, fd_3, fd_4, fd_5, fd_6, fd_7, fd_8, fd_9, fd_10, fd_11, fd_12⟩ := zkf13 BB2.out) | (go_at_fn fO; (with_reducible refine (HO.out _ HB2.out).mono ?_); rintro e w3 ⟨oA, oc, rfl, hoc, hoC, hb3⟩; have HOC := Aside0.mk hoc; have HOR := Aside0.mk hoC; have BB3 := Aside0.mk (blk_below BB2.out hb3); have HB3 := Aside0.mk (HB2.out.trans (hb3.mono HB2.out.size)); clear hb3 hoc hoC; obtain ⟨ce_0, ce_1, ce_2, ce_3, ce_4, ce_5, ce_6, ce_7, ce_8, ce_9, ce_10, ce_11, ce_12⟩ := zk13 BB3.out; obtain ⟨fe_0, fe_1, fe_2, fe_3, fe_4, fe_5, fe_6, fe_7, fe_8, fe_9, fe_10, fe_11, fe_12⟩ := zkf13 BB3.out) | ((with_reducible refine gate_dst (N := 4) rfl ?_); refine box_event ?hg (N := 4) ?hd (cs := #[.int .i64 0, .int .i64 0, .int .i64 0, .string (⟨#[]⟩ : ByteArray), .slice none 0 0, .string (⟨#[]⟩ : ByteArray), .int .i64 0, .int .i64 0, .int .i64 0, .int .i64 0, .string (⟨#[]⟩ : ByteArray), .int .i64 0, .int .i64 0]) (t := 28) ?hr ?_; (case hd => rfl); (case hg => rfl); (case hr => first | (go_simp; done) | (go_simp; rfl)); intro gc hgc w4 hbc hb4; have BC := Aside0.mk hbc; have BB4 := Aside0.mk (blk_below BB3.out hb4); have GC := Aside0.mk (show w.heap.size ≤ gc by rw [hgc]; exact HB3.out.size); have HB4 := Aside0.mk (HB3.out.trans (hb4.mono HB3.out.size)); have NBC := Aside0.mk (show gb ≠ gc by rw [hgc]; exact Nat.ne_of_lt (blk_lt BB3.out)); have GH := Aside0.mk (show w3.heap.size ≤ gc by rw [hgc]; exact Nat.le_refl _); have HW4 := Aside0.mk hb4; clear hbc hb4 hgc; obtain ⟨cc_0, cc_1, cc_2, cc_3, cc_4, cc_5, cc_6, cc_7, cc_8, cc_9, cc_10, cc_11, cc_12⟩ := zk13 BC.out; obtain ⟨fc_0, fc_1, fc_2, fc_3, fc_4, fc_5, fc_6, fc_7, fc_8, fc_9, fc_10, fc_11, fc_12⟩ := zkf13 BC.out))
  have BC5_ := Aside0.mk (puts13 ((.int .i64 o0)) ((.int .i64 o1)) ((.int .i64 o2)) ((.string o3)) ((.slice oA ol.length oc)) ((.string o5)) ((.int .i64 o6)) ((.int .i64 o7)) ((.int .i64 o8)) ((.int .i64 o9)) ((.string o10)) ((.int .i64 o11)) ((.int .i64 o12)) BC.out)
  have BB5_ := Aside0.mk (blk_far (p := ⟨gc, 12, none⟩) (blk_far (p := ⟨gc, 11, none⟩) (blk_far (p := ⟨gc, 10, none⟩) (blk_far (p := ⟨gc, 9, none⟩) (blk_far (p := ⟨gc, 8, none⟩) (blk_far (p := ⟨gc, 7, none⟩) (blk_far (p := ⟨gc, 6, none⟩) (blk_far (p := ⟨gc, 5, none⟩) (blk_far (p := ⟨gc, 4, none⟩) (blk_far (p := ⟨gc, 3, none⟩) (blk_far (p := ⟨gc, 2, none⟩) (blk_far (p := ⟨gc, 1, none⟩) (blk_far (p := ⟨gc, 0, none⟩) BB4.out NBC.out ((.int .i64 o0))) NBC.out ((.int .i64 o1))) NBC.out ((.int .i64 o2))) NBC.out ((.string o3))) NBC.out ((.slice oA ol.length oc))) NBC.out ((.string o5))) NBC.out ((.int .i64 o6))) NBC.out ((.int .i64 o7))) NBC.out ((.int .i64 o8))) NBC.out ((.int .i64 o9))) NBC.out ((.string o10))) NBC.out ((.int .i64 o11))) NBC.out ((.int .i64 o12)))
  have HB5_ : Aside0 (Below w.heap.size w (((((((((((((w4.setCell ⟨gc, 0, none⟩ ((.int .i64 o0))).setCell ⟨gc, 1, none⟩ ((.int .i64 o1))).setCell ⟨gc, 2, none⟩ ((.int .i64 o2))).setCell ⟨gc, 3, none⟩ ((.string o3))).setCell ⟨gc, 4, none⟩ ((.slice oA ol.length oc))).setCell ⟨gc, 5, none⟩ ((.string o5))).setCell ⟨gc, 6, none⟩ ((.int .i64 o6))).setCell ⟨gc, 7, none⟩ ((.int .i64 o7))).setCell ⟨gc, 8, none⟩ ((.int .i64 o8))).setCell ⟨gc, 9, none⟩ ((.int .i64 o9))).setCell ⟨gc, 10, none⟩ ((.string o10))).setCell ⟨gc, 11, none⟩ ((.int .i64 o11))).setCell ⟨gc, 12, none⟩ ((.int .i64 o12)))) := ⟨(below_set (below_set (below_set (below_set (below_set (below_set (below_set (below_set (below_set (below_set (below_set (below_set (below_set HB4.out GC.out) GC.out) GC.out) GC.out) GC.out) GC.out) GC.out) GC.out) GC.out) GC.out) GC.out) GC.out) GC.out)⟩
  have HOR5_ : Aside0 (Kd.C Kd.string (((((((((((((w4.setCell ⟨gc, 0, none⟩ ((.int .i64 o0))).setCell ⟨gc, 1, none⟩ ((.int .i64 o1))).setCell ⟨gc, 2, none⟩ ((.int .i64 o2))).setCell ⟨gc, 3, none⟩ ((.string o3))).setCell ⟨gc, 4, none⟩ ((.slice oA ol.length oc))).setCell ⟨gc, 5, none⟩ ((.string o5))).setCell ⟨gc, 6, none⟩ ((.int .i64 o6))).setCell ⟨gc, 7, none⟩ ((.int .i64 o7))).setCell ⟨gc, 8, none⟩ ((.int .i64 o8))).setCell ⟨gc, 9, none⟩ ((.int .i64 o9))).setCell ⟨gc, 10, none⟩ ((.string o10))).setCell ⟨gc, 11, none⟩ ((.int .i64 o11))).setCell ⟨gc, 12, none⟩ ((.int .i64 o12))) oA ol.length ol) := ⟨Kd.C_below HOR.out (below_set (below_set (below_set (below_set (below_set (below_set (below_set (below_set (below_set (below_set (below_set (below_set (below_set HW4.out GH.out) GH.out) GH.out) GH.out) GH.out) GH.out) GH.out) GH.out) GH.out) GH.out) GH.out) GH.out) GH.out)⟩
  have HAR5_ : Aside0 (Kd.C Kd.string (((((((((((((w4.setCell ⟨gc, 0, none⟩ ((.int .i64 o0))).setCell ⟨gc, 1, none⟩ ((.int .i64 o1))).setCell ⟨gc, 2, none⟩ ((.int .i64 o2))).setCell ⟨gc, 3, none⟩ ((.string o3))).setCell ⟨gc, 4, none⟩ ((.slice oA ol.length oc))).setCell ⟨gc, 5, none⟩ ((.string o5))).setCell ⟨gc, 6, none⟩ ((.int .i64 o6))).setCell ⟨gc, 7, none⟩ ((.int .i64 o7))).setCell ⟨gc, 8, none⟩ ((.int .i64 o8))).setCell ⟨gc, 9, none⟩ ((.int .i64 o9))).setCell ⟨gc, 10, none⟩ ((.string o10))).setCell ⟨gc, 11, none⟩ ((.int .i64 o11))).setCell ⟨gc, 12, none⟩ ((.int .i64 o12))) aA al.length al) := ⟨Kd.C_below HAR.out HB5_.out⟩
  generalize (((((((((((((w4.setCell ⟨gc, 0, none⟩ ((.int .i64 o0))).setCell ⟨gc, 1, none⟩ ((.int .i64 o1))).setCell ⟨gc, 2, none⟩ ((.int .i64 o2))).setCell ⟨gc, 3, none⟩ ((.string o3))).setCell ⟨gc, 4, none⟩ ((.slice oA ol.length oc))).setCell ⟨gc, 5, none⟩ ((.string o5))).setCell ⟨gc, 6, none⟩ ((.int .i64 o6))).setCell ⟨gc, 7, none⟩ ((.int .i64 o7))).setCell ⟨gc, 8, none⟩ ((.int .i64 o8))).setCell ⟨gc, 9, none⟩ ((.int .i64 o9))).setCell ⟨gc, 10, none⟩ ((.string o10))).setCell ⟨gc, 11, none⟩ ((.int .i64 o11))).setCell ⟨gc, 12, none⟩ ((.int .i64 o12))) = w5 at BC5_ BB5_ HB5_ HOR5_ HAR5_ ⊢
  have BC5 := BC5_
  have BB5 := BB5_
  have HB5 := HB5_
  have HOR5 := HOR5_
  have HAR5 := HAR5_
  clear BC5_ BB5_ HB5_ HOR5_ HAR5_
  obtain ⟨ci_0, ci_1, ci_2, ci_3, ci_4, ci_5, ci_6, ci_7, ci_8, ci_9, ci_10, ci_11, ci_12⟩ := zk13 BC5.out
  obtain ⟨cj_0, cj_1, cj_2, cj_3, cj_4, cj_5, cj_6, cj_7, cj_8, cj_9, cj_10, cj_11, cj_12⟩ := zk13 BB5.out
  rcases Bool.eq_false_or_eq_true s with e0 | e0
  · rcases Bool.eq_false_or_eq_true (o6 == a6) with e1 | e1
    · rcases Bool.eq_false_or_eq_true (o7 == a7) with e2 | e2
      · rcases Bool.eq_false_or_eq_true (o8 == a8) with e3 | e3
        · rcases Bool.eq_false_or_eq_true (o9 == a9) with e4 | e4
          · rcases Bool.eq_false_or_eq_true (o10.toList == a10.toList) with e5 | e5
            · rcases Bool.eq_false_or_eq_true (o11 == a11) with e6 | e6
              · rcases Bool.eq_false_or_eq_true (o12 == a12) with e7 | e7
                · go_wp2_with (first | (go_at_call 87; (with_reducible refine (impl_sameMessage.calls k o1 o2 o3 oA oc ol o5 a1 a2 a3 aA ac al a5 s _ HOR5.out HOC.out HAR5.out HAC.out HS.out).mono ?_); rintro e w6 ⟨rfl, hb6⟩; have BC6 := blk_below BC5.out hb6; have BB6 := blk_below BB5.out hb6; have HB6 := Aside0.mk (HB5.out.trans (hb6.mono HB5.out.size)); clear hb6; obtain ⟨cg_0, cg_1, cg_2, cg_3, cg_4, cg_5, cg_6, cg_7, cg_8, cg_9, cg_10, cg_11, cg_12⟩ := zk13 BC6; obtain ⟨ch_0, ch_1, ch_2, ch_3, ch_4, ch_5, ch_6, ch_7, ch_8, ch_9, ch_10, ch_11, ch_12⟩ := zk13 BB6))
                  go_ret
                  exact ⟨by simp [*], HB6.out⟩
                · go_wp2_with (first | (go_at_call 87; (with_reducible refine (impl_sameMessage.calls k o1 o2 o3 oA oc ol o5 a1 a2 a3 aA ac al a5 s _ HOR5.out HOC.out HAR5.out HAC.out HS.out).mono ?_); rintro e w6 ⟨rfl, hb6⟩; have BC6 := blk_below BC5.out hb6; have BB6 := blk_below BB5.out hb6; have HB6 := Aside0.mk (HB5.out.trans (hb6.mono HB5.out.size)); clear hb6; obtain ⟨cg_0, cg_1, cg_2, cg_3, cg_4, cg_5, cg_6, cg_7, cg_8, cg_9, cg_10, cg_11, cg_12⟩ := zk13 BC6; obtain ⟨ch_0, ch_1, ch_2, ch_3, ch_4, ch_5, ch_6, ch_7, ch_8, ch_9, ch_10, ch_11, ch_12⟩ := zk13 BB6))
                  go_ret
                  exact ⟨by simp [*], HB6.out⟩
              · go_wp2_with (first | (go_at_call 87; (with_reducible refine (impl_sameMessage.calls k o1 o2 o3 oA oc ol o5 a1 a2 a3 aA ac al a5 s _ HOR5.out HOC.out HAR5.out HAC.out HS.out).mono ?_); rintro e w6 ⟨rfl, hb6⟩; have BC6 := blk_below BC5.out hb6; have BB6 := blk_below BB5.out hb6; have HB6 := Aside0.mk (HB5.out.trans (hb6.mono HB5.out.size)); clear hb6; obtain ⟨cg_0, cg_1, cg_2, cg_3, cg_4, cg_5, cg_6, cg_7, cg_8, cg_9, cg_10, cg_11, cg_12⟩ := zk13 BC6; obtain ⟨ch_0, ch_1, ch_2, ch_3, ch_4, ch_5, ch_6, ch_7, ch_8, ch_9, ch_10, ch_11, ch_12⟩ := zk13 BB6))
                go_ret
                exact ⟨by simp [*], HB6.out⟩
            · go_wp2_with (first | (go_at_call 87; (with_reducible refine (impl_sameMessage.calls k o1 o2 o3 oA oc ol o5 a1 a2 a3 aA ac al a5 s _ HOR5.out HOC.out HAR5.out HAC.out HS.out).mono ?_); rintro e w6 ⟨rfl, hb6⟩; have BC6 := blk_below BC5.out hb6; have BB6 := blk_below BB5.out hb6; have HB6 := Aside0.mk (HB5.out.trans (hb6.mono HB5.out.size)); clear hb6; obtain ⟨cg_0, cg_1, cg_2, cg_3, cg_4, cg_5, cg_6, cg_7, cg_8, cg_9, cg_10, cg_11, cg_12⟩ := zk13 BC6; obtain ⟨ch_0, ch_1, ch_2, ch_3, ch_4, ch_5, ch_6, ch_7, ch_8, ch_9, ch_10, ch_11, ch_12⟩ := zk13 BB6))
              go_ret
              exact ⟨by simp [*], HB6.out⟩
          · go_wp2_with (first | (go_at_call 87; (with_reducible refine (impl_sameMessage.calls k o1 o2 o3 oA oc ol o5 a1 a2 a3 aA ac al a5 s _ HOR5.out HOC.out HAR5.out HAC.out HS.out).mono ?_); rintro e w6 ⟨rfl, hb6⟩; have BC6 := blk_below BC5.out hb6; have BB6 := blk_below BB5.out hb6; have HB6 := Aside0.mk (HB5.out.trans (hb6.mono HB5.out.size)); clear hb6; obtain ⟨cg_0, cg_1, cg_2, cg_3, cg_4, cg_5, cg_6, cg_7, cg_8, cg_9, cg_10, cg_11, cg_12⟩ := zk13 BC6; obtain ⟨ch_0, ch_1, ch_2, ch_3, ch_4, ch_5, ch_6, ch_7, ch_8, ch_9, ch_10, ch_11, ch_12⟩ := zk13 BB6))
            go_ret
            exact ⟨by simp [*], HB6.out⟩
        · go_wp2_with (first | (go_at_call 87; (with_reducible refine (impl_sameMessage.calls k o1 o2 o3 oA oc ol o5 a1 a2 a3 aA ac al a5 s _ HOR5.out HOC.out HAR5.out HAC.out HS.out).mono ?_); rintro e w6 ⟨rfl, hb6⟩; have BC6 := blk_below BC5.out hb6; have BB6 := blk_below BB5.out hb6; have HB6 := Aside0.mk (HB5.out.trans (hb6.mono HB5.out.size)); clear hb6; obtain ⟨cg_0, cg_1, cg_2, cg_3, cg_4, cg_5, cg_6, cg_7, cg_8, cg_9, cg_10, cg_11, cg_12⟩ := zk13 BC6; obtain ⟨ch_0, ch_1, ch_2, ch_3, ch_4, ch_5, ch_6, ch_7, ch_8, ch_9, ch_10, ch_11, ch_12⟩ := zk13 BB6))
          go_ret
          exact ⟨by simp [*], HB6.out⟩
      · go_wp2_with (first | (go_at_call 87; (with_reducible refine (impl_sameMessage.calls k o1 o2 o3 oA oc ol o5 a1 a2 a3 aA ac al a5 s _ HOR5.out HOC.out HAR5.out HAC.out HS.out).mono ?_); rintro e w6 ⟨rfl, hb6⟩; have BC6 := blk_below BC5.out hb6; have BB6 := blk_below BB5.out hb6; have HB6 := Aside0.mk (HB5.out.trans (hb6.mono HB5.out.size)); clear hb6; obtain ⟨cg_0, cg_1, cg_2, cg_3, cg_4, cg_5, cg_6, cg_7, cg_8, cg_9, cg_10, cg_11, cg_12⟩ := zk13 BC6; obtain ⟨ch_0, ch_1, ch_2, ch_3, ch_4, ch_5, ch_6, ch_7, ch_8, ch_9, ch_10, ch_11, ch_12⟩ := zk13 BB6))
        go_ret
        exact ⟨by simp [*], HB6.out⟩
    · go_wp2_with (first | (go_at_call 87; (with_reducible refine (impl_sameMessage.calls k o1 o2 o3 oA oc ol o5 a1 a2 a3 aA ac al a5 s _ HOR5.out HOC.out HAR5.out HAC.out HS.out).mono ?_); rintro e w6 ⟨rfl, hb6⟩; have BC6 := blk_below BC5.out hb6; have BB6 := blk_below BB5.out hb6; have HB6 := Aside0.mk (HB5.out.trans (hb6.mono HB5.out.size)); clear hb6; obtain ⟨cg_0, cg_1, cg_2, cg_3, cg_4, cg_5, cg_6, cg_7, cg_8, cg_9, cg_10, cg_11, cg_12⟩ := zk13 BC6; obtain ⟨ch_0, ch_1, ch_2, ch_3, ch_4, ch_5, ch_6, ch_7, ch_8, ch_9, ch_10, ch_11, ch_12⟩ := zk13 BB6))
      go_ret
      exact ⟨by simp [*], HB6.out⟩
  · go_wp2_with (first | (go_at_call 87; (with_reducible refine (impl_sameMessage.calls k o1 o2 o3 oA oc ol o5 a1 a2 a3 aA ac al a5 s _ HOR5.out HOC.out HAR5.out HAC.out HS.out).mono ?_); rintro e w6 ⟨rfl, hb6⟩; have BC6 := blk_below BC5.out hb6; have BB6 := blk_below BB5.out hb6; have HB6 := Aside0.mk (HB5.out.trans (hb6.mono HB5.out.size)); clear hb6; obtain ⟨cg_0, cg_1, cg_2, cg_3, cg_4, cg_5, cg_6, cg_7, cg_8, cg_9, cg_10, cg_11, cg_12⟩ := zk13 BC6; obtain ⟨ch_0, ch_1, ch_2, ch_3, ch_4, ch_5, ch_6, ch_7, ch_8, ch_9, ch_10, ch_11, ch_12⟩ := zk13 BB6))
    go_ret
    exact ⟨by simp [*], HB6.out⟩
theorem PackRecord_no (a0 : Int) (a1 : Int) (a2 : Int) (a3 : ByteArray) (aA : Option Addr) (ac : Nat) (al : List ByteArray) (a5 : ByteArray) (a6 : Int) (a7 : Int) (a8 : Int) (a9 : Int) (a10 : ByteArray) (a11 : Int) (a12 : Int) (w : World) (h : ∀ w1, Below w.heap.size w w1 → Calls Tryz.prog 65 #[.agg #[.int .i64 a0, .int .i64 a1, .int .i64 a2, .string a3, .slice aA al.length ac, .string a5, .int .i64 a6, .int .i64 a7, .int .i64 a8, .int .i64 a9, .string a10, .int .i64 a11, .int .i64 a12]] w1 fun e w' => e = .returned (.bool false) ∧ Below w1.heap.size w1 w') :
    Calls Tryz.prog 31 #[.agg #[.int .i64 a0, .int .i64 a1, .int .i64 a2, .string a3, .slice aA al.length ac, .string a5, .int .i64 a6, .int .i64 a7, .int .i64 a8, .int .i64 a9, .string a10, .int .i64 a11, .int .i64 a12]] w fun e w' => e = .returned (.string ⟨#[]⟩) ∧ Below w.heap.size w w' := by
  have hu28 := Tryz.underlying28
  have HR := Aside0.mk h
  clear h
  go_enter Tryz.func31, Tryz.ntmps31
  go_wp2_with (first | ((with_reducible refine gate_dst (N := 1) rfl ?_); refine box_event ?hg (N := 1) ?hd (cs := #[.int .i64 a0, .int .i64 a1, .int .i64 a2, .string a3, .slice aA al.length ac, .string a5, .int .i64 a6, .int .i64 a7, .int .i64 a8, .int .i64 a9, .string a10, .int .i64 a11, .int .i64 a12]) (t := 28) ?hr ?_; (case hd => rfl); (case hg => rfl); (case hr => first | (go_simp; done) | (go_simp; rfl)); intro gb hgb wb hbb hbwb; have BB := Aside0.mk hbb; have GB := Aside0.mk (show w.heap.size ≤ gb by rw [hgb]; exact Nat.le_refl _); have HB := Aside0.mk hbwb; clear hbb hbwb hgb; obtain ⟨cb_0, cb_1, cb_2, cb_3, cb_4, cb_5, cb_6, cb_7, cb_8, cb_9, cb_10, cb_11, cb_12⟩ := zk13 BB.out; obtain ⟨fb_0, fb_1, fb_2, fb_3, fb_4, fb_5, fb_6, fb_7, fb_8, fb_9, fb_10, fb_11, fb_12⟩ := zkf13 BB.out) | (go_at_call 65; (with_reducible refine (HR.out _ HB.out).mono ?_); rintro e w2 ⟨rfl, hb2⟩; have HB2 := Aside0.mk (HB.out.trans (hb2.mono HB.out.size)); clear hb2))
  go_ret
  exact ⟨rfl, HB2.out⟩
set_option maxHeartbeats 4000000 in
set_option maxRecDepth 100000 in
theorem PackRecord_yes (a0 : Int) (a1 : Int) (a2 : Int) (a3 : ByteArray) (aA : Option Addr) (ac : Nat) (al : List ByteArray) (a5 : ByteArray) (a6 : Int) (a7 : Int) (a8 : Int) (a9 : Int) (a10 : ByteArray) (a11 : Int) (a12 : Int) (w : World) (t : TypeId) (rv : Value) (hk : kv a0 = .iface t rv) (fP : FuncId) (mfP : ∀ w, (method 296 t rv "loop.example/s01729/impl.pack").run Tryz.prog w = .ok (fP, rv) w) (efP : ∀ args w, (callFunc fP args).run Tryz.prog w = .ok (.enter fP args) w) (r : ByteArray)
    (h : ∀ w1, Below w.heap.size w w1 → Calls Tryz.prog 65 #[.agg #[.int .i64 a0, .int .i64 a1, .int .i64 a2, .string a3, .slice aA al.length ac, .string a5, .int .i64 a6, .int .i64 a7, .int .i64 a8, .int .i64 a9, .string a10, .int .i64 a11, .int .i64 a12]] w1 fun e w' => e = .returned (.bool true) ∧ Below w1.heap.size w1 w')
    (hP : ∀ w1, Below w.heap.size w w1 → Calls Tryz.prog fP #[rv, .agg #[.int .i64 a0, .int .i64 a1, .int .i64 a2, .string a3, .slice aA al.length ac, .string a5, .int .i64 a6, .int .i64 a7, .int .i64 a8, .int .i64 a9, .string a10, .int .i64 a11, .int .i64 a12]] w1 fun e w' => e = .returned (.string r) ∧ Below w1.heap.size w1 w') :
    Calls Tryz.prog 31 #[.agg #[.int .i64 a0, .int .i64 a1, .int .i64 a2, .string a3, .slice aA al.length ac, .string a5, .int .i64 a6, .int .i64 a7, .int .i64 a8, .int .i64 a9, .string a10, .int .i64 a11, .int .i64 a12]] w fun e w' => e = .returned (.string r) ∧ Below w.heap.size w w' := by
  have hu28 := Tryz.underlying28
  have HK := Aside0.mk hk
  have HR := Aside0.mk h
  have HP := Aside0.mk hP
  clear hk h hP
  go_enter Tryz.func31, Tryz.ntmps31
  go_upto_region 3 with (first | ((with_reducible refine gate_dst (N := 1) rfl ?_); refine box_event ?hg (N := 1) ?hd (cs := #[.int .i64 a0, .int .i64 a1, .int .i64 a2, .string a3, .slice aA al.length ac, .string a5, .int .i64 a6, .int .i64 a7, .int .i64 a8, .int .i64 a9, .string a10, .int .i64 a11, .int .i64 a12]) (t := 28) ?hr ?_; (case hd => rfl); (case hg => rfl); (case hr => first | (go_simp; done) | (go_simp; rfl)); intro gb hgb wb hbb hbwb; have BB := Aside0.mk hbb; have GB := Aside0.mk (show w.heap.size ≤ gb by rw [hgb]; exact Nat.le_refl _); have HB := Aside0.mk hbwb; clear hbb hbwb hgb; obtain ⟨cb_0, cb_1, cb_2, cb_3, cb_4, cb_5, cb_6, cb_7, cb_8, cb_9, cb_10, cb_11, cb_12⟩ := zk13 BB.out; obtain ⟨fb_0, fb_1, fb_2, fb_3, fb_4, fb_5, fb_6, fb_7, fb_8, fb_9, fb_10, fb_11, fb_12⟩ := zkf13 BB.out) | (go_at_call 65; (with_reducible refine (HR.out _ HB.out).mono ?_); rintro e w2 ⟨rfl, hb2⟩; have BB2 := Aside0.mk (blk_below BB.out hb2); have HB2 := Aside0.mk (HB.out.trans (hb2.mono HB.out.size)); clear hb2))
  have BB3 := Aside0.mk (blk_drew BB2.out)
  have HB3 := Aside0.mk (below_drew1 HB2.out)
  refine start_ (n := 6) (S := fun w' => w'.cell? ⟨gb, 0, none⟩ = some (.int .i64 a0) ∧ w'.cell? ⟨gb, 1, none⟩ = some (.int .i64 a1) ∧ w'.cell? ⟨gb, 2, none⟩ = some (.int .i64 a2) ∧ w'.cell? ⟨gb, 3, none⟩ = some (.string a3) ∧ w'.cell? ⟨gb, 4, none⟩ = some (.slice aA al.length ac) ∧ w'.cell? ⟨gb, 5, none⟩ = some (.string a5) ∧ w'.cell? ⟨gb, 6, none⟩ = some (.int .i64 a6) ∧ w'.cell? ⟨gb, 7, none⟩ = some (.int .i64 a7) ∧ w'.cell? ⟨gb, 8, none⟩ = some (.int .i64 a8) ∧ w'.cell? ⟨gb, 9, none⟩ = some (.int .i64 a9) ∧ w'.cell? ⟨gb, 10, none⟩ = some (.string a10) ∧ w'.cell? ⟨gb, 11, none⟩ = some (.int .i64 a11) ∧ w'.cell? ⟨gb, 12, none⟩ = some (.int .i64 a12)) (ds := []) #[false, false, false, false, false, false] (by kernel_rfl) rfl rfl (zk13 BB3.out) (fun hHeld => ?_)
  generalize w2.drew = w3 at BB3 HB3 hHeld ⊢
  refine pure_ (i := 0) (N := some 6) (v := ?_) (a' := ?_) #[true, false, false, false, false, false] rfl rfl (by kernel_rfl) (fun _ _ _ h => h) (Or.inl ⟨by rfl, ?_⟩) ?_ ?_
  rotate_left
  · intro w'
    go_simp
    with_reducible rfl
  rotate_left
  · simp only [Act.put, List.setIfInBounds_toArray, List.set_cons_zero, List.set_cons_succ, i64_w, i32_w]
    rfl
  refine take_ (i := 1) (N := some 7) (v := ?_) (a' := ?_) #[true, true, false, false, false, false] rfl rfl (by kernel_rfl) (fun _ _ _ h => h) (Or.inl ⟨by rfl, ?_⟩) hHeld ?_ ?_
  rotate_left
  · rintro w' ⟨s0, s1, s2, s3, s4, s5, s6, s7, s8, s9, s10, s11, s12⟩
    go_simp
    with_reducible rfl
  rotate_left
  · simp only [Act.put, List.setIfInBounds_toArray, List.set_cons_zero, List.set_cons_succ, i64_w, i32_w]
    rfl
  refine take_ (i := 3) (N := some 9) (v := ?_) (a' := ?_) #[true, true, false, true, false, false] rfl rfl (by kernel_rfl) (fun _ _ _ h => h) (Or.inl ⟨by rfl, ?_⟩) hHeld ?_ ?_
  rotate_left
  · rintro w' ⟨s0, s1, s2, s3, s4, s5, s6, s7, s8, s9, s10, s11, s12⟩
    go_simp
    with_reducible rfl
  rotate_left
  · simp only [Act.put, List.setIfInBounds_toArray, List.set_cons_zero, List.set_cons_succ, i64_w, i32_w]
    rfl
  refine one_ (i := 2) (N := some 8) #[true, true, true, true, false, false] rfl rfl (by kernel_rfl) (by decide) (fun K hK => ?_)
  refine goes_ Tryz.func66 (by kernel_rfl) rfl #[.int .i64 a0] (by rfl) rfl rfl (by (try simp only [List.map_toArray, List.map_cons, List.map_nil]); first | done | rfl) ?_
  with_reducible refine (kindNamed_is _ _ HK.out _).mono ?_
  rintro e w4 ⟨rfl, rfl⟩
  refine ⟨_, rfl, ?_⟩
  refine hK.out _ _ hHeld (fun hHeld => ?_)
  clear hK K
  refine norm_ (a' := ?_) ?_ ?_
  rotate_left
  · show Act.put _ (some 8) _ = _
    simp only [Act.put, List.setIfInBounds_toArray, List.set_cons_zero, List.set_cons_succ, i64_w, i32_w]
    rfl
  refine one_ (i := 4) (N := some 10) #[true, true, true, true, true, false] rfl rfl (by kernel_rfl) (by decide) (fun K hK => ?_)
  refine call_ fP #[rv, .agg #[.int .i64 a0, .int .i64 a1, .int .i64 a2, .string a3, .slice aA al.length ac, .string a5, .int .i64 a6, .int .i64 a7, .int .i64 a8, .int .i64 a9, .string a10, .int .i64 a11, .int .i64 a12]] (by rfl) rfl (by first | (go_simp; done) | (go_simp; rfl)) ?_
  refine (HP.out _ HB3.out).mono ?_
  rintro e w5 ⟨rfl, hb5⟩
  refine ⟨_, rfl, ?_⟩
  have HB5 := Aside0.mk (HB3.out.trans (hb5.mono HB3.out.size))
  refine hK.out _ _ (zk13 (blk_below BB3.out hb5)) (fun hHeld => ?_)
  clear hK K hb5
  refine norm_ (a' := ?_) ?_ ?_
  rotate_left
  · show Act.put _ (some 10) _ = _
    simp only [Act.put, List.setIfInBounds_toArray, List.set_cons_zero, List.set_cons_succ, i64_w, i32_w]
    rfl
  refine pure_ (i := 5) (N := some 2) (v := ?_) (a' := ?_) #[true, true, true, true, true, true] rfl rfl (by kernel_rfl) (fun _ _ _ h => h) (Or.inl ⟨by rfl, ?_⟩) ?_ ?_
  rotate_left
  · intro w'
    go_simp
    with_reducible rfl
  rotate_left
  · simp only [Act.put, List.setIfInBounds_toArray, List.set_cons_zero, List.set_cons_succ, i64_w, i32_w]
    rfl
  refine done_ (by kernel_rfl) ?_
  go_wp2
  go_ret
  exact ⟨rfl, HB5.out⟩
theorem m_messageKind_right (w : World) : (method 296 111 (.agg #[]) "loop.example/s01729/impl.right").run Tryz.prog w = .ok (151, (.agg #[])) w := by kernel_rfl
theorem e_messageKind_right (args : Array Value) (w : World) : (callFunc 151 args).run Tryz.prog w = .ok (.enter 151 args) w := enters_ (by kernel_rfl) (fn := Tryz.f151) (by kernel_rfl) rfl args w
theorem m_messageKind_only (w : World) : (method 296 111 (.agg #[]) "loop.example/s01729/impl.only").run Tryz.prog w = .ok (149, (.agg #[])) w := by kernel_rfl
theorem e_messageKind_only (args : Array Value) (w : World) : (callFunc 149 args).run Tryz.prog w = .ok (.enter 149 args) w := enters_ (by kernel_rfl) (fn := Tryz.f149) (by kernel_rfl) rfl args w
theorem m_messageKind_pack (w : World) : (method 296 111 (.agg #[]) "loop.example/s01729/impl.pack").run Tryz.prog w = .ok (150, (.agg #[])) w := by kernel_rfl
theorem e_messageKind_pack (args : Array Value) (w : World) : (callFunc 150 args).run Tryz.prog w = .ok (.enter 150 args) w := enters_ (by kernel_rfl) (fn := Tryz.f150) (by kernel_rfl) rfl args w
theorem m_verdictKind_right (w : World) : (method 296 112 (.agg #[]) "loop.example/s01729/impl.right").run Tryz.prog w = .ok (195, (.agg #[])) w := by kernel_rfl
theorem e_verdictKind_right (args : Array Value) (w : World) : (callFunc 195 args).run Tryz.prog w = .ok (.enter 195 args) w := enters_ (by kernel_rfl) (fn := Tryz.f195) (by kernel_rfl) rfl args w
theorem m_verdictKind_only (w : World) : (method 296 112 (.agg #[]) "loop.example/s01729/impl.only").run Tryz.prog w = .ok (193, (.agg #[])) w := by kernel_rfl
theorem e_verdictKind_only (args : Array Value) (w : World) : (callFunc 193 args).run Tryz.prog w = .ok (.enter 193 args) w := enters_ (by kernel_rfl) (fn := Tryz.f193) (by kernel_rfl) rfl args w
theorem m_verdictKind_pack (w : World) : (method 296 112 (.agg #[]) "loop.example/s01729/impl.pack").run Tryz.prog w = .ok (194, (.agg #[])) w := by kernel_rfl
theorem e_verdictKind_pack (args : Array Value) (w : World) : (callFunc 194 args).run Tryz.prog w = .ok (.enter 194 args) w := enters_ (by kernel_rfl) (fn := Tryz.f194) (by kernel_rfl) rfl args w
theorem m_tryKind_right (w : World) : (method 296 113 (.agg #[]) "loop.example/s01729/impl.right").run Tryz.prog w = .ok (199, (.agg #[])) w := by kernel_rfl
theorem e_tryKind_right (args : Array Value) (w : World) : (callFunc 199 args).run Tryz.prog w = .ok (.enter 199 args) w := enters_ (by kernel_rfl) (fn := Tryz.f199) (by kernel_rfl) rfl args w
theorem m_tryKind_only (w : World) : (method 296 113 (.agg #[]) "loop.example/s01729/impl.only").run Tryz.prog w = .ok (197, (.agg #[])) w := by kernel_rfl
theorem e_tryKind_only (args : Array Value) (w : World) : (callFunc 197 args).run Tryz.prog w = .ok (.enter 197 args) w := enters_ (by kernel_rfl) (fn := Tryz.f197) (by kernel_rfl) rfl args w
theorem m_tryKind_pack (w : World) : (method 296 113 (.agg #[]) "loop.example/s01729/impl.pack").run Tryz.prog w = .ok (198, (.agg #[])) w := by kernel_rfl
theorem e_tryKind_pack (args : Array Value) (w : World) : (callFunc 198 args).run Tryz.prog w = .ok (.enter 198 args) w := enters_ (by kernel_rfl) (fn := Tryz.f198) (by kernel_rfl) rfl args w
theorem m_markKind_right (L : ByteArray) (M : Int) (w : World) : (method 296 115 (.agg #[.string L, .int .i64 M]) "loop.example/s01729/impl.right").run Tryz.prog w = .ok (202, (.agg #[.string L, .int .i64 M])) w := by kernel_rfl
theorem e_markKind_right (args : Array Value) (w : World) : (callFunc 202 args).run Tryz.prog w = .ok (.enter 202 args) w := enters_ (by kernel_rfl) (fn := Tryz.f202) (by kernel_rfl) rfl args w
theorem m_markKind_only (L : ByteArray) (M : Int) (w : World) : (method 296 115 (.agg #[.string L, .int .i64 M]) "loop.example/s01729/impl.only").run Tryz.prog w = .ok (200, (.agg #[.string L, .int .i64 M])) w := by kernel_rfl
theorem e_markKind_only (args : Array Value) (w : World) : (callFunc 200 args).run Tryz.prog w = .ok (.enter 200 args) w := enters_ (by kernel_rfl) (fn := Tryz.f200) (by kernel_rfl) rfl args w
theorem m_markKind_pack (L : ByteArray) (M : Int) (w : World) : (method 296 115 (.agg #[.string L, .int .i64 M]) "loop.example/s01729/impl.pack").run Tryz.prog w = .ok (201, (.agg #[.string L, .int .i64 M])) w := by kernel_rfl
theorem e_markKind_pack (args : Array Value) (w : World) : (callFunc 201 args).run Tryz.prog w = .ok (.enter 201 args) w := enters_ (by kernel_rfl) (fn := Tryz.f201) (by kernel_rfl) rfl args w
def okWith (k : Nat) (b : Option Bool) (o0 : Int) (o1 : Int) (o2 : Int) (o3 : ByteArray) (ol : List ByteArray) (o5 : ByteArray) (o6 : Int) (o7 : Int) (o8 : Int) (o9 : Int) (o10 : ByteArray) (o11 : Int) (o12 : Int) (a0 : Int) (a1 : Int) (a2 : Int) (a3 : ByteArray) (al : List ByteArray) (a5 : ByteArray) (a6 : Int) (a7 : Int) (a8 : Int) (a9 : Int) (a10 : ByteArray) (a11 : Int) (a12 : Int) : Option Bool :=
  b.bind fun b => if b = true then (impl_sameMessage.f k o1 o2 o3 ol o5 a1 a2 a3 al a5).bind fun s => some (s && ((o6 == a6) && ((o7 == a7) && (((o8 == a8) && ((o9 == a9) && (o10.toList == a10.toList))) && ((o11 == a11) && (o12 == a12)))))) else some false
def impl_recordOk.f (k : Nat) (a0 : Int) (a1 : Int) (a2 : Int) (a3 : ByteArray) (al : List ByteArray) (a5 : ByteArray) (a6 : Int) (a7 : Int) (a8 : Int) (a9 : Int) (a10 : ByteArray) (a11 : Int) (a12 : Int) : Option Bool :=
  if a0 = 1 then okWith k (impl_messageKind_right.f k a0 a1 a2 a3 al a5 a6 a7 a8 a9 a10 a11 a12) a0 a1 a2 a3 al a5 0 0 0 0 (⟨#[]⟩ : ByteArray) 0 0 a0 a1 a2 a3 al a5 a6 a7 a8 a9 a10 a11 a12 else
  if a0 = 2 then okWith k (impl_verdictKind_right.f a0 a1 a2 a3 al a5 a6 a7 a8 a9 a10 a11 a12) a0 0 0 (⟨#[]⟩ : ByteArray) [] (⟨#[]⟩ : ByteArray) a6 a7 a8 a9 a10 0 0 a0 a1 a2 a3 al a5 a6 a7 a8 a9 a10 a11 a12 else
  if a0 = 3 then okWith k (impl_tryKind_right.f a0 a1 a2 a3 al a5 a6 a7 a8 a9 a10 a11 a12) a0 0 0 (⟨#[]⟩ : ByteArray) [] (⟨#[]⟩ : ByteArray) a6 0 0 0 (⟨#[]⟩ : ByteArray) a11 a12 a0 a1 a2 a3 al a5 a6 a7 a8 a9 a10 a11 a12 else
  if a0 = 4 then okWith k (impl_markKind_right.f ⟨#[66]⟩ 999999 a0 a1 a2 a3 al a5 a6 a7 a8 a9 a10 a11 a12) a0 0 0 (⟨#[]⟩ : ByteArray) [] (⟨#[]⟩ : ByteArray) a6 0 0 0 (⟨#[]⟩ : ByteArray) 0 0 a0 a1 a2 a3 al a5 a6 a7 a8 a9 a10 a11 a12 else
  if a0 = 5 then okWith k (impl_markKind_right.f ⟨#[68]⟩ 999999 a0 a1 a2 a3 al a5 a6 a7 a8 a9 a10 a11 a12) a0 0 0 (⟨#[]⟩ : ByteArray) [] (⟨#[]⟩ : ByteArray) a6 0 0 0 (⟨#[]⟩ : ByteArray) 0 0 a0 a1 a2 a3 al a5 a6 a7 a8 a9 a10 a11 a12 else
  if a0 = 6 then okWith k (impl_markKind_right.f ⟨#[78]⟩ 1000000 a0 a1 a2 a3 al a5 a6 a7 a8 a9 a10 a11 a12) a0 0 0 (⟨#[]⟩ : ByteArray) [] (⟨#[]⟩ : ByteArray) a6 0 0 0 (⟨#[]⟩ : ByteArray) 0 0 a0 a1 a2 a3 al a5 a6 a7 a8 a9 a10 a11 a12 else
  some false
def kindPack.f (k : Nat) (a0 : Int) (a1 : Int) (a2 : Int) (a3 : ByteArray) (al : List ByteArray) (a5 : ByteArray) (a6 : Int) (a7 : Int) (a8 : Int) (a9 : Int) (a10 : ByteArray) (a11 : Int) (a12 : Int) : Option ByteArray :=
  if a0 = 1 then impl_messageKind_pack.f k a0 a1 a2 a3 al a5 a6 a7 a8 a9 a10 a11 a12 else
  if a0 = 2 then impl_verdictKind_pack.f a0 a1 a2 a3 al a5 a6 a7 a8 a9 a10 a11 a12 else
  if a0 = 3 then impl_tryKind_pack.f a0 a1 a2 a3 al a5 a6 a7 a8 a9 a10 a11 a12 else
  if a0 = 4 then impl_markKind_pack.f ⟨#[66]⟩ 999999 a0 a1 a2 a3 al a5 a6 a7 a8 a9 a10 a11 a12 else
  if a0 = 5 then impl_markKind_pack.f ⟨#[68]⟩ 999999 a0 a1 a2 a3 al a5 a6 a7 a8 a9 a10 a11 a12 else
  if a0 = 6 then impl_markKind_pack.f ⟨#[78]⟩ 1000000 a0 a1 a2 a3 al a5 a6 a7 a8 a9 a10 a11 a12 else
  none
def impl_PackRecord.f (k : Nat) (a0 : Int) (a1 : Int) (a2 : Int) (a3 : ByteArray) (al : List ByteArray) (a5 : ByteArray) (a6 : Int) (a7 : Int) (a8 : Int) (a9 : Int) (a10 : ByteArray) (a11 : Int) (a12 : Int) : Option ByteArray := (impl_recordOk.f k a0 a1 a2 a3 al a5 a6 a7 a8 a9 a10 a11 a12).bind fun b => if b = true then kindPack.f k a0 a1 a2 a3 al a5 a6 a7 a8 a9 a10 a11 a12 else some (⟨#[]⟩ : ByteArray)
theorem okWith.mono (k : Nat) (b b' : Option Bool) (h : LeO b b') (o0 : Int) (o1 : Int) (o2 : Int) (o3 : ByteArray) (ol : List ByteArray) (o5 : ByteArray) (o6 : Int) (o7 : Int) (o8 : Int) (o9 : Int) (o10 : ByteArray) (o11 : Int) (o12 : Int) (a0 : Int) (a1 : Int) (a2 : Int) (a3 : ByteArray) (al : List ByteArray) (a5 : ByteArray) (a6 : Int) (a7 : Int) (a8 : Int) (a9 : Int) (a10 : ByteArray) (a11 : Int) (a12 : Int) : LeO (okWith k b o0 o1 o2 o3 ol o5 o6 o7 o8 o9 o10 o11 o12 a0 a1 a2 a3 al a5 a6 a7 a8 a9 a10 a11 a12) (okWith (k + 1) b' o0 o1 o2 o3 ol o5 o6 o7 o8 o9 o10 o11 o12 a0 a1 a2 a3 al a5 a6 a7 a8 a9 a10 a11 a12) := by
  unfold okWith
  refine LeO.bind h (fun _ => ?_)
  repeat' first
    | (with_reducible exact LeO.refl _)
    | (with_reducible refine LeO.ite ?_ ?_)
    | (with_reducible refine LeO.bind ?_ (fun _ => ?_))
    | exact impl_messageKind_right.mono _ _ _ _ _ _ _ _ _ _ _ _ _ _
    | exact impl_sameMessage.mono _ _ _ _ _ _ _ _ _ _ _
    | exact impl_messageKind_pack.mono _ _ _ _ _ _ _ _ _ _ _ _ _ _
    | exact LeO.none _
theorem impl_recordOk.mono : ∀ a0 a1 a2 a3 al a5 a6 a7 a8 a9 a10 a11 a12 k, LeO (impl_recordOk.f k a0 a1 a2 a3 al a5 a6 a7 a8 a9 a10 a11 a12) (impl_recordOk.f (k + 1) a0 a1 a2 a3 al a5 a6 a7 a8 a9 a10 a11 a12) := by
  intro a0 a1 a2 a3 al a5 a6 a7 a8 a9 a10 a11 a12 k
  unfold impl_recordOk.f
  repeat' first
    | (with_reducible exact LeO.refl _)
    | (with_reducible refine LeO.ite ?_ ?_)
    | exact okWith.mono _ _ _ (impl_messageKind_right.mono _ _ _ _ _ _ _ _ _ _ _ _ _ _) _ _ _ _ _ _ _ _ _ _ _ _ _ _ _ _ _ _ _ _ _ _ _ _ _ _
    | exact okWith.mono _ _ _ (LeO.refl _) _ _ _ _ _ _ _ _ _ _ _ _ _ _ _ _ _ _ _ _ _ _ _ _ _ _
theorem impl_PackRecord.mono : ∀ a0 a1 a2 a3 al a5 a6 a7 a8 a9 a10 a11 a12 k, LeO (impl_PackRecord.f k a0 a1 a2 a3 al a5 a6 a7 a8 a9 a10 a11 a12) (impl_PackRecord.f (k + 1) a0 a1 a2 a3 al a5 a6 a7 a8 a9 a10 a11 a12) := by
  intro a0 a1 a2 a3 al a5 a6 a7 a8 a9 a10 a11 a12 k
  unfold impl_PackRecord.f kindPack.f
  refine LeO.bind (impl_recordOk.mono _ _ _ _ _ _ _ _ _ _ _ _ _ _) (fun _ => ?_)
  repeat' first
    | (with_reducible exact LeO.refl _)
    | (with_reducible refine LeO.ite ?_ ?_)
    | (with_reducible refine LeO.bind ?_ (fun _ => ?_))
    | exact impl_messageKind_right.mono _ _ _ _ _ _ _ _ _ _ _ _ _ _
    | exact impl_sameMessage.mono _ _ _ _ _ _ _ _ _ _ _
    | exact impl_messageKind_pack.mono _ _ _ _ _ _ _ _ _ _ _ _ _ _
    | exact LeO.none _
set_option maxRecDepth 100000 in
theorem impl_recordOk.calls (k : Nat) (a0 : Int) (a1 : Int) (a2 : Int) (a3 : ByteArray) (aA : Option Addr) (ac : Nat) (al : List ByteArray) (a5 : ByteArray) (a6 : Int) (a7 : Int) (a8 : Int) (a9 : Int) (a10 : ByteArray) (a11 : Int) (a12 : Int) (r : Bool) (w : World) (hGM : GlM w) (hr : Kd.C Kd.string w aA al.length al) (hc : al.length ≤ ac) (h : impl_recordOk.f k a0 a1 a2 a3 al a5 a6 a7 a8 a9 a10 a11 a12 = some r) :
    Calls Tryz.prog 65 #[.agg #[.int .i64 a0, .int .i64 a1, .int .i64 a2, .string a3, .slice aA al.length ac, .string a5, .int .i64 a6, .int .i64 a7, .int .i64 a8, .int .i64 a9, .string a10, .int .i64 a11, .int .i64 a12]] w fun e w' => e = .returned (.bool r) ∧ Below w.heap.size w w' := by
  by_cases h1 : a0 = 1
  · subst h1
    replace h : okWith k (impl_messageKind_right.f k 1 a1 a2 a3 al a5 a6 a7 a8 a9 a10 a11 a12) 1 a1 a2 a3 al a5 0 0 0 0 (⟨#[]⟩ : ByteArray) 0 0 1 a1 a2 a3 al a5 a6 a7 a8 a9 a10 a11 a12 = some r := h
    obtain ⟨b, h1, h2⟩ := Option.bind_eq_some_iff.1 h
    cases b with
    | false =>
      obtain rfl := Option.some.inj h2
      exact recordOk_no 1 a1 a2 a3 aA ac al a5 a6 a7 a8 a9 a10 a11 a12 w 111 _ rfl 151 (m_messageKind_right) (e_messageKind_right) (fun w1 hb => by have b := false; exact impl_messageKind_right.calls k 1 a1 a2 a3 aA ac al a5 a6 a7 a8 a9 a10 a11 a12 false w1 (hGM.below hb) (Kd.C_below hr hb) hc h1)
    | true =>
      obtain ⟨s, h3, h4⟩ := Option.bind_eq_some_iff.1 h2
      obtain rfl := Option.some.inj h4
      exact recordOk_yes k 1 a1 a2 a3 aA ac al a5 a6 a7 a8 a9 a10 a11 a12 w 111 _ rfl hr hc 151 149 (m_messageKind_right) (e_messageKind_right) (m_messageKind_only) (e_messageKind_only) 1 a1 a2 a3 al a5 0 0 0 0 (⟨#[]⟩ : ByteArray) 0 0 s (fun w1 hb => by have b := true; exact impl_messageKind_right.calls k 1 a1 a2 a3 aA ac al a5 a6 a7 a8 a9 a10 a11 a12 true w1 (hGM.below hb) (Kd.C_below hr hb) hc h1) (fun w1 hb => (impl_messageKind_only.calls 1 a1 a2 a3 aA ac al a5 a6 a7 a8 a9 a10 a11 a12 w1).mono (fun e w' ⟨he, hb'⟩ => ⟨aA, ac, he, hc, Kd.C_below (Kd.C_below hr hb) hb', hb'⟩)) h3
  by_cases h2 : a0 = 2
  · subst h2
    replace h : okWith k (impl_verdictKind_right.f 2 a1 a2 a3 al a5 a6 a7 a8 a9 a10 a11 a12) 2 0 0 (⟨#[]⟩ : ByteArray) [] (⟨#[]⟩ : ByteArray) a6 a7 a8 a9 a10 0 0 2 a1 a2 a3 al a5 a6 a7 a8 a9 a10 a11 a12 = some r := h
    obtain ⟨b, h1, h2⟩ := Option.bind_eq_some_iff.1 h
    cases b with
    | false =>
      obtain rfl := Option.some.inj h2
      exact recordOk_no 2 a1 a2 a3 aA ac al a5 a6 a7 a8 a9 a10 a11 a12 w 112 _ rfl 195 (m_verdictKind_right) (e_verdictKind_right) (fun w1 hb => by have b := false; exact impl_verdictKind_right.calls 2 a1 a2 a3 aA ac al a5 a6 a7 a8 a9 a10 a11 a12 false w1 (Kd.C_below hr hb) hc h1)
    | true =>
      obtain ⟨s, h3, h4⟩ := Option.bind_eq_some_iff.1 h2
      obtain rfl := Option.some.inj h4
      exact recordOk_yes k 2 a1 a2 a3 aA ac al a5 a6 a7 a8 a9 a10 a11 a12 w 112 _ rfl hr hc 195 193 (m_verdictKind_right) (e_verdictKind_right) (m_verdictKind_only) (e_verdictKind_only) 2 0 0 (⟨#[]⟩ : ByteArray) [] (⟨#[]⟩ : ByteArray) a6 a7 a8 a9 a10 0 0 s (fun w1 hb => by have b := true; exact impl_verdictKind_right.calls 2 a1 a2 a3 aA ac al a5 a6 a7 a8 a9 a10 a11 a12 true w1 (Kd.C_below hr hb) hc h1) (fun w1 hb => (impl_verdictKind_only.calls 2 a1 a2 a3 aA ac al a5 a6 a7 a8 a9 a10 a11 a12 2 0 0 (⟨#[]⟩ : ByteArray) [] (⟨#[]⟩ : ByteArray) a6 a7 a8 a9 a10 0 0 w1 (Kd.C_below hr hb) hc rfl).mono (fun e w' ⟨v, he, hv, hb'⟩ => by obtain ⟨A, c, rfl, hcc, hC⟩ := Kd.R_reads hv; exact ⟨A, c, he, hcc, hC, hb'⟩)) h3
  by_cases h3 : a0 = 3
  · subst h3
    replace h : okWith k (impl_tryKind_right.f 3 a1 a2 a3 al a5 a6 a7 a8 a9 a10 a11 a12) 3 0 0 (⟨#[]⟩ : ByteArray) [] (⟨#[]⟩ : ByteArray) a6 0 0 0 (⟨#[]⟩ : ByteArray) a11 a12 3 a1 a2 a3 al a5 a6 a7 a8 a9 a10 a11 a12 = some r := h
    obtain ⟨b, h1, h2⟩ := Option.bind_eq_some_iff.1 h
    cases b with
    | false =>
      obtain rfl := Option.some.inj h2
      exact recordOk_no 3 a1 a2 a3 aA ac al a5 a6 a7 a8 a9 a10 a11 a12 w 113 _ rfl 199 (m_tryKind_right) (e_tryKind_right) (fun w1 hb => by have b := false; exact impl_tryKind_right.calls 3 a1 a2 a3 aA ac al a5 a6 a7 a8 a9 a10 a11 a12 false w1 (Kd.C_below hr hb) hc h1)
    | true =>
      obtain ⟨s, h3, h4⟩ := Option.bind_eq_some_iff.1 h2
      obtain rfl := Option.some.inj h4
      exact recordOk_yes k 3 a1 a2 a3 aA ac al a5 a6 a7 a8 a9 a10 a11 a12 w 113 _ rfl hr hc 199 197 (m_tryKind_right) (e_tryKind_right) (m_tryKind_only) (e_tryKind_only) 3 0 0 (⟨#[]⟩ : ByteArray) [] (⟨#[]⟩ : ByteArray) a6 0 0 0 (⟨#[]⟩ : ByteArray) a11 a12 s (fun w1 hb => by have b := true; exact impl_tryKind_right.calls 3 a1 a2 a3 aA ac al a5 a6 a7 a8 a9 a10 a11 a12 true w1 (Kd.C_below hr hb) hc h1) (fun w1 hb => (impl_tryKind_only.calls 3 a1 a2 a3 aA ac al a5 a6 a7 a8 a9 a10 a11 a12 3 0 0 (⟨#[]⟩ : ByteArray) [] (⟨#[]⟩ : ByteArray) a6 0 0 0 (⟨#[]⟩ : ByteArray) a11 a12 w1 (Kd.C_below hr hb) hc rfl).mono (fun e w' ⟨v, he, hv, hb'⟩ => by obtain ⟨A, c, rfl, hcc, hC⟩ := Kd.R_reads hv; exact ⟨A, c, he, hcc, hC, hb'⟩)) h3
  by_cases h4 : a0 = 4
  · subst h4
    replace h : okWith k (impl_markKind_right.f ⟨#[66]⟩ 999999 4 a1 a2 a3 al a5 a6 a7 a8 a9 a10 a11 a12) 4 0 0 (⟨#[]⟩ : ByteArray) [] (⟨#[]⟩ : ByteArray) a6 0 0 0 (⟨#[]⟩ : ByteArray) 0 0 4 a1 a2 a3 al a5 a6 a7 a8 a9 a10 a11 a12 = some r := h
    obtain ⟨b, h1, h2⟩ := Option.bind_eq_some_iff.1 h
    cases b with
    | false =>
      obtain rfl := Option.some.inj h2
      exact recordOk_no 4 a1 a2 a3 aA ac al a5 a6 a7 a8 a9 a10 a11 a12 w 115 _ rfl 202 (m_markKind_right ⟨#[66]⟩ 999999) (e_markKind_right) (fun w1 hb => by have b := false; exact impl_markKind_right.calls ⟨#[66]⟩ 999999 4 a1 a2 a3 aA ac al a5 a6 a7 a8 a9 a10 a11 a12 false w1 (Kd.C_below hr hb) hc h1)
    | true =>
      obtain ⟨s, h3, h4⟩ := Option.bind_eq_some_iff.1 h2
      obtain rfl := Option.some.inj h4
      exact recordOk_yes k 4 a1 a2 a3 aA ac al a5 a6 a7 a8 a9 a10 a11 a12 w 115 _ rfl hr hc 202 200 (m_markKind_right ⟨#[66]⟩ 999999) (e_markKind_right) (m_markKind_only ⟨#[66]⟩ 999999) (e_markKind_only) 4 0 0 (⟨#[]⟩ : ByteArray) [] (⟨#[]⟩ : ByteArray) a6 0 0 0 (⟨#[]⟩ : ByteArray) 0 0 s (fun w1 hb => by have b := true; exact impl_markKind_right.calls ⟨#[66]⟩ 999999 4 a1 a2 a3 aA ac al a5 a6 a7 a8 a9 a10 a11 a12 true w1 (Kd.C_below hr hb) hc h1) (fun w1 hb => (impl_markKind_only.calls ⟨#[66]⟩ 999999 4 a1 a2 a3 aA ac al a5 a6 a7 a8 a9 a10 a11 a12 4 0 0 (⟨#[]⟩ : ByteArray) [] (⟨#[]⟩ : ByteArray) a6 0 0 0 (⟨#[]⟩ : ByteArray) 0 0 w1 (Kd.C_below hr hb) hc rfl).mono (fun e w' ⟨v, he, hv, hb'⟩ => by obtain ⟨A, c, rfl, hcc, hC⟩ := Kd.R_reads hv; exact ⟨A, c, he, hcc, hC, hb'⟩)) h3
  by_cases h5 : a0 = 5
  · subst h5
    replace h : okWith k (impl_markKind_right.f ⟨#[68]⟩ 999999 5 a1 a2 a3 al a5 a6 a7 a8 a9 a10 a11 a12) 5 0 0 (⟨#[]⟩ : ByteArray) [] (⟨#[]⟩ : ByteArray) a6 0 0 0 (⟨#[]⟩ : ByteArray) 0 0 5 a1 a2 a3 al a5 a6 a7 a8 a9 a10 a11 a12 = some r := h
    obtain ⟨b, h1, h2⟩ := Option.bind_eq_some_iff.1 h
    cases b with
    | false =>
      obtain rfl := Option.some.inj h2
      exact recordOk_no 5 a1 a2 a3 aA ac al a5 a6 a7 a8 a9 a10 a11 a12 w 115 _ rfl 202 (m_markKind_right ⟨#[68]⟩ 999999) (e_markKind_right) (fun w1 hb => by have b := false; exact impl_markKind_right.calls ⟨#[68]⟩ 999999 5 a1 a2 a3 aA ac al a5 a6 a7 a8 a9 a10 a11 a12 false w1 (Kd.C_below hr hb) hc h1)
    | true =>
      obtain ⟨s, h3, h4⟩ := Option.bind_eq_some_iff.1 h2
      obtain rfl := Option.some.inj h4
      exact recordOk_yes k 5 a1 a2 a3 aA ac al a5 a6 a7 a8 a9 a10 a11 a12 w 115 _ rfl hr hc 202 200 (m_markKind_right ⟨#[68]⟩ 999999) (e_markKind_right) (m_markKind_only ⟨#[68]⟩ 999999) (e_markKind_only) 5 0 0 (⟨#[]⟩ : ByteArray) [] (⟨#[]⟩ : ByteArray) a6 0 0 0 (⟨#[]⟩ : ByteArray) 0 0 s (fun w1 hb => by have b := true; exact impl_markKind_right.calls ⟨#[68]⟩ 999999 5 a1 a2 a3 aA ac al a5 a6 a7 a8 a9 a10 a11 a12 true w1 (Kd.C_below hr hb) hc h1) (fun w1 hb => (impl_markKind_only.calls ⟨#[68]⟩ 999999 5 a1 a2 a3 aA ac al a5 a6 a7 a8 a9 a10 a11 a12 5 0 0 (⟨#[]⟩ : ByteArray) [] (⟨#[]⟩ : ByteArray) a6 0 0 0 (⟨#[]⟩ : ByteArray) 0 0 w1 (Kd.C_below hr hb) hc rfl).mono (fun e w' ⟨v, he, hv, hb'⟩ => by obtain ⟨A, c, rfl, hcc, hC⟩ := Kd.R_reads hv; exact ⟨A, c, he, hcc, hC, hb'⟩)) h3
  by_cases h6 : a0 = 6
  · subst h6
    replace h : okWith k (impl_markKind_right.f ⟨#[78]⟩ 1000000 6 a1 a2 a3 al a5 a6 a7 a8 a9 a10 a11 a12) 6 0 0 (⟨#[]⟩ : ByteArray) [] (⟨#[]⟩ : ByteArray) a6 0 0 0 (⟨#[]⟩ : ByteArray) 0 0 6 a1 a2 a3 al a5 a6 a7 a8 a9 a10 a11 a12 = some r := h
    obtain ⟨b, h1, h2⟩ := Option.bind_eq_some_iff.1 h
    cases b with
    | false =>
      obtain rfl := Option.some.inj h2
      exact recordOk_no 6 a1 a2 a3 aA ac al a5 a6 a7 a8 a9 a10 a11 a12 w 115 _ rfl 202 (m_markKind_right ⟨#[78]⟩ 1000000) (e_markKind_right) (fun w1 hb => by have b := false; exact impl_markKind_right.calls ⟨#[78]⟩ 1000000 6 a1 a2 a3 aA ac al a5 a6 a7 a8 a9 a10 a11 a12 false w1 (Kd.C_below hr hb) hc h1)
    | true =>
      obtain ⟨s, h3, h4⟩ := Option.bind_eq_some_iff.1 h2
      obtain rfl := Option.some.inj h4
      exact recordOk_yes k 6 a1 a2 a3 aA ac al a5 a6 a7 a8 a9 a10 a11 a12 w 115 _ rfl hr hc 202 200 (m_markKind_right ⟨#[78]⟩ 1000000) (e_markKind_right) (m_markKind_only ⟨#[78]⟩ 1000000) (e_markKind_only) 6 0 0 (⟨#[]⟩ : ByteArray) [] (⟨#[]⟩ : ByteArray) a6 0 0 0 (⟨#[]⟩ : ByteArray) 0 0 s (fun w1 hb => by have b := true; exact impl_markKind_right.calls ⟨#[78]⟩ 1000000 6 a1 a2 a3 aA ac al a5 a6 a7 a8 a9 a10 a11 a12 true w1 (Kd.C_below hr hb) hc h1) (fun w1 hb => (impl_markKind_only.calls ⟨#[78]⟩ 1000000 6 a1 a2 a3 aA ac al a5 a6 a7 a8 a9 a10 a11 a12 6 0 0 (⟨#[]⟩ : ByteArray) [] (⟨#[]⟩ : ByteArray) a6 0 0 0 (⟨#[]⟩ : ByteArray) 0 0 w1 (Kd.C_below hr hb) hc rfl).mono (fun e w' ⟨v, he, hv, hb'⟩ => by obtain ⟨A, c, rfl, hcc, hC⟩ := Kd.R_reads hv; exact ⟨A, c, he, hcc, hC, hb'⟩)) h3
  have hk : kv a0 = .nilIface := by unfold kv; rw [if_neg h1, if_neg h2, if_neg h3, if_neg h4, if_neg h5, if_neg h6]
  unfold impl_recordOk.f at h
  rw [if_neg h1, if_neg h2, if_neg h3, if_neg h4, if_neg h5, if_neg h6] at h
  obtain rfl := Option.some.inj h
  exact recordOk_nil a0 a1 a2 a3 aA ac al a5 a6 a7 a8 a9 a10 a11 a12 w hk
set_option maxRecDepth 100000 in
theorem impl_PackRecord.calls (k : Nat) (a0 : Int) (a1 : Int) (a2 : Int) (a3 : ByteArray) (aA : Option Addr) (ac : Nat) (al : List ByteArray) (a5 : ByteArray) (a6 : Int) (a7 : Int) (a8 : Int) (a9 : Int) (a10 : ByteArray) (a11 : Int) (a12 : Int) (r : ByteArray) (w : World) (hGI : GlI w) (hGM : GlM w) (hr : Kd.C Kd.string w aA al.length al) (hc : al.length ≤ ac) (h : impl_PackRecord.f k a0 a1 a2 a3 al a5 a6 a7 a8 a9 a10 a11 a12 = some r) :
    Calls Tryz.prog 31 #[.agg #[.int .i64 a0, .int .i64 a1, .int .i64 a2, .string a3, .slice aA al.length ac, .string a5, .int .i64 a6, .int .i64 a7, .int .i64 a8, .int .i64 a9, .string a10, .int .i64 a11, .int .i64 a12]] w fun e w' => e = .returned (.string r) ∧ Below w.heap.size w w' := by
  obtain ⟨b, h1, h2⟩ := Option.bind_eq_some_iff.1 h
  cases b with
  | false =>
    obtain rfl := Option.some.inj h2
    exact PackRecord_no a0 a1 a2 a3 aA ac al a5 a6 a7 a8 a9 a10 a11 a12 w (fun w1 hb => impl_recordOk.calls k a0 a1 a2 a3 aA ac al a5 a6 a7 a8 a9 a10 a11 a12 false w1 (hGM.below hb) (Kd.C_below hr hb) hc h1)
  | true =>
    replace h2 : kindPack.f k a0 a1 a2 a3 al a5 a6 a7 a8 a9 a10 a11 a12 = some r := h2
    by_cases h1_ : a0 = 1
    · subst h1_
      replace h2 : impl_messageKind_pack.f k 1 a1 a2 a3 al a5 a6 a7 a8 a9 a10 a11 a12 = some r := h2
      exact PackRecord_yes 1 a1 a2 a3 aA ac al a5 a6 a7 a8 a9 a10 a11 a12 w 111 _ rfl 150 (m_messageKind_pack) (e_messageKind_pack) r (fun w1 hb => impl_recordOk.calls k 1 a1 a2 a3 aA ac al a5 a6 a7 a8 a9 a10 a11 a12 true w1 (hGM.below hb) (Kd.C_below hr hb) hc h1) (fun w1 hb => impl_messageKind_pack.calls k 1 a1 a2 a3 aA ac al a5 a6 a7 a8 a9 a10 a11 a12 r w1 (hGI.below hb) (Kd.C_below hr hb) hc h2)
    by_cases h2_ : a0 = 2
    · subst h2_
      replace h2 : impl_verdictKind_pack.f 2 a1 a2 a3 al a5 a6 a7 a8 a9 a10 a11 a12 = some r := h2
      exact PackRecord_yes 2 a1 a2 a3 aA ac al a5 a6 a7 a8 a9 a10 a11 a12 w 112 _ rfl 194 (m_verdictKind_pack) (e_verdictKind_pack) r (fun w1 hb => impl_recordOk.calls k 2 a1 a2 a3 aA ac al a5 a6 a7 a8 a9 a10 a11 a12 true w1 (hGM.below hb) (Kd.C_below hr hb) hc h1) (fun w1 hb => impl_verdictKind_pack.calls 2 a1 a2 a3 aA ac al a5 a6 a7 a8 a9 a10 a11 a12 r w1 (hGI.below hb) (Kd.C_below hr hb) hc h2)
    by_cases h3 : a0 = 3
    · subst h3
      replace h2 : impl_tryKind_pack.f 3 a1 a2 a3 al a5 a6 a7 a8 a9 a10 a11 a12 = some r := h2
      exact PackRecord_yes 3 a1 a2 a3 aA ac al a5 a6 a7 a8 a9 a10 a11 a12 w 113 _ rfl 198 (m_tryKind_pack) (e_tryKind_pack) r (fun w1 hb => impl_recordOk.calls k 3 a1 a2 a3 aA ac al a5 a6 a7 a8 a9 a10 a11 a12 true w1 (hGM.below hb) (Kd.C_below hr hb) hc h1) (fun w1 hb => impl_tryKind_pack.calls 3 a1 a2 a3 aA ac al a5 a6 a7 a8 a9 a10 a11 a12 r w1 (hGI.below hb) (Kd.C_below hr hb) hc h2)
    by_cases h4 : a0 = 4
    · subst h4
      replace h2 : impl_markKind_pack.f ⟨#[66]⟩ 999999 4 a1 a2 a3 al a5 a6 a7 a8 a9 a10 a11 a12 = some r := h2
      exact PackRecord_yes 4 a1 a2 a3 aA ac al a5 a6 a7 a8 a9 a10 a11 a12 w 115 _ rfl 201 (m_markKind_pack ⟨#[66]⟩ 999999) (e_markKind_pack) r (fun w1 hb => impl_recordOk.calls k 4 a1 a2 a3 aA ac al a5 a6 a7 a8 a9 a10 a11 a12 true w1 (hGM.below hb) (Kd.C_below hr hb) hc h1) (fun w1 hb => impl_markKind_pack.calls ⟨#[66]⟩ 999999 4 a1 a2 a3 aA ac al a5 a6 a7 a8 a9 a10 a11 a12 r w1 (hGI.below hb) (Kd.C_below hr hb) hc h2)
    by_cases h5 : a0 = 5
    · subst h5
      replace h2 : impl_markKind_pack.f ⟨#[68]⟩ 999999 5 a1 a2 a3 al a5 a6 a7 a8 a9 a10 a11 a12 = some r := h2
      exact PackRecord_yes 5 a1 a2 a3 aA ac al a5 a6 a7 a8 a9 a10 a11 a12 w 115 _ rfl 201 (m_markKind_pack ⟨#[68]⟩ 999999) (e_markKind_pack) r (fun w1 hb => impl_recordOk.calls k 5 a1 a2 a3 aA ac al a5 a6 a7 a8 a9 a10 a11 a12 true w1 (hGM.below hb) (Kd.C_below hr hb) hc h1) (fun w1 hb => impl_markKind_pack.calls ⟨#[68]⟩ 999999 5 a1 a2 a3 aA ac al a5 a6 a7 a8 a9 a10 a11 a12 r w1 (hGI.below hb) (Kd.C_below hr hb) hc h2)
    by_cases h6 : a0 = 6
    · subst h6
      replace h2 : impl_markKind_pack.f ⟨#[78]⟩ 1000000 6 a1 a2 a3 al a5 a6 a7 a8 a9 a10 a11 a12 = some r := h2
      exact PackRecord_yes 6 a1 a2 a3 aA ac al a5 a6 a7 a8 a9 a10 a11 a12 w 115 _ rfl 201 (m_markKind_pack ⟨#[78]⟩ 1000000) (e_markKind_pack) r (fun w1 hb => impl_recordOk.calls k 6 a1 a2 a3 aA ac al a5 a6 a7 a8 a9 a10 a11 a12 true w1 (hGM.below hb) (Kd.C_below hr hb) hc h1) (fun w1 hb => impl_markKind_pack.calls ⟨#[78]⟩ 1000000 6 a1 a2 a3 aA ac al a5 a6 a7 a8 a9 a10 a11 a12 r w1 (hGI.below hb) (Kd.C_below hr hb) hc h2)
    unfold kindPack.f at h2
    rw [if_neg h1_, if_neg h2_, if_neg h3, if_neg h4, if_neg h5, if_neg h6] at h2
    cases h2
end Go.Proofs.YtnlembpmcbnpnaaGreatDoor.X
namespace Go.Proofs.YtnlembpmcbnpnaaGreatDoor.X
open Go.RowKit Go.Proofs.YtnlembpmcbnpnaaGreatDoorW.PrintWords Go.Proofs.YtnlembpmcbnpnaaGreatDoorW.PrintLast Go.Proofs.YtnlembpmcbnpnaaGreatDoorW.PrintMore
set_option linter.unusedVariables false
set_option linter.unusedSimpArgs false
def IsS61 (w0 W : World) (g : Nat) (f0 : ByteArray) : Prop := W.heap[g]? = some (.cells #[.string f0] 61 (0, 0)) ∧ w0.heap.size ≤ g
theorem IsS61.grown {w0 W : World} {g : Nat} {f0 : ByteArray} {W1 : World} {row : Option Nat} (h : IsS61 w0 W g f0) (hw : W.grownBy W1 row) (hne : some g ≠ row) : IsS61 w0 W1 g f0 := by
 obtain ⟨hb, hg⟩ := h
 exact ⟨blk_grown hb hw hne, hg⟩
theorem IsS61.fresh {w0 W : World} {g : Nat} {f0 : ByteArray} (h : IsS61 w0 W g f0) : ∀ k, W.heap.size ≤ k → k ≠ g := by
 obtain ⟨hb, hg⟩ := h
 exact Kd.freshB hb
theorem IsS61.kept {w0 W : World} {g : Nat} {f0 : ByteArray} {W1 : World} {S : Nat → Prop} (h : IsS61 w0 W g f0) (hk : Kept W W1 S) (hne : ¬ S g) : IsS61 w0 W1 g f0 := by
 obtain ⟨hb, hg⟩ := h
 exact ⟨blk_kept hb hk hne, hg⟩
theorem IsS61.below {w0 W : World} {g : Nat} {f0 : ByteArray} {W1 : World} (h : IsS61 w0 W g f0) (hw : Below W.heap.size W W1) : IsS61 w0 W1 g f0 := h.grown (grown_of_below hw none) (by simp)
theorem IsS61.alloc {w0 W : World} {g : Nat} {f0 : ByteArray} (h : IsS61 w0 W g f0) (o : Obj) : IsS61 w0 (W.alloc o) g f0 := h.below (below_alloc (Below.refl _ _) o)
theorem IsS61.drewN {w0 W : World} {g : Nat} {f0 : ByteArray} (h : IsS61 w0 W g f0) (m : Nat) : IsS61 w0 (W.drewN m) g f0 := h
theorem IsS61.drew {w0 W : World} {g : Nat} {f0 : ByteArray} (h : IsS61 w0 W g f0) : IsS61 w0 W.drew g f0 := h
theorem IsS61.at_ {w0 W : World} {g : Nat} {f0 : ByteArray} {w' : World} {m : Nat} (hq : W.drewN m = w') (h : IsS61 w0 W g f0) : IsS61 w0 w' g f0 := by subst hq; exact IsS61.drewN h m
theorem IsS61.apart {w0 W : World} {g : Nat} {f0 : ByteArray} {α : Type} {d : Kd α} {e : Nat} {base : Nat} {ok : Nat → Prop} {v : Value} {xs : List α} (h : IsS61 w0 W g f0) (ho : d.R e W base ok v xs) (ht : ∀ q, q ∈ e :: d.E → q ≠ 61) : d.R e W base (fun k => ok k ∧ k ≠ g) v xs := by
 obtain ⟨hb, hg⟩ := h
 exact Kd.R_types ho hb ht
theorem IsS61.own_ne {w0 W : World} {g : Nat} {f0 : ByteArray} {α : Type} {d : Kd α} {e : Nat} {base : Nat} {ok : Nat → Prop} {v : Value} {xs : List α} (h : IsS61 w0 W g f0) (ho : d.R e W base ok v xs) (ht : e ≠ 61) : some g ≠ v.ownBlock := by
 obtain ⟨hb, hg⟩ := h
 exact Kd.R_ne ho hb ht
theorem IsS61.lt {w0 W : World} {g : Nat} {f0 : ByteArray} (h : IsS61 w0 W g f0) : g < W.heap.size := by
 obtain ⟨hb, hg⟩ := h
 exact blk_lt hb
theorem IsS61.ge {w0 W : World} {g : Nat} {f0 : ByteArray} (h : IsS61 w0 W g f0) : w0.heap.size ≤ g := by
 obtain ⟨hb, hg⟩ := h
 exact hg
theorem IsS61.far {w0 W : World} {g : Nat} {f0 : ByteArray} {p : Addr} (h : IsS61 w0 W g f0) (hne : g ≠ p.block) (u : Value) : IsS61 w0 (W.setCell p u) g f0 := by
 obtain ⟨hb, hg⟩ := h
 exact ⟨blk_far hb hne u, hg⟩
theorem cellS61_0 {W : World} {g : Nat} {f0 : ByteArray} (h : W.heap[g]? = some (.cells #[.string f0] 61 (0, 0))) : W.cell? ⟨g, 0, none⟩ = some (.string f0) := (blk_cell h 0).trans rfl
theorem IsS61.set_0 {w0 W : World} {g : Nat} {f0 : ByteArray} (h : IsS61 w0 W g f0) (x : ByteArray) : IsS61 w0 (W.setCell ⟨g, 0, none⟩ (.string x)) g x := by
 obtain ⟨hb, hg⟩ := h
 exact ⟨by simpa using blk_set hb 0 (.string x), hg⟩
/-! ### impl_parts_word: function 28 -/
def impl_parts_word.f (s0_0 : ByteArray) : Option (ByteArray × ByteArray) := (strings_Cut.f s0_0 (⟨#[32]⟩ : ByteArray)).bind fun bt322 => (some (bt322.1, bt322.2.1))
set_option maxHeartbeats 8000000 in
set_option maxRecDepth 100000 in
theorem impl_parts_word.calls (g : Nat) (s0_0 : ByteArray) (r1 : ByteArray) (r2 : ByteArray) (w0 w : World) (hI : IsS61 w0 w g s0_0) (hB : Below w0.heap.size w0 w) (hGM : GlM w0) (h : impl_parts_word.f s0_0 = some (r1, r2)) :
  Calls Tryz.prog 28 #[.pointer (some ⟨g, 0, none⟩)] w fun e w' => e = .returned (.string r1) ∧ IsS61 w0 w' g r2 ∧ Below w0.heap.size w0 w' ∧ KeepBut w w' g none := by
 have HI0 := Aside0.mk hI
 have HK := Aside0.mk (KeepBut.refl w g none)
 have HL := Aside0.mk hB.size
 clear hI
 have HW0 := Aside0.mk hB.size
 have HB := Aside0.mk hB
 clear hB
 have H : ((strings_Cut.f s0_0 (⟨#[32]⟩ : ByteArray)).bind fun bt322 => (some (bt322.1, bt322.2.1))) = some (r1, r2) := h
 clear h
 obtain ⟨⟨t322, t323, t324⟩, A2, H⟩ := zbi H
 try dsimp only at H
 simp only [Option.some.injEq, Prod.mk.injEq] at H
 obtain ⟨rfl, rfl⟩ := H
 obtain ⟨HGz3, hgz3⟩ := HI0.out
 have q3_0 := cellS61_0 HGz3
 have f3_0 := blk_frozen HGz3 0
 clear HGz3 hgz3
 go_enter Tryz.func28, Tryz.ntmps28
 go_wp2_with (first | ((with_reducible refine gate_callee (f := 61) rfl ?_); refine goesL_ (some 11) rfl rfl Tryz.func61 (by kernel_rfl) rfl #[.string s0_0, .string (⟨#[32]⟩ : ByteArray)] rfl (by (try simp only [List.map_toArray, List.map_cons, List.map_nil]); first | done | rfl | (simp only [List.length_drop, List.length_take]; rfl)) ?_; (with_reducible refine (strings_Cut.calls s0_0 (⟨#[32]⟩ : ByteArray) t322 t323 t324 _ ?side1 A2.out).mono ?_); (case side1 => exact GlM.below hGM (by repeat (first | (with_reducible first | exact HB.out | apply below_alloc | apply pw_below_drewN | apply below_drew1 | refine below_set ?_ (IsS61.ge HI0.out)) | exact HB.out))); rintro e w' ⟨rfl, ⟨nd, rfl⟩⟩; refine ⟨_, rfl, ?_⟩))
 go_ret
 exact ⟨(by first | rfl | (simp [errW_none, errW_some] <;> rfl) | (simp [*, errW_none, errW_some] <;> rfl)), (by repeat (first | (with_reducible first | exact HI0.out | apply IsS61.alloc | apply IsS61.drewN | apply IsS61.drew | apply IsS61.set_0) | exact HI0.out)), (by repeat (first | (with_reducible first | exact HB.out | apply below_alloc | apply pw_below_drewN | apply below_drew1 | refine below_set ?_ (IsS61.ge HI0.out)) | exact HB.out)), (by repeat (first | (with_reducible first | exact HK.out | apply KeepBut.set_ | apply keep_drewN | apply keep_drew | apply keep_alloc) | exact HK.out))⟩
end Go.Proofs.YtnlembpmcbnpnaaGreatDoor.X
namespace Go.Proofs.YtnlembpmcbnpnaaGreatDoor.X
open Go.RowKit Go.Proofs.YtnlembpmcbnpnaaGreatDoorW.PrintWords Go.Proofs.YtnlembpmcbnpnaaGreatDoorW.PrintLast Go.Proofs.YtnlembpmcbnpnaaGreatDoorW.PrintMore
set_option linter.unusedVariables false
set_option linter.unusedSimpArgs false
/-! ### stringslite_HasPrefix: function 103 -/
def stringslite_HasPrefix.f (a0 : ByteArray) (a1 : ByteArray) : Option (Bool) := if (a0.size : Int) ≥ (a1.size : Int) then (if 0 ≤ (a1.size : Int) then (if (a1.size : Int) ≤ (a0.size : Int) then (some ((a0.extract 0 ((a1.size : Int) : Int).toNat).toList == a1.toList)) else (none)) else (none)) else (some false)
set_option maxHeartbeats 8000000 in
set_option maxRecDepth 100000 in
theorem stringslite_HasPrefix.calls (a0 : ByteArray) (a1 : ByteArray) (r : Bool) (w : World) (h : stringslite_HasPrefix.f a0 a1 = some r) :
  Calls Tryz.prog 103 #[.string a0, .string a1] w fun e w' => e = .returned (.bool r) ∧ Drawn0 w w' := by
 have H := h
 unfold stringslite_HasPrefix.f at H
 clear h
 by_cases c3 : (a0.size : Int) ≥ (a1.size : Int)
 ·rw [if_pos c3] at H
  have c3b0 : decide ((a1.size : Int) ≤ (a0.size : Int)) = true := decide_eq_true c3
  have c3b1 : decide (a1.size ≤ a0.size) = true := decide_eq_true (Int.ofNat_le.mp c3)
  clear c3
  by_cases c4 : 0 ≤ (a1.size : Int)
  ·rw [if_pos c4] at H
   have c4b0 := eq_true c4
   have c4b1 : decide (0 ≤ (a1.size : Int)) = true := decide_eq_true c4
   clear c4
   by_cases c5 : (a1.size : Int) ≤ (a0.size : Int)
   ·rw [if_pos c5] at H
    have c5b0 := eq_true c5
    have c5b1 : decide ((a1.size : Int) ≤ (a0.size : Int)) = true := decide_eq_true c5
    clear c5
    obtain rfl := Option.some.inj H
    go_enter Tryz.func103, Tryz.ntmps103
    go_wp2
    go_ret
    exact ⟨(by first | rfl | (simp; done) | (simp [*]; done)), (by repeat (first | exact Drawn0.refl _ | apply Drawn0.step))⟩
   ·rw [if_neg c5] at H
    exact absurd H (by simp)
  ·rw [if_neg c4] at H
   exact absurd H (by simp)
 ·rw [if_neg c3] at H
  have c3b0 : decide ((a1.size : Int) ≤ (a0.size : Int)) = false := decide_eq_false c3
  have c3b1 : decide (a1.size ≤ a0.size) = false := decide_eq_false (fun h => c3 (Int.ofNat_le.mpr h))
  clear c3
  obtain rfl := Option.some.inj H
  go_enter Tryz.func103, Tryz.ntmps103
  go_wp2
  go_ret
  exact ⟨(by first | rfl | (simp; done) | (simp [*]; done)), (by repeat (first | exact Drawn0.refl _ | apply Drawn0.step))⟩
/-! ### stringslite_TrimPrefix: function 86 -/
def stringslite_TrimPrefix.f (a0 : ByteArray) (a1 : ByteArray) : Option (ByteArray) := (stringslite_HasPrefix.f a0 a1).bind fun t325 => (if t325 = true then (if 0 ≤ (a1.size : Int) then (if (a1.size : Int) ≤ (a0.size : Int) then (some (a0.extract ((a1.size : Int) : Int).toNat a0.size)) else (none)) else (none)) else (some a0))
set_option maxHeartbeats 8000000 in
set_option maxRecDepth 100000 in
theorem stringslite_TrimPrefix.calls (a0 : ByteArray) (a1 : ByteArray) (r : ByteArray) (w : World) (h : stringslite_TrimPrefix.f a0 a1 = some r) :
  Calls Tryz.prog 86 #[.string a0, .string a1] w fun e w' => e = .returned (.string r) ∧ Drawn0 w w' := by
 have H := h
 unfold stringslite_TrimPrefix.f at H
 clear h
 obtain ⟨t325, A3, H⟩ := zbi H
 have HS4 := Aside0.mk H
 clear H
 go_enter Tryz.func86, Tryz.ntmps86
 go_upto_if 7 with (first | ((with_reducible refine gate_callee (f := 103) rfl ?_); refine goesL_ (some 7) rfl rfl Tryz.func103 (by kernel_rfl) rfl #[.string a0, .string a1] rfl (by (try simp only [List.map_toArray, List.map_cons, List.map_nil]); first | done | rfl | (simp only [List.length_drop, List.length_take]; rfl)) ?_; (with_reducible refine (stringslite_HasPrefix.calls a0 a1 t325 _ A3.out).mono ?_); rintro e w' ⟨rfl, ⟨nd, rfl⟩⟩; refine ⟨_, rfl, ?_⟩))
 (try simp only [Act.put, List.setIfInBounds_toArray, List.set_cons_zero, List.set_cons_succ])
 have H := HS4.out
 clear HS4
 by_cases c5 : t325 = true
 ·subst c5
  rw [if_pos rfl] at H
  by_cases c6 : 0 ≤ (a1.size : Int)
  ·rw [if_pos c6] at H
   have c6b0 := eq_true c6
   have c6b1 : decide (0 ≤ (a1.size : Int)) = true := decide_eq_true c6
   clear c6
   by_cases c7 : (a1.size : Int) ≤ (a0.size : Int)
   ·rw [if_pos c7] at H
    have c7b0 := eq_true c7
    have c7b1 : decide ((a1.size : Int) ≤ (a0.size : Int)) = true := decide_eq_true c7
    clear c7
    obtain rfl := Option.some.inj H
    go_wp2
    go_ret
    exact ⟨(by first | rfl | (simp; done) | (simp [*]; done)), (by repeat (first | exact Drawn0.refl _ | apply Drawn0.step))⟩
   ·rw [if_neg c7] at H
    exact absurd H (by simp)
  ·rw [if_neg c6] at H
   exact absurd H (by simp)
 ·replace c5 := Bool.eq_false_iff.mpr c5
  subst c5
  rw [if_neg (show ¬ (false = true) by decide)] at H
  obtain rfl := Option.some.inj H
  go_wp2
  go_ret
  exact ⟨(by first | rfl | (simp; done) | (simp [*]; done)), (by repeat (first | exact Drawn0.refl _ | apply Drawn0.step))⟩
/-! ### strings_TrimPrefix: function 64 -/
def strings_TrimPrefix.f (a0 : ByteArray) (a1 : ByteArray) : Option (ByteArray) := (stringslite_TrimPrefix.f a0 a1).bind fun t326 => (some t326)
set_option maxHeartbeats 8000000 in
set_option maxRecDepth 100000 in
theorem strings_TrimPrefix.calls (a0 : ByteArray) (a1 : ByteArray) (r : ByteArray) (w : World) (h : strings_TrimPrefix.f a0 a1 = some r) :
  Calls Tryz.prog 64 #[.string a0, .string a1] w fun e w' => e = .returned (.string r) ∧ Drawn0 w w' := by
 have H : ((stringslite_TrimPrefix.f a0 a1).bind fun t326 => (some t326)) = some r := h
 clear h
 obtain ⟨t326, A3, H⟩ := zbi H
 obtain rfl := Option.some.inj H
 go_enter Tryz.func64, Tryz.ntmps64
 go_wp2_with (first | ((with_reducible refine gate_callee (f := 86) rfl ?_); refine goesL_ (some 7) rfl rfl Tryz.func86 (by kernel_rfl) rfl #[.string a0, .string a1] rfl (by (try simp only [List.map_toArray, List.map_cons, List.map_nil]); first | done | rfl | (simp only [List.length_drop, List.length_take]; rfl)) ?_; (with_reducible refine (stringslite_TrimPrefix.calls a0 a1 t326 _ A3.out).mono ?_); rintro e w' ⟨rfl, ⟨nd, rfl⟩⟩; refine ⟨_, rfl, ?_⟩))
 go_ret
 exact ⟨(by first | rfl | (simp; done) | (simp [*]; done)), (by repeat (first | exact Drawn0.refl _ | apply Drawn0.step))⟩
end Go.Proofs.YtnlembpmcbnpnaaGreatDoor.X
/- A condition on package-level variables: strconv.ErrSyntax and strconv.ErrRange hold errors that are not nil. Kept by every world that leaves what lay below as it was. No condition on inputs. -/
namespace Go.Proofs.YtnlembpmcbnpnaaGreatDoor.X
open Go.RowKit Go.Proofs.YtnlembpmcbnpnaaGreatDoorW.PrintWords
def GlE (w : World) : Prop := (∃ tp p, w.cell? ⟨1, 0, none⟩ = some (.iface tp p)) ∧ (∃ tp p, w.cell? ⟨2, 0, none⟩ = some (.iface tp p))
theorem GlE.below {w W : World} (h : GlE w) (hb : Below w.heap.size w W) : GlE W := by
  obtain ⟨⟨t1, p1, h1⟩, ⟨t2, p2, h2⟩⟩ := h
  exact ⟨⟨t1, p1, pw_cell_below hb h1⟩, ⟨t2, p2, pw_cell_below hb h2⟩⟩
end Go.Proofs.YtnlembpmcbnpnaaGreatDoor.X
/- The contracts of strconv.ParseInt (base 10, 64 bits) and strconv.Atoi at every text: the number, and whether there is an error. Condition: texts of at most 281474976710656 bytes; strconv.ErrSyntax and strconv.ErrRange hold errors. -/
namespace Go.Proofs.YtnlembpmcbnpnaaGreatDoor.X
open Go Go.RowKit Go.Proofs.YtnlembpmcbnpnaaGreatDoorW.PrintWords
def piV (s : ByteArray) : Int := match Lib.parseIntB 64 s.data.toList with | .ok v => v | .range => Lib.intSat 64 s.data.toList | _ => 0
theorem parseInt_any (s : ByteArray) (w : World) (hGE : GlE w) (hs : s.size ≤ 281474976710656) :
    Calls Tryz.prog 62 #[.string s, .int .i64 10, .int .i64 64] w fun e w' => ∃ ev, e = .returned (.tuple #[.int .i64 (piV s), ev]) ∧ Below w.heap.size w w' := by
  obtain ⟨⟨t1, p1, h1⟩, ⟨t2, p2, h2⟩⟩ := hGE
  unfold piV
  cases hp : Lib.parseIntB 64 s.data.toList
  · rename_i v
    refine (Tryz.strconv_ParseInt_10_at64_ok s (by omega) v hp w).mono ?_
    rintro e w' ⟨rfl, hw⟩
    refine ⟨_, rfl, ?_⟩
    rcases hw with rfl | ⟨t, rfl⟩
    · exact Below.refl _ _
    · exact bytes_below (Below.refl _ _) (Nat.le_refl _) _ _
  · refine (Any.strconv_ParseInt_10_at64_syntax Tryz.laysC174 s hs hp _ w h1 (.inr ⟨_, _, rfl⟩)).mono ?_
    rintro e w' ⟨n, rfl, _, _, hb⟩
    exact ⟨_, rfl, hb⟩
  · refine (Tryz.strconv_ParseInt_10_at64_range s hs hp _ w h2 (.inr ⟨_, _, rfl⟩)).mono ?_
    rintro e w' ⟨n, rfl, _, _, hb⟩
    exact ⟨_, rfl, hb⟩
def atoiV (s : ByteArray) : Option Int := match Lib.atoiAll s.data.toList with | .ok v => some v | _ => none
theorem atoi_any (s : ByteArray) (w : World) (hGE : GlE w) (hs : s.size ≤ 281474976710656) :
    Calls Tryz.prog 63 #[.string s] w fun e w' => ∃ v ev, e = .returned (.tuple #[.int .i64 v, ev]) ∧ Below w.heap.size w w' ∧ (match atoiV s with | some x => v = x ∧ ev = .nilIface | none => ∃ t p, ev = .iface t p) := by
  obtain ⟨⟨t1, p1, h1⟩, ⟨t2, p2, h2⟩⟩ := hGE
  unfold atoiV
  cases hp : Lib.atoiAll s.data.toList
  · rename_i v
    refine (Tryz.strconv_Atoi_ok s (by omega) v hp w).mono ?_
    rintro e w' ⟨rfl, hw⟩
    refine ⟨_, _, rfl, ?_, rfl, rfl⟩
    rcases hw with rfl | ⟨t, rfl⟩
    · exact Below.refl _ _
    · exact bytes_below (Below.refl _ _) (Nat.le_refl _) _ _
  · refine (Any.strconv_Atoi_syntax Tryz.laysC172 s hs hp _ w h1 (.inr ⟨_, _, rfl⟩)).mono ?_
    rintro e w' ⟨n, rfl, _, _, hb⟩
    exact ⟨_, _, rfl, hb, _, _, rfl⟩
  · refine (Tryz.strconv_Atoi_range s hs hp _ w h2 (.inr ⟨_, _, rfl⟩)).mono ?_
    rintro e w' ⟨n, rfl, _, _, hb⟩
    exact ⟨_, _, rfl, hb, _, _, rfl⟩
end Go.Proofs.YtnlembpmcbnpnaaGreatDoor.X
/- What (*impl.parts).number and (*impl.parts).str do, at every text: the contracts in the form in which this seat's printed functions are told. Condition: texts shorter than 4294967281 bytes; strconv.ErrSyntax and strconv.ErrRange hold errors. -/
namespace Go.Proofs.YtnlembpmcbnpnaaGreatDoor.X
open Go Go.RowKit Go.Proofs.YtnlembpmcbnpnaaGreatDoorW.PrintWords Go.Proofs.YtnlembpmcbnpnaaGreatDoorW.PrintLast Go.Proofs.YtnlembpmcbnpnaaGreatDoorW.PrintMore
set_option linter.unusedVariables false
set_option linter.unusedSimpArgs false
def impl_parts_number.f (s0_0 : ByteArray) : Option (Int × ByteArray) := (impl_parts_word.f s0_0).bind fun t => if t.1.size ≤ 281474976710656 then some (piV t.1, t.2) else none
set_option maxHeartbeats 4000000 in
set_option maxRecDepth 100000 in
theorem impl_parts_number.calls (g : Nat) (s0_0 : ByteArray) (r1 : Int) (r2 : ByteArray) (w0 w : World) (hI : IsS61 w0 w g s0_0) (hB : Below w0.heap.size w0 w) (hGE : GlE w0) (hGM : GlM w0) (h : impl_parts_number.f s0_0 = some (r1, r2)) :
    Calls Tryz.prog 29 #[.pointer (some ⟨g, 0, none⟩)] w fun e w' => e = .returned (.int .i64 r1) ∧ IsS61 w0 w' g r2 ∧ Below w0.heap.size w0 w' ∧ KeepBut w w' g none := by
  obtain ⟨⟨t1, t2⟩, h1, h2⟩ := Option.bind_eq_some_iff.1 h
  dsimp only at h2
  split at h2
  · rename_i hs
    simp only [Option.some.injEq, Prod.mk.injEq] at h2
    obtain ⟨rfl, rfl⟩ := h2
    clear h
    have HW := Aside0.mk (impl_parts_word.calls g s0_0 t1 t2 w0 w hI hB hGM h1)
    have HS := Aside0.mk hs
    have HE := Aside0.mk hGE
    clear hI hB hGM hGE h1 hs
    go_enter Tryz.func29, Tryz.ntmps29
    go_wp2_with (first | (go_at_call 28; (with_reducible refine HW.out.mono ?_); rintro e w1 ⟨rfl, hi1, hb1, hk1⟩; have HI1 := Aside0.mk hi1; have HB1 := Aside0.mk hb1; have HK1 := Aside0.mk hk1; clear hi1 hb1 hk1) | (go_at_call 62; (with_reducible refine (parseInt_any t1 _ (HE.out.below HB1.out) HS.out).mono ?_); rintro e w2 ⟨ev, rfl, hb2⟩; have HB2 := Aside0.mk hb2; clear hb2))
    go_ret
    exact ⟨rfl, HI1.out.below HB2.out, HB1.out.trans (HB2.out.mono HB1.out.size), HK1.out.trans (KeepBut.of_below HB2.out g none) (.inl rfl)⟩
  · cases h2
theorem atoi_some (s : ByteArray) (x : Int) (hx : atoiV s = some x) (w : World) (hGE : GlE w) (hs : s.size ≤ 281474976710656) :
    Calls Tryz.prog 63 #[.string s] w fun e w' => e = .returned (.tuple #[.int .i64 x, .nilIface]) ∧ Below w.heap.size w w' := by
  refine (atoi_any s w hGE hs).mono ?_
  rintro e w' ⟨v, ev, rfl, hb, hm⟩
  rw [hx] at hm
  obtain ⟨rfl, rfl⟩ := hm
  exact ⟨rfl, hb⟩
theorem atoi_none (s : ByteArray) (hx : atoiV s = none) (w : World) (hGE : GlE w) (hs : s.size ≤ 281474976710656) :
    Calls Tryz.prog 63 #[.string s] w fun e w' => ∃ v t p, e = .returned (.tuple #[.int .i64 v, .iface t p]) ∧ Below w.heap.size w w' := by
  refine (atoi_any s w hGE hs).mono ?_
  rintro e w' ⟨v, ev, rfl, hb, hm⟩
  rw [hx] at hm
  obtain ⟨t, p, rfl⟩ := hm
  exact ⟨v, t, p, rfl, hb⟩
def impl_parts_str.f (s0_0 : ByteArray) : Option (ByteArray × ByteArray) :=
  (strings_Cut.f s0_0 ⟨#[58]⟩).bind fun t => if t.1.size ≤ 281474976710656 then
    (match atoiV t.1 with
      | none => some (⟨#[]⟩, ⟨#[]⟩)
      | some k => if k < 0 then some (⟨#[]⟩, ⟨#[]⟩) else if (t.2.1.size : Int) < k then some (⟨#[]⟩, ⟨#[]⟩) else
        (strings_TrimPrefix.f (t.2.1.extract k.toNat t.2.1.size) ⟨#[32]⟩).bind fun u => some (t.2.1.extract 0 k.toNat, u)) else none
section
variable (g : Nat) (s0_0 : ByteArray) (t1 t2 : ByteArray) (t3 : Bool) (w0 w : World) (hI : IsS61 w0 w g s0_0) (hB : Below w0.heap.size w0 w) (hGE : GlE w0) (hGM : GlM w0) (h1 : strings_Cut.f s0_0 ⟨#[58]⟩ = some (t1, t2, t3)) (hs : t1.size ≤ 281474976710656)
include hI hB hGE hGM h1 hs
set_option maxHeartbeats 4000000 in
set_option maxRecDepth 100000 in
theorem str_none (hA : atoiV t1 = none) :
    Calls Tryz.prog 30 #[.pointer (some ⟨g, 0, none⟩)] w fun e w' => e = .returned (.string ⟨#[]⟩) ∧ IsS61 w0 w' g ⟨#[]⟩ ∧ Below w0.heap.size w0 w' ∧ KeepBut w w' g none := by
  have hcz0 := cellS61_0 hI.1
  have HI := Aside0.mk hI
  have HB := Aside0.mk hB
  have HE := Aside0.mk hGE
  have HM := Aside0.mk hGM
  have H1 := Aside0.mk h1
  have HS := Aside0.mk hs
  have HA := Aside0.mk hA
  clear hI hB hGE hGM h1 hs hA
  go_enter Tryz.func30, Tryz.ntmps30
  go_wp2_with (first | (go_at_call 61; (with_reducible refine (strings_Cut.calls _ _ t1 t2 t3 _ (HM.out.below HB.out) H1.out).mono ?_); rintro e w1 ⟨rfl, ⟨nd, rfl⟩⟩) | (go_at_call 63; (with_reducible refine (atoi_none t1 HA.out _ (HE.out.below (pw_below_drewN HB.out _)) HS.out).mono ?_); rintro e w2 ⟨v, t, p, rfl, hb2⟩; have HB2 := Aside0.mk (below_step (pw_below_drewN (Below.refl w.heap.size w) nd) hb2); have HI2 := Aside0.mk (HI.out.below HB2.out); have hcz2 := cellS61_0 HI2.out.1; have hfz2 := blk_frozen HI2.out.1 0; clear hb2))
  go_ret
  exact ⟨rfl, HI2.out.set_0 _, below_set (HB.out.trans (HB2.out.mono HB.out.size)) HI2.out.2, (KeepBut.of_below HB2.out g none).set_ _ _⟩
set_option maxHeartbeats 4000000 in
set_option maxRecDepth 100000 in
theorem str_neg (x : Int) (hA : atoiV t1 = some x) (hx : x < 0) :
    Calls Tryz.prog 30 #[.pointer (some ⟨g, 0, none⟩)] w fun e w' => e = .returned (.string ⟨#[]⟩) ∧ IsS61 w0 w' g ⟨#[]⟩ ∧ Below w0.heap.size w0 w' ∧ KeepBut w w' g none := by
  have hcz0 := cellS61_0 hI.1
  have HI := Aside0.mk hI
  have HB := Aside0.mk hB
  have HE := Aside0.mk hGE
  have HM := Aside0.mk hGM
  have H1 := Aside0.mk h1
  have HS := Aside0.mk hs
  have HA := Aside0.mk hA
  have d1 : decide (x < 0) = true := decide_eq_true hx
  clear hI hB hGE hGM h1 hs hA hx
  go_enter Tryz.func30, Tryz.ntmps30
  go_wp2_with (first | (go_at_call 61; (with_reducible refine (strings_Cut.calls _ _ t1 t2 t3 _ (HM.out.below HB.out) H1.out).mono ?_); rintro e w1 ⟨rfl, ⟨nd, rfl⟩⟩) | (go_at_call 63; (with_reducible refine (atoi_some t1 x HA.out _ (HE.out.below (pw_below_drewN HB.out _)) HS.out).mono ?_); rintro e w2 ⟨rfl, hb2⟩; have HB2 := Aside0.mk (below_step (pw_below_drewN (Below.refl w.heap.size w) nd) hb2); have HI2 := Aside0.mk (HI.out.below HB2.out); have hcz2 := cellS61_0 HI2.out.1; have hfz2 := blk_frozen HI2.out.1 0; clear hb2))
  go_ret
  exact ⟨rfl, HI2.out.set_0 _, below_set (HB.out.trans (HB2.out.mono HB.out.size)) HI2.out.2, (KeepBut.of_below HB2.out g none).set_ _ _⟩
set_option maxHeartbeats 4000000 in
set_option maxRecDepth 100000 in
theorem str_far (x : Int) (hA : atoiV t1 = some x) (hx : ¬ x < 0) (hy : (t2.size : Int) < x) :
    Calls Tryz.prog 30 #[.pointer (some ⟨g, 0, none⟩)] w fun e w' => e = .returned (.string ⟨#[]⟩) ∧ IsS61 w0 w' g ⟨#[]⟩ ∧ Below w0.heap.size w0 w' ∧ KeepBut w w' g none := by
  have hcz0 := cellS61_0 hI.1
  have HI := Aside0.mk hI
  have HB := Aside0.mk hB
  have HE := Aside0.mk hGE
  have HM := Aside0.mk hGM
  have H1 := Aside0.mk h1
  have HS := Aside0.mk hs
  have HA := Aside0.mk hA
  have d1 : decide (x < 0) = false := decide_eq_false hx
  have d2 : decide ((t2.size : Int) < x) = true := decide_eq_true hy
  clear hI hB hGE hGM h1 hs hA hx hy
  go_enter Tryz.func30, Tryz.ntmps30
  go_wp2_with (first | (go_at_call 61; (with_reducible refine (strings_Cut.calls _ _ t1 t2 t3 _ (HM.out.below HB.out) H1.out).mono ?_); rintro e w1 ⟨rfl, ⟨nd, rfl⟩⟩) | (go_at_call 63; (with_reducible refine (atoi_some t1 x HA.out _ (HE.out.below (pw_below_drewN HB.out _)) HS.out).mono ?_); rintro e w2 ⟨rfl, hb2⟩; have HB2 := Aside0.mk (below_step (pw_below_drewN (Below.refl w.heap.size w) nd) hb2); have HI2 := Aside0.mk (HI.out.below HB2.out); have hcz2 := cellS61_0 HI2.out.1; have hfz2 := blk_frozen HI2.out.1 0; clear hb2))
  go_ret
  exact ⟨rfl, HI2.out.set_0 _, below_set (HB.out.trans (HB2.out.mono HB.out.size)) HI2.out.2, (KeepBut.of_below HB2.out g none).set_ _ _⟩
set_option maxHeartbeats 4000000 in
set_option maxRecDepth 100000 in
theorem str_yes (x : Int) (hA : atoiV t1 = some x) (hx : ¬ x < 0) (hy : ¬ (t2.size : Int) < x) (u : ByteArray) (hu : strings_TrimPrefix.f (t2.extract x.toNat t2.size) ⟨#[32]⟩ = some u) :
    Calls Tryz.prog 30 #[.pointer (some ⟨g, 0, none⟩)] w fun e w' => e = .returned (.string (t2.extract 0 x.toNat)) ∧ IsS61 w0 w' g u ∧ Below w0.heap.size w0 w' ∧ KeepBut w w' g none := by
  have hcz0 := cellS61_0 hI.1
  have HI := Aside0.mk hI
  have HB := Aside0.mk hB
  have HE := Aside0.mk hGE
  have HM := Aside0.mk hGM
  have H1 := Aside0.mk h1
  have HS := Aside0.mk hs
  have HA := Aside0.mk hA
  have HU := Aside0.mk hu
  have d1 : decide (x < 0) = false := decide_eq_false hx
  have d2 : decide ((t2.size : Int) < x) = false := decide_eq_false hy
  have d3 : (0 ≤ x) = True := eq_true (by omega)
  have d4 : (x ≤ (t2.size : Int)) = True := eq_true (by omega)
  clear hI hB hGE hGM h1 hs hA hx hy hu
  go_enter Tryz.func30, Tryz.ntmps30
  go_wp2_with (first | (go_at_call 61; (with_reducible refine (strings_Cut.calls _ _ t1 t2 t3 _ (HM.out.below HB.out) H1.out).mono ?_); rintro e w1 ⟨rfl, ⟨nd, rfl⟩⟩) | (go_at_call 63; (with_reducible refine (atoi_some t1 x HA.out _ (HE.out.below (pw_below_drewN HB.out _)) HS.out).mono ?_); rintro e w2 ⟨rfl, hb2⟩; have HB2 := Aside0.mk (below_step (pw_below_drewN (Below.refl w.heap.size w) nd) hb2); have HI2 := Aside0.mk (HI.out.below HB2.out); have hcz2 := cellS61_0 HI2.out.1; have hfz2 := blk_frozen HI2.out.1 0; clear hb2) | (go_at_call 64; (with_reducible refine (strings_TrimPrefix.calls _ _ u _ HU.out).mono ?_); rintro e w3 ⟨rfl, ⟨nd3, rfl⟩⟩))
  go_ret
  exact ⟨rfl, (HI2.out.drewN nd3).set_0 _, below_set (pw_below_drewN (HB.out.trans (HB2.out.mono HB.out.size)) nd3) HI2.out.2, (keep_drewN (KeepBut.of_below HB2.out g none) nd3).set_ _ _⟩
end
theorem impl_parts_str.calls (g : Nat) (s0_0 : ByteArray) (r1 r2 : ByteArray) (w0 w : World) (hI : IsS61 w0 w g s0_0) (hB : Below w0.heap.size w0 w) (hGE : GlE w0) (hGM : GlM w0) (h : impl_parts_str.f s0_0 = some (r1, r2)) :
    Calls Tryz.prog 30 #[.pointer (some ⟨g, 0, none⟩)] w fun e w' => e = .returned (.string r1) ∧ IsS61 w0 w' g r2 ∧ Below w0.heap.size w0 w' ∧ KeepBut w w' g none := by
  obtain ⟨⟨t1, t2, t3⟩, h1, h2⟩ := Option.bind_eq_some_iff.1 h
  dsimp only at h2
  split at h2
  · rename_i hs
    cases hA : atoiV t1 with
    | none =>
      rw [hA] at h2
      simp only [Option.some.injEq, Prod.mk.injEq] at h2
      obtain ⟨rfl, rfl⟩ := h2
      exact str_none g s0_0 t1 t2 t3 w0 w hI hB hGE hGM h1 hs hA
    | some x =>
      rw [hA] at h2
      dsimp only at h2
      split at h2
      · rename_i hx
        simp only [Option.some.injEq, Prod.mk.injEq] at h2
        obtain ⟨rfl, rfl⟩ := h2
        exact str_neg g s0_0 t1 t2 t3 w0 w hI hB hGE hGM h1 hs x hA hx
      · rename_i hx
        split at h2
        · rename_i hy
          simp only [Option.some.injEq, Prod.mk.injEq] at h2
          obtain ⟨rfl, rfl⟩ := h2
          exact str_far g s0_0 t1 t2 t3 w0 w hI hB hGE hGM h1 hs x hA hx hy
        · rename_i hy
          obtain ⟨u, hu, h2⟩ := Option.bind_eq_some_iff.1 h2
          simp only [Option.some.injEq, Prod.mk.injEq] at h2
          obtain ⟨rfl, rfl⟩ := h2
          exact str_yes g s0_0 t1 t2 t3 w0 w hI hB hGE hGM h1 hs x hA hx hy u hu
  · cases h2
end Go.Proofs.YtnlembpmcbnpnaaGreatDoor.X
/- Decimal texts: what is written in decimal is read back by ParseInt, Atoi; where Cut cuts. Plain Lean. -/
namespace Go.Proofs.YtnlembpmcbnpnaaGreatDoor.Pure
open Go
set_option linter.unusedVariables false
set_option linter.unusedSimpArgs false
theorem dd_small (n : Nat) (h : n < 10) : Lib.decDigits n = [UInt8.ofNat (48 + n)] := by rw [Lib.decDigits, dif_pos h]
theorem dd_big (n : Nat) (h : ¬ n < 10) : Lib.decDigits n = Lib.decDigits (n / 10) ++ [UInt8.ofNat (48 + n % 10)] := by rw [Lib.decDigits, dif_neg h]
theorem ofNat_dig (d : Nat) (h : d < 10) : (UInt8.ofNat (48 + d)).toNat = 48 + d := by
  rw [UInt8.toNat_ofNat']; omega
theorem dd_dig : ∀ (n : Nat), ∀ b ∈ Lib.decDigits n, 48 ≤ b.toNat ∧ b.toNat ≤ 57 := by
  intro n
  induction n using Nat.strongRecOn with
  | _ n ih =>
    intro b hb
    by_cases h : n < 10
    · rw [dd_small n h, List.mem_singleton] at hb
      subst hb; rw [ofNat_dig n h]; omega
    · rw [dd_big n h] at hb
      rcases List.mem_append.1 hb with hb | hb
      · exact ih (n / 10) (by omega) b hb
      · rw [List.mem_singleton] at hb
        subst hb; rw [ofNat_dig _ (by omega)]; omega
theorem dd_ne (n : Nat) : Lib.decDigits n ≠ [] := by
  by_cases h : n < 10
  · rw [dd_small n h]; simp
  · rw [dd_big n h]; simp
def valD : List UInt8 → Nat → Nat
  | [], a => a
  | b :: r, a => valD r (a * 10 + (b.toNat - 48))
theorem valD_append : ∀ (l r : List UInt8) (a : Nat), valD (l ++ r) a = valD r (valD l a)
  | [], _, _ => rfl
  | b :: l, r, a => by rw [List.cons_append, valD, valD_append l r, valD]
theorem valD_dd : ∀ (n : Nat), valD (Lib.decDigits n) 0 = n := by
  intro n
  induction n using Nat.strongRecOn with
  | _ n ih =>
    by_cases h : n < 10
    · rw [dd_small n h, valD, valD, ofNat_dig n h]; omega
    · rw [dd_big n h, valD_append, ih (n / 10) (by omega), valD, valD, ofNat_dig _ (by omega)]; omega
theorem valD_ge : ∀ (l : List UInt8) (a : Nat), a ≤ valD l a
  | [], a => Nat.le_refl _
  | b :: r, a => by
    rw [valD]
    exact Nat.le_trans (by omega) (valD_ge r _)
theorem parseM_dd (M : Nat) : ∀ (l : List UInt8) (a : Nat), (∀ b ∈ l, 48 ≤ b.toNat ∧ b.toNat ≤ 57) → valD l a ≤ M → valD l a ≤ 1000000000000000000 → Lib.parseUintM M a l = .ok (valD l a)
  | [], a, _, _, _ => rfl
  | b :: r, a, hd, hM, hB => by
    rw [valD] at hM hB ⊢
    have h1 := valD_ge r (a * 10 + (b.toNat - 48))
    unfold Lib.parseUintM
    rw [if_pos (hd b List.mem_cons_self), if_neg (by omega), if_neg (by omega)]
    exact parseM_dd M r _ (fun c hc => hd c (List.mem_cons_of_mem _ hc)) hM hB
theorem parse10_dd : ∀ (l : List UInt8) (a : Nat), (∀ b ∈ l, 48 ≤ b.toNat ∧ b.toNat ≤ 57) → valD l a ≤ 1000000000000000000 → Lib.parseUint10 a l = .ok (valD l a)
  | [], a, _, _ => rfl
  | b :: r, a, hd, hB => by
    rw [valD] at hB ⊢
    have h1 := valD_ge r (a * 10 + (b.toNat - 48))
    unfold Lib.parseUint10
    rw [if_pos (hd b List.mem_cons_self), if_neg (by omega), if_neg (by omega)]
    exact parse10_dd r _ (fun c hc => hd c (List.mem_cons_of_mem _ hc)) hB
theorem parseInt_dd (n : Nat) (h : n ≤ 1000000000000000000) : Lib.parseIntB 64 (Lib.decDigits n) = .ok (n : Int) := by
  have hd := dd_dig n
  have hv := valD_dd n
  have hne := dd_ne n
  have hM := parseM_dd (2 ^ 64 - 1) (Lib.decDigits n) 0 hd (by rw [hv]; omega) (by rw [hv]; omega)
  rw [hv] at hM
  generalize Lib.decDigits n = l at hd hne hM ⊢
  cases l with
  | nil => exact absurd rfl hne
  | cons b r =>
    have hb := hd b List.mem_cons_self
    unfold Lib.parseIntB
    simp only
    rw [if_neg (by omega : ¬ (b.toNat = 43 ∨ b.toNat = 45))]
    unfold Lib.parseUintB
    rw [if_neg (by simp), hM]
    simp only
    rw [if_neg (by omega), if_neg (by omega), if_neg (by omega)]
theorem atoi_dd (n : Nat) (h : n ≤ 1000000000000000000) : Lib.atoiAll (Lib.decDigits n) = .ok (n : Int) := by
  have hd := dd_dig n
  have hv := valD_dd n
  have hne := dd_ne n
  have hM := parse10_dd (Lib.decDigits n) 0 hd (by rw [hv]; omega)
  rw [hv] at hM
  generalize Lib.decDigits n = l at hd hne hM ⊢
  cases l with
  | nil => exact absurd rfl hne
  | cons b r =>
    have hb := hd b List.mem_cons_self
    rw [Lib.atoiAll_plain b r (by omega) (by omega)]
    unfold Lib.parseMag
    rw [if_neg (by simp), hM]
    show (if 9223372036854775808 ≤ n then Lib.NumEnd.range else Lib.NumEnd.ok (n : Int)) = _
    rw [if_neg (by omega)]
theorem dd_len : ∀ (k n : Nat), n < 10 ^ (k + 1) → (Lib.decDigits n).length ≤ k + 1
  | 0, n, h => by rw [dd_small n (by omega)]; exact Nat.le_refl _
  | k + 1, n, h => by
    by_cases h1 : n < 10
    · rw [dd_small n h1]; simp
    · rw [dd_big n h1, List.length_append, List.length_singleton]
      have := dd_len k (n / 10) (by rw [Nat.pow_succ] at h; omega)
      omega
theorem occ_one (s : List UInt8) (c : UInt8) (j : Nat) : Lib.occAt s [c] j = (s[j]? == some c) := by
  unfold Lib.occAt
  have e : s[j]? = (s.drop j)[0]? := by rw [List.getElem?_drop, Nat.add_zero]
  rw [e]
  cases s.drop j with
  | nil => rfl
  | cons x t =>
    rw [List.getElem?_cons_zero]
    show ([c].isPrefixOf (x :: t)) = _
    rw [List.isPrefixOf_cons_cons, List.isPrefixOf_nil_left, Bool.and_true, Bool.eq_iff_iff]
    simp only [beq_iff_eq, Option.some.injEq]
    exact eq_comm
theorem index_one_hit (l r : List UInt8) (c : UInt8) (h : c ∉ l) : Lib.index (l ++ c :: r) [c] = l.length := by
  refine Lib.index_first (by simp) ?_ fun j hj => ?_
  · rw [occ_one]; simp
  · rw [occ_one, List.getElem?_append_left hj, List.getElem?_eq_getElem hj, Bool.eq_false_iff]
    intro e
    have := Option.some.inj (beq_iff_eq.1 e)
    exact h (this ▸ List.getElem_mem hj)
theorem index_one_miss (l : List UInt8) (c : UInt8) (h : c ∉ l) : Lib.index l [c] = -1 := by
  refine Lib.index_none fun j hj => ?_
  rw [occ_one, Bool.eq_false_iff]
  intro e
  exact h (List.mem_of_getElem? (beq_iff_eq.1 e))
theorem cut_hit (l r : List UInt8) (c : UInt8) (h : c ∉ l) : Lib.cut (l ++ c :: r) [c] = (l, r, true) := by
  unfold Lib.cut
  rw [index_one_hit l r c h, if_pos (by omega), Int.toNat_natCast, List.take_left', List.length_singleton, List.drop_append]
  · simp
  · rfl
theorem cut_miss (l : List UInt8) (c : UInt8) (h : c ∉ l) : Lib.cut l [c] = (l, [], false) := by
  unfold Lib.cut
  rw [index_one_miss l c h, if_neg (by omega)]
end Go.Proofs.YtnlembpmcbnpnaaGreatDoor.Pure
/- An element of a row. Plain Lean. -/
namespace Go.Proofs.YtnlembpmcbnpnaaGreatDoor.Pure
open Go Go.RowKit Go.Proofs.YtnlembpmcbnpnaaGreatDoorW.PrintWords
theorem wrap_id (x : Int) (h0 : -9223372036854775808 ≤ x) (h1 : x ≤ 9223372036854775807) : wrap64 x = x := by
  unfold wrap64; omega
theorem rd_get (xs : List ByteArray) (i : Nat) (h : i < xs.length) : rdOf ByteArray.empty xs (i : Int) = xs[i] := by
  unfold rdOf; rw [Int.toNat_natCast, List.getD_eq_getElem?_getD, List.getElem?_eq_getElem h]; rfl
end Go.Proofs.YtnlembpmcbnpnaaGreatDoor.Pure
