/- Part 9 of the proof of laws.FnExactUnpackRecord: contracts of functions that it reaches, and laws of what these compute. No condition beyond what each theorem says. -/
import Derived.Test.YtnlembpmcbnpnaaGreatDoorKM2
import Derived.Test.YtnlembpmcbnpnaaGreatDoorKM4
import Derived.Test.YtnlembpmcbnpnaaGreatDoorKM6
namespace Go.Proofs.YtnlembpmcbnpnaaGreatDoor.X
open Go.RowKit Go.Proofs.YtnlembpmcbnpnaaGreatDoorW.PrintWords Go.Proofs.YtnlembpmcbnpnaaGreatDoorW.PrintLast Go.Proofs.YtnlembpmcbnpnaaGreatDoorW.PrintMore
set_option linter.unusedVariables false
set_option linter.unusedSimpArgs false
theorem z19_0_ {P : Prop} (h : P := by repeat (first | (with_reducible first | exact HB.out | apply below_alloc | apply pw_below_drewN | apply below_drew1 | refine below_set ?_ (IsS61.ge HI328.out) | refine below_set ?_ GE327.out | refine below_set ?_ GE329.out) | exact HB.out)) : P := h
theorem z19_1_ {P : Prop} (h : P := by (try simp only [List.map_toArray, List.map_cons, List.map_nil]); first | done | rfl | (simp only [List.length_drop, List.length_take]; rfl)) : P := h
theorem z19_2_ {P : Prop} (h : P := by (with_reducible repeat (first | refine blk_drewN ?_ _ | refine blk_drew ?_ | refine blk_alloc ?_ _)); refine blk_far ?_ NB327_329.out _; (with_reducible repeat (first | refine blk_drewN ?_ _ | refine blk_drew ?_ | refine blk_alloc ?_ _)); exact BK327.out) : P := h
theorem z19_3_ {P : Prop} (h : P := by first | exact Kd.R_nil _ _ _ _ _ | exact Kd.N_nil _ _ _ _ _ | exact Kd.V_nil _ _ _ _ _ | exact Kd.Q_nil _ _ _ _ _ | exact Kd.S_nil _ _ _ _ _) : P := h
theorem z19_4_ {P : Prop} (h : P := by repeat (first | (with_reducible first | exact HB.out | apply below_alloc | apply pw_below_drewN | apply below_drew1 | refine below_set ?_ GE327.out | refine below_set ?_ GE329.out) | exact HB.out)) : P := h
theorem z19_5_ {P : Prop} (h : P := by (with_reducible repeat (first | refine blk_drewN ?_ _ | refine blk_drew ?_ | refine blk_alloc ?_ _)); (iterate 2 (refine blk_far ?_ NB327_329.out _; (with_reducible repeat (first | refine blk_drewN ?_ _ | refine blk_drew ?_ | refine blk_alloc ?_ _)))); exact BK327.out) : P := h
theorem z19_6_ {P : Prop} (h : P := by (with_reducible repeat (first | refine blk_drewN ?_ _ | refine blk_drew ?_ | refine blk_alloc ?_ _)); apply zp13; (with_reducible repeat (first | refine blk_drewN ?_ _ | refine blk_drew ?_ | refine blk_alloc ?_ _)); exact BK327.out) : P := h
theorem z19_7_ {P : Prop} (h : P := by (with_reducible repeat (first | apply Kd.R_alloc | apply Kd.R_drewN | apply Kd.R_drew)); exact HO_330004.out) : P := h
/-! ### impl_UnpackRecord: function 7 -/
mutual
def impl_UnpackRecord.j1 : Nat → ByteArray → Int → Int → Int → ByteArray → List ByteArray → ByteArray → Int → Int → Int → Int → ByteArray → Int → Int → Option (Int × Int × Int × ByteArray × List ByteArray × ByteArray × Int × Int × Int × Int × ByteArray × Int × Int × Bool)
 | 0, _, _, _, _, _, _, _, _, _, _, _, _, _, _ => none
 | k + 1, x0, x330000, x330001, x330002, x330003, x330004, x330005, x330006, x330007, x330008, x330009, x330010, x330011, x330012 => if x0.toList = ([] : List UInt8) then (some (0, 0, 0, (⟨#[]⟩ : ByteArray), ([] : List ByteArray), (⟨#[]⟩ : ByteArray), 0, 0, 0, 0, (⟨#[]⟩ : ByteArray), 0, 0, false)) else ((impl_PackRecord.f k x330000 x330001 x330002 x330003 x330004 x330005 x330006 x330007 x330008 x330009 x330010 x330011 x330012).bind fun t371 => (if t371.toList = x0.toList then (some (x330000, x330001, x330002, x330003, x330004, x330005, x330006, x330007, x330008, x330009, x330010, x330011, x330012, true)) else (some (0, 0, 0, (⟨#[]⟩ : ByteArray), ([] : List ByteArray), (⟨#[]⟩ : ByteArray), 0, 0, 0, 0, (⟨#[]⟩ : ByteArray), 0, 0, false))))
def impl_UnpackRecord.l0 : Nat → ByteArray → Int → ByteArray → Int → Int → Int → ByteArray → List ByteArray → ByteArray → Int → Int → Int → Int → ByteArray → Int → Int → Option (Int × Int × Int × ByteArray × List ByteArray × ByteArray × Int × Int × Int × Int × ByteArray × Int × Int × Bool)
 | 0, _, _, _, _, _, _, _, _, _, _, _, _, _, _, _, _ => none
 | k + 1, x0, x6, x329000, x330000, x330001, x330002, x330003, x330004, x330005, x330006, x330007, x330008, x330009, x330010, x330011, x330012 => if x6 > 0 then (if (x330004.length : Int) < 20 then ((impl_parts_str.f x329000).bind fun bt340 => (if x330004.length < 8796093022208 then (impl_UnpackRecord.l0 k x0 (wrap64 (x6 - 1)) bt340.2 x330000 x330001 x330002 x330003 (x330004 ++ [bt340.1]) x330005 x330006 x330007 x330008 x330009 x330010 x330011 x330012) else (none))) else ((impl_parts_str.f x329000).bind fun bt345 => (impl_UnpackRecord.j1 k x0 x330000 x330001 x330002 x330003 x330004 bt345.1 x330006 x330007 x330008 x330009 x330010 x330011 x330012))) else ((impl_parts_str.f x329000).bind fun bt347 => (impl_UnpackRecord.j1 k x0 x330000 x330001 x330002 x330003 x330004 bt347.1 x330006 x330007 x330008 x330009 x330010 x330011 x330012))
end
def impl_UnpackRecord.f (k : Nat) (a0 : ByteArray) : Option (Int × Int × Int × ByteArray × List ByteArray × ByteArray × Int × Int × Int × Int × ByteArray × Int × Int × Bool) := (impl_parts_word.f a0).bind fun bt330 => (if bt330.1.toList = ([77] : List UInt8) then ((impl_parts_number.f bt330.2).bind fun bt332 => ((impl_parts_number.f bt332.2).bind fun bt334 => ((impl_parts_number.f bt334.2).bind fun bt336 => ((impl_parts_str.f bt336.2).bind fun bt338 => (impl_UnpackRecord.l0 k a0 bt336.1 bt338.2 1 bt332.1 bt334.1 bt338.1 ([] : List ByteArray) (⟨#[]⟩ : ByteArray) 0 0 0 0 (⟨#[]⟩ : ByteArray) 0 0))))) else (if bt330.1.toList = ([86] : List UInt8) then ((impl_parts_number.f bt330.2).bind fun bt349 => ((impl_parts_number.f bt349.2).bind fun bt351 => ((impl_parts_number.f bt351.2).bind fun bt353 => ((impl_parts_number.f bt353.2).bind fun bt355 => ((impl_parts_str.f bt355.2).bind fun bt357 => (impl_UnpackRecord.j1 k a0 2 0 0 (⟨#[]⟩ : ByteArray) ([] : List ByteArray) (⟨#[]⟩ : ByteArray) bt349.1 bt351.1 bt353.1 bt355.1 bt357.1 0 0)))))) else (if bt330.1.toList = ([84] : List UInt8) then ((impl_parts_number.f bt330.2).bind fun bt359 => ((impl_parts_number.f bt359.2).bind fun bt361 => ((impl_parts_number.f bt361.2).bind fun bt363 => (impl_UnpackRecord.j1 k a0 3 0 0 (⟨#[]⟩ : ByteArray) ([] : List ByteArray) (⟨#[]⟩ : ByteArray) bt359.1 0 0 0 (⟨#[]⟩ : ByteArray) bt361.1 bt363.1)))) else (if bt330.1.toList = ([66] : List UInt8) then ((impl_parts_number.f bt330.2).bind fun bt365 => (impl_UnpackRecord.j1 k a0 4 0 0 (⟨#[]⟩ : ByteArray) ([] : List ByteArray) (⟨#[]⟩ : ByteArray) bt365.1 0 0 0 (⟨#[]⟩ : ByteArray) 0 0)) else (if bt330.1.toList = ([68] : List UInt8) then ((impl_parts_number.f bt330.2).bind fun bt367 => (impl_UnpackRecord.j1 k a0 5 0 0 (⟨#[]⟩ : ByteArray) ([] : List ByteArray) (⟨#[]⟩ : ByteArray) bt367.1 0 0 0 (⟨#[]⟩ : ByteArray) 0 0)) else (if bt330.1.toList = ([78] : List UInt8) then ((impl_parts_number.f bt330.2).bind fun bt369 => (impl_UnpackRecord.j1 k a0 6 0 0 (⟨#[]⟩ : ByteArray) ([] : List ByteArray) (⟨#[]⟩ : ByteArray) bt369.1 0 0 0 (⟨#[]⟩ : ByteArray) 0 0)) else (impl_UnpackRecord.j1 k a0 0 0 0 (⟨#[]⟩ : ByteArray) ([] : List ByteArray) (⟨#[]⟩ : ByteArray) 0 0 0 0 (⟨#[]⟩ : ByteArray) 0 0)))))))
theorem impl_UnpackRecord.mono_l : ∀ k, (∀ y0 y1 y2 y3 y4 y5 y6 y7 y8 y9 y10 y11 y12 y13, LeO (impl_UnpackRecord.j1 k y0 y1 y2 y3 y4 y5 y6 y7 y8 y9 y10 y11 y12 y13) (impl_UnpackRecord.j1 (k + 1) y0 y1 y2 y3 y4 y5 y6 y7 y8 y9 y10 y11 y12 y13)) ∧ (∀ y0 y1 y2 y3 y4 y5 y6 y7 y8 y9 y10 y11 y12 y13 y14 y15, LeO (impl_UnpackRecord.l0 k y0 y1 y2 y3 y4 y5 y6 y7 y8 y9 y10 y11 y12 y13 y14 y15) (impl_UnpackRecord.l0 (k + 1) y0 y1 y2 y3 y4 y5 y6 y7 y8 y9 y10 y11 y12 y13 y14 y15))
 | 0 => ⟨fun _ _ _ _ _ _ _ _ _ _ _ _ _ _ r h => by simp [impl_UnpackRecord.j1] at h, fun _ _ _ _ _ _ _ _ _ _ _ _ _ _ _ _ r h => by simp [impl_UnpackRecord.l0] at h⟩
 | k + 1 => by
  obtain ⟨ih0, ih1⟩ := impl_UnpackRecord.mono_l k
  refine ⟨?_, ?_⟩
  ·intro y0 y1 y2 y3 y4 y5 y6 y7 y8 y9 y10 y11 y12 y13
   unfold impl_UnpackRecord.j1
   repeat' first
   | (with_reducible exact ih0 _ _ _ _ _ _ _ _ _ _ _ _ _ _)
   | (with_reducible exact ih1 _ _ _ _ _ _ _ _ _ _ _ _ _ _ _ _)
   | (with_reducible exact impl_PackRecord.mono _ _ _ _ _ _ _ _ _ _ _ _ _ _)
   | (with_reducible exact LeO.refl _)
   | (with_reducible exact LeO.none _)
   | (with_reducible refine LeO.ite ?_ ?_)
   | (with_reducible refine LeO.bind ?_ (fun _ => ?_))
   | exact ih0 _ _ _ _ _ _ _ _ _ _ _ _ _ _
   | exact ih1 _ _ _ _ _ _ _ _ _ _ _ _ _ _ _ _
   | exact impl_PackRecord.mono _ _ _ _ _ _ _ _ _ _ _ _ _ _
   | exact LeO.none _
   | refine LeO.ite ?_ ?_
   | refine LeO.bind ?_ (fun _ => ?_)
  ·intro y0 y1 y2 y3 y4 y5 y6 y7 y8 y9 y10 y11 y12 y13 y14 y15
   unfold impl_UnpackRecord.l0
   repeat' first
   | (with_reducible exact ih0 _ _ _ _ _ _ _ _ _ _ _ _ _ _)
   | (with_reducible exact ih1 _ _ _ _ _ _ _ _ _ _ _ _ _ _ _ _)
   | (with_reducible exact impl_PackRecord.mono _ _ _ _ _ _ _ _ _ _ _ _ _ _)
   | (with_reducible exact LeO.refl _)
   | (with_reducible exact LeO.none _)
   | (with_reducible refine LeO.ite ?_ ?_)
   | (with_reducible refine LeO.bind ?_ (fun _ => ?_))
   | exact ih0 _ _ _ _ _ _ _ _ _ _ _ _ _ _
   | exact ih1 _ _ _ _ _ _ _ _ _ _ _ _ _ _ _ _
   | exact impl_PackRecord.mono _ _ _ _ _ _ _ _ _ _ _ _ _ _
   | exact LeO.none _
   | refine LeO.ite ?_ ?_
   | refine LeO.bind ?_ (fun _ => ?_)
theorem impl_UnpackRecord.mono : ∀ a0 k, LeO (impl_UnpackRecord.f k a0) (impl_UnpackRecord.f (k + 1) a0) := by
 intro a0 k
 obtain ⟨ih0, ih1⟩ := impl_UnpackRecord.mono_l k
 unfold impl_UnpackRecord.f
 repeat' first
   | (with_reducible exact ih0 _ _ _ _ _ _ _ _ _ _ _ _ _ _)
   | (with_reducible exact ih1 _ _ _ _ _ _ _ _ _ _ _ _ _ _ _ _)
   | (with_reducible exact impl_PackRecord.mono _ _ _ _ _ _ _ _ _ _ _ _ _ _)
   | (with_reducible exact LeO.refl _)
   | (with_reducible exact LeO.none _)
   | (with_reducible refine LeO.ite ?_ ?_)
   | (with_reducible refine LeO.bind ?_ (fun _ => ?_))
   | exact ih0 _ _ _ _ _ _ _ _ _ _ _ _ _ _
   | exact ih1 _ _ _ _ _ _ _ _ _ _ _ _ _ _ _ _
   | exact impl_PackRecord.mono _ _ _ _ _ _ _ _ _ _ _ _ _ _
   | exact LeO.none _
   | refine LeO.ite ?_ ?_
   | refine LeO.bind ?_ (fun _ => ?_)
def impl_UnpackRecord.T11 : Bool × List (List Nat × List Nat) := (true, [([], []), ([0], [0]), ([1], [1]), ([], []), ([3], [3]), ([4], [4]), ([2, 5, 4], [2, 5]), ([0, 1, 2, 3, 4, 5, 6], []), ([7, 0, 1, 2, 3, 4, 5, 6], [7]), ([8, 6, 6, 0, 1, 2, 3, 4, 5, 6], [6, 8])])
def impl_UnpackRecord.B11 : List Nat := [0, 1, 3, 0, 8, 24, 63, 127, 255, 511]
theorem impl_UnpackRecord.tab11 : rtab .any (opsOf Tryz.f7 11) = impl_UnpackRecord.T11 := by kernel_rfl
theorem impl_UnpackRecord.bits11 : waitsOk impl_UnpackRecord.T11.2 impl_UnpackRecord.B11 = true := by kernel_rfl
set_option maxHeartbeats 8000000 in
set_option maxRecDepth 100000 in
theorem impl_UnpackRecord.calls (k : Nat) (a0 : ByteArray) (r1 : Int) (r2 : Int) (r3 : Int) (r4 : ByteArray) (r5 : List ByteArray) (r6 : ByteArray) (r7 : Int) (r8 : Int) (r9 : Int) (r10 : Int) (r11 : ByteArray) (r12 : Int) (r13 : Int) (r14 : Bool) (w : World) (hGE : GlE w) (hGI : GlI w) (hGM : GlM w) (h : impl_UnpackRecord.f k a0 = some (r1, r2, r3, r4, r5, r6, r7, r8, r9, r10, r11, r12, r13, r14)) :
  Calls Tryz.prog 7 #[.string a0] w fun e w' => ∃ v4_ : Value, e = .returned (.tuple #[.agg #[.int .i64 r1, .int .i64 r2, .int .i64 r3, .string r4, v4_, .string r6, .int .i64 r7, .int .i64 r8, .int .i64 r9, .int .i64 r10, .string r11, .int .i64 r12, .int .i64 r13], .bool r14]) ∧ Kd.R Kd.string 9 w' w.heap.size (fun _ => True) v4_ r5 ∧ Below w.heap.size w w' := by
 have hu28 := Tryz.underlying28
 have hu61 := Tryz.underlying61
 have HB := Aside0.mk (Below.refl w.heap.size w)
 have H := h
 unfold impl_UnpackRecord.f at H
 clear h
 obtain ⟨⟨t330, t331⟩, A2, H⟩ := zbi H
 try dsimp only at H
 have HC3 := Aside0.mk H
 clear H
 go_enter Tryz.func7, Tryz.ntmps7
 go_upto_block 0 with (first | ((with_reducible refine gate_dst (N := 2) rfl ?_); (try (refine gate_guard (by rfl) ?_; dsimp only)); refine box_event (by rfl) (N := 2) (by rfl) (cs := #[.int .i64 0, .int .i64 0, .int .i64 0, .string (⟨#[]⟩ : ByteArray), .slice none 0 0, .string (⟨#[]⟩ : ByteArray), .int .i64 0, .int .i64 0, .int .i64 0, .int .i64 0, .string (⟨#[]⟩ : ByteArray), .int .i64 0, .int .i64 0]) (t := 28) (by first | (go_simp; done) | (go_simp; rfl)) ?_; intro gb327 hg w4 hbox hb; have BK327 := Aside0.mk (hbox); have GW327 := Aside0.mk ((by rw [hg]; exact (below_size (bq_)) : w.heap.size ≤ gb327)); have GE327 := GW327; replace HB := Aside0.mk (below_step (bq_) hb); clear hb hbox hg) | ((with_reducible refine gate_dst (N := 9) rfl ?_); (try (refine gate_guard (by rfl) ?_; dsimp only)); refine box_event (by rfl) (N := 9) (by rfl) (cs := #[.string a0]) (t := 61) (by first | (go_simp; done) | (go_simp; rfl)) ?_; intro gb328 hg w5 hbox hb; have NB327_328 := Aside0.mk ((by rw [hg]; exact Nat.ne_of_lt (blk_lt (g := gb327) (o := .cells #[.int .i64 0, .int .i64 0, .int .i64 0, .string (⟨#[]⟩ : ByteArray), .slice none 0 0, .string (⟨#[]⟩ : ByteArray), .int .i64 0, .int .i64 0, .int .i64 0, .int .i64 0, .string (⟨#[]⟩ : ByteArray), .int .i64 0, .int .i64 0] 28 (0, 0)) (by (with_reducible repeat (first | refine blk_drewN ?_ _ | refine blk_drew ?_ | refine blk_alloc ?_ _)); exact BK327.out)) : gb327 ≠ gb328)); have NB328_327 := Aside0.mk NB327_328.out.symm; replace BK327 := Aside0.mk (zbb BK327.out hb); have HI328 := Aside0.mk ((show IsS61 w w5 gb328 a0 from ⟨hbox, (by rw [hg]; exact (below_size (by repeat (first | (with_reducible first | exact HB.out | apply below_alloc | apply pw_below_drewN | apply below_drew1 | refine below_set ?_ GE327.out) | exact HB.out))) : w.heap.size ≤ gb328)⟩)); replace HB := Aside0.mk (below_step (by repeat (first | (with_reducible first | exact HB.out | apply below_alloc | apply pw_below_drewN | apply below_drew1 | refine below_set ?_ GE327.out) | exact HB.out)) hb); clear hb hbox hg) | ((with_reducible refine gate_dst (N := 5) rfl ?_); (try (refine gate_guard (by rfl) ?_; dsimp only)); refine box_event (by rfl) (N := 5) (by rfl) (cs := #[.int .i64 0, .int .i64 0, .int .i64 0, .string (⟨#[]⟩ : ByteArray), .slice none 0 0, .string (⟨#[]⟩ : ByteArray), .int .i64 0, .int .i64 0, .int .i64 0, .int .i64 0, .string (⟨#[]⟩ : ByteArray), .int .i64 0, .int .i64 0]) (t := 28) (by first | (go_simp; done) | (go_simp; rfl)) ?_; intro gb329 hg w6 hbox hb; have BK329 := Aside0.mk (hbox); have GW329 := Aside0.mk ((by rw [hg]; exact (below_size (by repeat (first | (with_reducible first | exact HB.out | apply below_alloc | apply pw_below_drewN | apply below_drew1 | refine below_set ?_ (IsS61.ge HI328.out) | refine below_set ?_ GE327.out) | exact HB.out))) : w.heap.size ≤ gb329)); have GE329 := GW329; replace HB := Aside0.mk (below_step (by repeat (first | (with_reducible first | exact HB.out | apply below_alloc | apply pw_below_drewN | apply below_drew1 | refine below_set ?_ (IsS61.ge HI328.out) | refine below_set ?_ GE327.out) | exact HB.out)) hb); have NB327_329 := Aside0.mk ((by rw [hg]; exact Nat.ne_of_lt (blk_lt (g := gb327) (o := .cells #[.int .i64 0, .int .i64 0, .int .i64 0, .string (⟨#[]⟩ : ByteArray), .slice none 0 0, .string (⟨#[]⟩ : ByteArray), .int .i64 0, .int .i64 0, .int .i64 0, .int .i64 0, .string (⟨#[]⟩ : ByteArray), .int .i64 0, .int .i64 0] 28 (0, 0)) (by (with_reducible repeat (first | refine blk_drewN ?_ _ | refine blk_drew ?_ | refine blk_alloc ?_ _)); exact BK327.out)) : gb327 ≠ gb329)); have NB329_327 := Aside0.mk NB327_329.out.symm; replace BK327 := Aside0.mk (zbb BK327.out hb); have NB328_329 := Aside0.mk ((by rw [hg]; exact Nat.ne_of_lt (IsS61.lt (show IsS61 w _ gb328 a0 from by repeat (first | (with_reducible first | exact HI328.out | apply IsS61.alloc | apply IsS61.drewN | apply IsS61.drew | apply IsS61.set_0 | refine IsS61.far ?_ NB328_327.out _) | exact HI328.out))) : gb328 ≠ gb329)); have NB329_328 := Aside0.mk NB328_329.out.symm; replace HI328 := Aside0.mk (IsS61.below (by repeat (first | (with_reducible first | exact HI328.out | apply IsS61.alloc | apply IsS61.drewN | apply IsS61.drew | apply IsS61.set_0 | refine IsS61.far ?_ NB328_327.out _) | exact HI328.out)) hb); clear hb hbox hg; have hnb7 := NB329_327.out; have hnc7 := NB327_329.out; have hnb8 := NB329_328.out; have hnc8 := NB328_329.out; obtain ⟨q9_0, q9_1, q9_2, q9_3, q9_4, q9_5, q9_6, q9_7, q9_8, q9_9, q9_10, q9_11, q9_12⟩ := zc13 BK329.out; obtain ⟨f9_0, f9_1, f9_2, f9_3, f9_4, f9_5, f9_6, f9_7, f9_8, f9_9, f9_10, f9_11, f9_12⟩ := zf13 BK329.out) | ((with_reducible refine gate_callee (f := 28) rfl ?_); refine goesL_ (some 12) rfl rfl Tryz.func28 (by kernel_rfl) rfl #[.pointer (some ⟨gb328, 0, none⟩)] rfl z19_1_ ?_; (with_reducible refine (impl_parts_word.calls gb328 a0 t330 t331 w _ ?side1 ?side2 ?side3 A2.out).mono ?_); (case side1 => exact (by repeat (first | (with_reducible first | exact HI328.out | apply IsS61.alloc | apply IsS61.drewN | apply IsS61.drew | apply IsS61.set_0 | refine IsS61.far ?_ NB328_327.out _ | refine IsS61.far ?_ NB328_329.out _) | exact HI328.out))); (case side2 => exact z19_0_); (case side3 => exact hGM); rintro e w10 ⟨rfl, hi, hb, hk⟩; refine ⟨_, rfl, ?_⟩; replace BK327 := Aside0.mk (KeepBut.blk hk (g' := gb327) (o := .cells #[.int .i64 0, .int .i64 0, .int .i64 0, .string (⟨#[]⟩ : ByteArray), .slice none 0 0, .string (⟨#[]⟩ : ByteArray), .int .i64 0, .int .i64 0, .int .i64 0, .int .i64 0, .string (⟨#[]⟩ : ByteArray), .int .i64 0, .int .i64 0] 28 (0, 0)) (by (with_reducible repeat (first | refine blk_drewN ?_ _ | refine blk_drew ?_ | refine blk_alloc ?_ _)); (iterate 13 (refine blk_far ?_ NB327_329.out _; (with_reducible repeat (first | refine blk_drewN ?_ _ | refine blk_drew ?_ | refine blk_alloc ?_ _)))); exact BK327.out) NB327_328.out (by simp)); replace BK329 := Aside0.mk (KeepBut.blk hk (g' := gb329) (o := .cells #[.int .i64 0, .int .i64 0, .int .i64 0, .string (⟨#[]⟩ : ByteArray), .slice none 0 0, .string (⟨#[]⟩ : ByteArray), .int .i64 0, .int .i64 0, .int .i64 0, .int .i64 0, .string (⟨#[]⟩ : ByteArray), .int .i64 0, .int .i64 0] 28 (0, 0)) (by (with_reducible repeat (first | refine blk_drewN ?_ _ | refine blk_drew ?_ | refine blk_alloc ?_ _)); apply zp13; (with_reducible repeat (first | refine blk_drewN ?_ _ | refine blk_drew ?_ | refine blk_alloc ?_ _)); exact BK329.out) NB329_328.out (by simp)); replace HB := Aside0.mk (hb); replace HI328 := Aside0.mk (hi); clear hb hk hi))
 (try simp only [Act.put, List.setIfInBounds_toArray, List.set_cons_zero, List.set_cons_succ])
 go_cut [] (fun wc => ∃ (kq : Nat) (x330000_2 : Int) (x330001_2 : Int) (x330002_2 : Int) (x330003_2 : ByteArray) (x330004_2 : List ByteArray) (x330005_2 : ByteArray) (x330006_2 : Int) (x330007_2 : Int) (x330008_2 : Int) (x330009_2 : Int) (x330010_2 : ByteArray) (x330011_2 : Int) (x330012_2 : Int) (u330004 : Value), Aside0 (impl_UnpackRecord.j1 kq a0 x330000_2 x330001_2 x330002_2 x330003_2 x330004_2 x330005_2 x330006_2 x330007_2 x330008_2 x330009_2 x330010_2 x330011_2 x330012_2 = some (r1, r2, r3, r4, r5, r6, r7, r8, r9, r10, r11, r12, r13, r14)) ∧ Aside0 (kq ≤ k) ∧ Aside0 (Kd.R Kd.string 9 wc w.heap.size (fun _ => True) u330004 x330004_2) ∧ Aside0 (wc.heap[gb327]? = some (.cells #[.int .i64 0, .int .i64 0, .int .i64 0, .string (⟨#[]⟩ : ByteArray), (.slice none 0 0), .string (⟨#[]⟩ : ByteArray), .int .i64 0, .int .i64 0, .int .i64 0, .int .i64 0, .string (⟨#[]⟩ : ByteArray), .int .i64 0, .int .i64 0] 28 (0, 0))) ∧ Aside0 (wc.heap[gb329]? = some (.cells #[.int .i64 x330000_2, .int .i64 x330001_2, .int .i64 x330002_2, .string x330003_2, u330004, .string x330005_2, .int .i64 x330006_2, .int .i64 x330007_2, .int .i64 x330008_2, .int .i64 x330009_2, .string x330010_2, .int .i64 x330011_2, .int .i64 x330012_2] 28 (0, 0))) ∧ Aside0 (Below w.heap.size w wc))
 case first =>
  have H := HC3.out
  clear HC3
  by_cases c11 : t330.toList = ([77] : List UInt8)
  ·rw [if_pos c11] at H
   have c11b0 : (t330.toList == ([77] : List UInt8)) = true := beq_iff_eq.mpr c11
   have c11b1 : (t330.toList != ([77] : List UInt8)) = false := bne_eq_false_iff_eq.mpr c11
   clear c11
   (first | rw [c11b0] | (simp only [i64_w, i32_w]; rw [c11b0]) | rw [c11b1] | simp only [c11b2, decide_true, decide_false] | skip)
   obtain ⟨⟨t332, t333⟩, A12, H⟩ := zbi H
   try dsimp only at H
   obtain ⟨⟨t334, t335⟩, A13, H⟩ := zbi H
   try dsimp only at H
   obtain ⟨⟨t336, t337⟩, A14, H⟩ := zbi H
   try dsimp only at H
   obtain ⟨⟨t338, t339⟩, A15, H⟩ := zbi H
   try dsimp only at H
   have H' := Aside0.mk H
   clear H
   have hnb16 := NB329_327.out
   have hnc16 := NB327_329.out
   have hnb17 := NB329_328.out
   have hnc17 := NB328_329.out
   obtain ⟨q18_0, q18_1, q18_2, q18_3, q18_4, q18_5, q18_6, q18_7, q18_8, q18_9, q18_10, q18_11, q18_12⟩ := zc13 BK329.out
   obtain ⟨f18_0, f18_1, f18_2, f18_3, f18_4, f18_5, f18_6, f18_7, f18_8, f18_9, f18_10, f18_11, f18_12⟩ := zf13 BK329.out
   go_wp2_with (first | ((with_reducible refine gate_callee (f := 29) rfl ?_); refine goesL_ (some 17) rfl rfl Tryz.func29 (by kernel_rfl) rfl #[.pointer (some ⟨gb328, 0, none⟩)] rfl z19_1_ ?_; (with_reducible refine (impl_parts_number.calls gb328 t331 t332 t333 w _ ?side1 ?side2 ?side3 ?side4 A12.out).mono ?_); (case side1 => exact (by repeat (first | (with_reducible first | exact HI328.out | apply IsS61.alloc | apply IsS61.drewN | apply IsS61.drew | apply IsS61.set_0 | refine IsS61.far ?_ NB328_327.out _ | refine IsS61.far ?_ NB328_329.out _) | exact HI328.out))); (case side2 => exact z19_0_); (case side3 => exact hGE); (case side4 => exact hGM); rintro e w19 ⟨rfl, hi, hb, hk⟩; refine ⟨_, rfl, ?_⟩; replace BK327 := Aside0.mk (KeepBut.blk hk (g' := gb327) (o := .cells #[.int .i64 0, .int .i64 0, .int .i64 0, .string (⟨#[]⟩ : ByteArray), .slice none 0 0, .string (⟨#[]⟩ : ByteArray), .int .i64 0, .int .i64 0, .int .i64 0, .int .i64 0, .string (⟨#[]⟩ : ByteArray), .int .i64 0, .int .i64 0] 28 (0, 0)) z19_2_ NB327_328.out (by simp)); replace BK329 := Aside0.mk (KeepBut.blk hk (g' := gb329) (o := .cells #[.int .i64 1, .int .i64 0, .int .i64 0, .string (⟨#[]⟩ : ByteArray), .slice none 0 0, .string (⟨#[]⟩ : ByteArray), .int .i64 0, .int .i64 0, .int .i64 0, .int .i64 0, .string (⟨#[]⟩ : ByteArray), .int .i64 0, .int .i64 0] 28 (0, 0)) (by (with_reducible repeat (first | refine blk_drewN ?_ _ | refine blk_drew ?_ | refine blk_alloc ?_ _)); refine blk_put (cs := #[.int .i64 0, .int .i64 0, .int .i64 0, .string (⟨#[]⟩ : ByteArray), .slice none 0 0, .string (⟨#[]⟩ : ByteArray), .int .i64 0, .int .i64 0, .int .i64 0, .int .i64 0, .string (⟨#[]⟩ : ByteArray), .int .i64 0, .int .i64 0]) ?_ 0 _ rfl; (with_reducible repeat (first | refine blk_drewN ?_ _ | refine blk_drew ?_ | refine blk_alloc ?_ _)); exact BK329.out) NB329_328.out (by simp)); replace HB := Aside0.mk (hb); replace HI328 := Aside0.mk (hi); clear hb hk hi) | ((with_reducible refine gate_callee (f := 29) rfl ?_); refine goesL_ (some 19) rfl rfl Tryz.func29 (by kernel_rfl) rfl #[.pointer (some ⟨gb328, 0, none⟩)] rfl z19_1_ ?_; (with_reducible refine (impl_parts_number.calls gb328 t333 t334 t335 w _ ?side1 ?side2 ?side3 ?side4 A13.out).mono ?_); (case side1 => exact (by repeat (first | (with_reducible first | exact HI328.out | apply IsS61.alloc | apply IsS61.drewN | apply IsS61.drew | apply IsS61.set_0 | refine IsS61.far ?_ NB328_327.out _ | refine IsS61.far ?_ NB328_329.out _) | exact HI328.out))); (case side2 => exact z19_0_); (case side3 => exact hGE); (case side4 => exact hGM); rintro e w20 ⟨rfl, hi, hb, hk⟩; refine ⟨_, rfl, ?_⟩; replace BK327 := Aside0.mk (zkb BK327.out hk NB327_328.out); replace BK329 := Aside0.mk (zkb BK329.out hk NB329_328.out); replace HB := Aside0.mk (hb); replace HI328 := Aside0.mk (hi); clear hb hk hi; obtain ⟨q21_0, q21_1, q21_2, q21_3, q21_4, q21_5, q21_6, q21_7, q21_8, q21_9, q21_10, q21_11, q21_12⟩ := zc13 BK329.out; obtain ⟨f21_0, f21_1, f21_2, f21_3, f21_4, f21_5, f21_6, f21_7, f21_8, f21_9, f21_10, f21_11, f21_12⟩ := zf13 BK329.out) | ((with_reducible refine gate_callee (f := 29) rfl ?_); refine goesL_ (some 25) rfl rfl Tryz.func29 (by kernel_rfl) rfl #[.pointer (some ⟨gb328, 0, none⟩)] rfl z19_1_ ?_; (with_reducible refine (impl_parts_number.calls gb328 t335 t336 t337 w _ ?side1 ?side2 ?side3 ?side4 A14.out).mono ?_); (case side1 => exact (by repeat (first | (with_reducible first | exact HI328.out | apply IsS61.alloc | apply IsS61.drewN | apply IsS61.drew | apply IsS61.set_0 | refine IsS61.far ?_ NB328_327.out _ | refine IsS61.far ?_ NB328_329.out _) | exact HI328.out))); (case side2 => exact z19_0_); (case side3 => exact hGE); (case side4 => exact hGM); rintro e w22 ⟨rfl, hi, hb, hk⟩; refine ⟨_, rfl, ?_⟩; replace BK327 := Aside0.mk (KeepBut.blk hk (g' := gb327) (o := .cells #[.int .i64 0, .int .i64 0, .int .i64 0, .string (⟨#[]⟩ : ByteArray), .slice none 0 0, .string (⟨#[]⟩ : ByteArray), .int .i64 0, .int .i64 0, .int .i64 0, .int .i64 0, .string (⟨#[]⟩ : ByteArray), .int .i64 0, .int .i64 0] 28 (0, 0)) z19_5_ NB327_328.out (by simp)); replace BK329 := Aside0.mk (KeepBut.blk hk (g' := gb329) (o := .cells #[.int .i64 1, .int .i64 t332, .int .i64 t334, .string (⟨#[]⟩ : ByteArray), .slice none 0 0, .string (⟨#[]⟩ : ByteArray), .int .i64 0, .int .i64 0, .int .i64 0, .int .i64 0, .string (⟨#[]⟩ : ByteArray), .int .i64 0, .int .i64 0] 28 (0, 0)) (by (with_reducible repeat (first | refine blk_drewN ?_ _ | refine blk_drew ?_ | refine blk_alloc ?_ _)); refine blk_put (cs := #[.int .i64 1, .int .i64 t332, .int .i64 0, .string (⟨#[]⟩ : ByteArray), .slice none 0 0, .string (⟨#[]⟩ : ByteArray), .int .i64 0, .int .i64 0, .int .i64 0, .int .i64 0, .string (⟨#[]⟩ : ByteArray), .int .i64 0, .int .i64 0]) ?_ 2 _ rfl; (with_reducible repeat (first | refine blk_drewN ?_ _ | refine blk_drew ?_ | refine blk_alloc ?_ _)); refine blk_put (cs := #[.int .i64 1, .int .i64 0, .int .i64 0, .string (⟨#[]⟩ : ByteArray), .slice none 0 0, .string (⟨#[]⟩ : ByteArray), .int .i64 0, .int .i64 0, .int .i64 0, .int .i64 0, .string (⟨#[]⟩ : ByteArray), .int .i64 0, .int .i64 0]) ?_ 1 _ rfl; (with_reducible repeat (first | refine blk_drewN ?_ _ | refine blk_drew ?_ | refine blk_alloc ?_ _)); exact BK329.out) NB329_328.out (by simp)); replace HB := Aside0.mk (hb); replace HI328 := Aside0.mk (hi); clear hb hk hi) | ((with_reducible refine gate_callee (f := 30) rfl ?_); refine goesL_ (some 27) rfl rfl Tryz.func30 (by kernel_rfl) rfl #[.pointer (some ⟨gb328, 0, none⟩)] rfl z19_1_ ?_; (with_reducible refine (impl_parts_str.calls gb328 t337 t338 t339 w _ ?side1 ?side2 ?side3 ?side4 A15.out).mono ?_); (case side1 => exact (by repeat (first | (with_reducible first | exact HI328.out | apply IsS61.alloc | apply IsS61.drewN | apply IsS61.drew | apply IsS61.set_0 | refine IsS61.far ?_ NB328_327.out _ | refine IsS61.far ?_ NB328_329.out _) | exact HI328.out))); (case side2 => exact z19_0_); (case side3 => exact hGE); (case side4 => exact hGM); rintro e w23 ⟨rfl, hi, hb, hk⟩; refine ⟨_, rfl, ?_⟩; replace BK327 := Aside0.mk (zkb BK327.out hk NB327_328.out); replace BK329 := Aside0.mk (zkb BK329.out hk NB329_328.out); replace HB := Aside0.mk (hb); replace HI328 := Aside0.mk (hi); clear hb hk hi; obtain ⟨q24_0, q24_1, q24_2, q24_3, q24_4, q24_5, q24_6, q24_7, q24_8, q24_9, q24_10, q24_11, q24_12⟩ := zc13 BK329.out; obtain ⟨f24_0, f24_1, f24_2, f24_3, f24_4, f24_5, f24_6, f24_7, f24_8, f24_9, f24_10, f24_11, f24_12⟩ := zf13 BK329.out))
   go_loopg [6] k (fun kq v6 w' => ∃ (x6_1 : Int) (x329000_1 : ByteArray) (x330004_1 : List ByteArray) (u330004 : Value), v6 = .int .i64 x6_1 ∧ Aside0 (impl_UnpackRecord.l0 kq a0 x6_1 x329000_1 1 t332 t334 t338 x330004_1 (⟨#[]⟩ : ByteArray) 0 0 0 0 (⟨#[]⟩ : ByteArray) 0 0 = some (r1, r2, r3, r4, r5, r6, r7, r8, r9, r10, r11, r12, r13, r14)) ∧ Aside0 (kq ≤ k) ∧ Aside0 (Kd.R Kd.string 9 w' w.heap.size (fun _ => True) u330004 x330004_1) ∧ Aside0 (w'.heap[gb327]? = some (.cells #[.int .i64 0, .int .i64 0, .int .i64 0, .string (⟨#[]⟩ : ByteArray), (.slice none 0 0), .string (⟨#[]⟩ : ByteArray), .int .i64 0, .int .i64 0, .int .i64 0, .int .i64 0, .string (⟨#[]⟩ : ByteArray), .int .i64 0, .int .i64 0] 28 (0, 0))) ∧ Aside0 (w'.heap[gb329]? = some (.cells #[.int .i64 1, .int .i64 t332, .int .i64 t334, .string t338, u330004, .string (⟨#[]⟩ : ByteArray), .int .i64 0, .int .i64 0, .int .i64 0, .int .i64 0, .string (⟨#[]⟩ : ByteArray), .int .i64 0, .int .i64 0] 28 (0, 0))) ∧ Aside0 (IsS61 w w' gb328 x329000_1) ∧ Aside0 (Below w.heap.size w w'))
   case atStart => exact ⟨(t336), (t339), (([] : List ByteArray)), (.slice none 0 0), (by first | rfl | (simp; done) | (simp [*]; done)), H', ⟨Nat.le_refl _⟩, ⟨z19_3_⟩, ⟨z19_2_⟩, ⟨(by (with_reducible repeat (first | refine blk_drewN ?_ _ | refine blk_drew ?_ | refine blk_alloc ?_ _)); refine blk_put (cs := #[.int .i64 1, .int .i64 t332, .int .i64 t334, .string (⟨#[]⟩ : ByteArray), .slice none 0 0, .string (⟨#[]⟩ : ByteArray), .int .i64 0, .int .i64 0, .int .i64 0, .int .i64 0, .string (⟨#[]⟩ : ByteArray), .int .i64 0, .int .i64 0]) ?_ 3 _ rfl; (with_reducible repeat (first | refine blk_drewN ?_ _ | refine blk_drew ?_ | refine blk_alloc ?_ _)); exact BK329.out)⟩, ⟨(by repeat (first | (with_reducible first | exact HI328.out | apply IsS61.alloc | apply IsS61.drewN | apply IsS61.drew | apply IsS61.set_0 | refine IsS61.far ?_ NB328_327.out _ | refine IsS61.far ?_ NB328_329.out _) | exact HI328.out))⟩, ⟨z19_0_⟩⟩
   case round =>
    clear H'
    try clear c1
    try clear c2
    try clear p2
    try clear c3
    try clear c7
    try clear c8
    try clear c11
    try clear c11b0
    try clear c11b1
    try clear c16
    try clear c17
    try clear q18_0 q18_1 q18_10 q18_11 q18_12 q18_2 q18_3 q18_4 q18_5 q18_6 q18_7 q18_8 q18_9
    try clear q21_0 q21_1 q21_10 q21_11 q21_12 q21_2 q21_3 q21_4 q21_5 q21_6 q21_7 q21_8 q21_9
    try clear q24_0 q24_1 q24_10 q24_11 q24_12 q24_2 q24_3 q24_4 q24_5 q24_6 q24_7 q24_8 q24_9
    try clear q9_0 q9_1 q9_10 q9_11 q9_12 q9_2 q9_3 q9_4 q9_5 q9_6 q9_7 q9_8 q9_9
    try clear f18_0 f18_1 f18_10 f18_11 f18_12 f18_2 f18_3 f18_4 f18_5 f18_6 f18_7 f18_8 f18_9
    try clear f21_0 f21_1 f21_10 f21_11 f21_12 f21_2 f21_3 f21_4 f21_5 f21_6 f21_7 f21_8 f21_9
    try clear f24_0 f24_1 f24_10 f24_11 f24_12 f24_2 f24_3 f24_4 f24_5 f24_6 f24_7 f24_8 f24_9
    try clear f9_0 f9_1 f9_10 f9_11 f9_12 f9_2 f9_3 f9_4 f9_5 f9_6 f9_7 f9_8 f9_9
    obtain ⟨x6_1, x329000_1, x330004_1, u330004, rfl, HA, HK1, HO_330004, BK327, BK329, HI328, HB⟩ := hrel
    cases gk with
    | zero => exact absurd HA.out (by simp [impl_UnpackRecord.l0])
    | succ k1 =>
     have H := HA.out
     clear HA
     simp only [impl_UnpackRecord.l0] at H
     by_cases c25 : x6_1 > 0
     ·rw [if_pos c25] at H
      have c25b0 : decide (0 < x6_1) = true := decide_eq_true c25
      clear c25
      by_cases c26 : (x330004_1.length : Int) < 20
      ·rw [if_pos c26] at H
       have c26b0 : decide ((x330004_1.length : Int) < 20) = true := decide_eq_true c26
       have c26b1 : decide (x330004_1.length < 20) = true := decide_eq_true (by omega)
       clear c26
       obtain ⟨⟨t340, t341⟩, A27, H⟩ := zbi H
       try dsimp only at H
       by_cases c28 : x330004_1.length < 8796093022208
       ·rw [if_pos c28] at H
        have LMc28 := Aside0.mk c28
        clear c28
        obtain ⟨y342, hy342⟩ : ∃ y_ : List ByteArray, y_ = (x330004_1 ++ [t340]) := ⟨_, rfl⟩
        replace H : (impl_UnpackRecord.l0 k1 a0 (wrap64 (x6_1 - 1)) t341 1 t332 t334 t338 y342 (⟨#[]⟩ : ByteArray) 0 0 0 0 (⟨#[]⟩ : ByteArray) 0 0) = some (r1, r2, r3, r4, r5, r6, r7, r8, r9, r10, r11, r12, r13, r14) := by first | (rw [hy342]; with_reducible exact H) | (have H2_ := (Option.bind_some _ _).symm.trans H; rw [hy342]; with_reducible exact H2_) | (have H2_ := (Option.bind_some _ _).symm.trans H; with_reducible exact H2_) | with_reducible exact H | (rw [hy342]; exact H) | exact H
        have Ny342 := Aside0.mk hy342
        clear hy342
        have H' := Aside0.mk H
        clear H
        have hnb29 := NB329_327.out
        have hnc29 := NB327_329.out
        have hnb30 := NB329_328.out
        have hnc30 := NB328_329.out
        obtain ⟨q31_0, q31_1, q31_2, q31_3, q31_4, q31_5, q31_6, q31_7, q31_8, q31_9, q31_10, q31_11, q31_12⟩ := zc13 BK329.out
        obtain ⟨f31_0, f31_1, f31_2, f31_3, f31_4, f31_5, f31_6, f31_7, f31_8, f31_9, f31_10, f31_11, f31_12⟩ := zf13 BK329.out
        obtain ⟨Ao32, co32, eo32⟩ := Kd.R_slice HO_330004.out
        subst eo32
        try go_wp2
        replace HO_330004 := Aside0.mk (Kd.R_drew HO_330004.out)
        replace BK327 := Aside0.mk (blk_drew BK327.out)
        replace BK329 := Aside0.mk (blk_drew BK329.out)
        replace HI328 := Aside0.mk (IsS61.drew HI328.out)
        replace HB := Aside0.mk (below_drew1 HB.out)
        refine start_ (n := 10) (S := fun w' => w'.cell? ⟨gb329, 0, none⟩ = some (.int .i64 1) ∧ w'.cell? ⟨gb329, 1, none⟩ = some (.int .i64 t332) ∧ w'.cell? ⟨gb329, 2, none⟩ = some (.int .i64 t334) ∧ w'.cell? ⟨gb329, 3, none⟩ = some (.string t338) ∧ w'.cell? ⟨gb329, 4, none⟩ = some (.slice Ao32 x330004_1.length co32) ∧ w'.cell? ⟨gb329, 5, none⟩ = some (.string (⟨#[]⟩ : ByteArray)) ∧ w'.cell? ⟨gb329, 6, none⟩ = some (.int .i64 0) ∧ w'.cell? ⟨gb329, 7, none⟩ = some (.int .i64 0) ∧ w'.cell? ⟨gb329, 8, none⟩ = some (.int .i64 0) ∧ w'.cell? ⟨gb329, 9, none⟩ = some (.int .i64 0) ∧ w'.cell? ⟨gb329, 10, none⟩ = some (.string (⟨#[]⟩ : ByteArray)) ∧ w'.cell? ⟨gb329, 11, none⟩ = some (.int .i64 0) ∧ w'.cell? ⟨gb329, 12, none⟩ = some (.int .i64 0)) (ds := [9]) #[false, false, false, false, false, false, false, false, false, false] (by kernel_rfl) rfl rfl ⟨(blk_cell BK329.out 0).trans rfl, (blk_cell BK329.out 1).trans rfl, (blk_cell BK329.out 2).trans rfl, (blk_cell BK329.out 3).trans rfl, (blk_cell BK329.out 4).trans rfl, (blk_cell BK329.out 5).trans rfl, (blk_cell BK329.out 6).trans rfl, (blk_cell BK329.out 7).trans rfl, (blk_cell BK329.out 8).trans rfl, (blk_cell BK329.out 9).trans rfl, (blk_cell BK329.out 10).trans rfl, (blk_cell BK329.out 11).trans rfl, (blk_cell BK329.out 12).trans rfl⟩ (fun hHeld => ?_); refine with_tabW impl_UnpackRecord.tab11 impl_UnpackRecord.bits11 (fun HT_ HW_ => ?_)
        generalize wr.drew = w33 at HO_330004 BK327 BK329 HI328 HB hHeld ⊢
        refine zpu 0 41 (zfl 10 [0]) HT_ ?_
        refine zpu 1 42 (zfl 10 [0, 1]) HT_ ?_
        refine zpu 3 44 (zfl 10 [0, 1, 3]) HT_ ?_
        refine ztk 2 43 (zfl 10 [0, 1, 2, 3]) HT_ HW_ hHeld ?_
        refine zon 4 45 (zfl 10 [0, 1, 2, 3, 4]) HT_ (fun K hK => ?_)
        refine goes_ Tryz.func30 (by kernel_rfl) rfl #[.pointer (some ⟨gb328, 0, none⟩)] (by rfl) rfl rfl z19_1_ ?_
        with_reducible refine (impl_parts_str.calls gb328 x329000_1 t340 t341 w _ ?side1 ?side2 ?side3 ?side4 A27.out).mono ?_
        (case side1 => exact (by repeat (first | (with_reducible first | exact HI328.out | apply IsS61.alloc | apply IsS61.drewN | apply IsS61.drew | apply IsS61.set_0 | refine IsS61.far ?_ NB328_327.out _ | refine IsS61.far ?_ NB328_329.out _) | exact HI328.out)))
        (case side2 => exact z19_0_)
        (case side3 => exact hGE)
        (case side4 => exact hGM)
        rintro e w34 ⟨rfl, hi, hb, hk⟩
        refine ⟨_, rfl, ?_⟩
        replace HO_330004 := Aside0.mk (Kd.R_mono (Kd.R_keep (IsS61.apart (show IsS61 w _ gb328 x329000_1 from by repeat (first | (with_reducible first | exact HI328.out | apply IsS61.alloc | apply IsS61.drewN | apply IsS61.drew | apply IsS61.set_0 | refine IsS61.far ?_ NB328_327.out _ | refine IsS61.far ?_ NB328_329.out _) | exact HI328.out)) z19_7_ (by decide)) hk (fun _ h => h.2)) (fun _ h => h.1))
        replace BK327 := Aside0.mk (zkb BK327.out hk NB327_328.out)
        replace BK329 := Aside0.mk (zkb BK329.out hk NB329_328.out)
        replace HB := Aside0.mk (hb)
        replace HI328 := Aside0.mk (hi)
        (try clear hb)
        (try clear hb2)
        (try clear hk)
        (try clear hi)
        refine hK.out _ _ ⟨(blk_cell BK329.out 0).trans rfl, (blk_cell BK329.out 1).trans rfl, (blk_cell BK329.out 2).trans rfl, (blk_cell BK329.out 3).trans rfl, (blk_cell BK329.out 4).trans rfl, (blk_cell BK329.out 5).trans rfl, (blk_cell BK329.out 6).trans rfl, (blk_cell BK329.out 7).trans rfl, (blk_cell BK329.out 8).trans rfl, (blk_cell BK329.out 9).trans rfl, (blk_cell BK329.out 10).trans rfl, (blk_cell BK329.out 11).trans rfl, (blk_cell BK329.out 12).trans rfl⟩ (fun hHeld => ?_)
        clear hK K
        refine znm ?_
        refine zon 5 46 (zfl 10 [0, 1, 2, 3, 4, 5]) HT_ (fun K hK => ?_)
        refine value_ (w1 := ?_) (v := ?_) (by rfl) rfl ?_ ?_
        rotate_left 2
        ·go_simp
         constructor
         ·rfl
         ·rfl
        refine hK.out _ _ ⟨(blk_cell (blk_alloc BK329.out _) 0).trans rfl, (blk_cell (blk_alloc BK329.out _) 1).trans rfl, (blk_cell (blk_alloc BK329.out _) 2).trans rfl, (blk_cell (blk_alloc BK329.out _) 3).trans rfl, (blk_cell (blk_alloc BK329.out _) 4).trans rfl, (blk_cell (blk_alloc BK329.out _) 5).trans rfl, (blk_cell (blk_alloc BK329.out _) 6).trans rfl, (blk_cell (blk_alloc BK329.out _) 7).trans rfl, (blk_cell (blk_alloc BK329.out _) 8).trans rfl, (blk_cell (blk_alloc BK329.out _) 9).trans rfl, (blk_cell (blk_alloc BK329.out _) 10).trans rfl, (blk_cell (blk_alloc BK329.out _) 11).trans rfl, (blk_cell (blk_alloc BK329.out _) 12).trans rfl⟩ (fun hHeld => ?_)
        clear hK K
        refine znm ?_
        refine zon 6 47 (zfl 10 [0, 1, 2, 3, 4, 5, 6]) HT_ (fun K hK => ?_)
        refine Kd.R_append_step Kd.string (w0 := w) w.heap.size (by rfl) (.tmp 43) (.tmp 46) 22 9 (.string ⟨#[]⟩) 16 rfl Tryz.underlying22 info9 rfl (by decide) (by omega) (.slice Ao32 x330004_1.length co32) x330004_1 t340 [.string t340] (fun _ => True) (fun _ => False) rfl rfl ?aP (fun _ hk => hk.elim) ?aF ?aO ?aB ?aS ?aL ?_
        (case aP => exact rfl)
        (case aB => exact z19_0_)
        (case aF => exact (fun _ _ => trivial))
        (case aO => exact z19_7_)
        (case aS => exact (below_size z19_0_))
        (case aL => have := LMc28.out; omega)
        intro v343 w35 ho hb hg hat
        rw [← Ny342.out] at ho
        have n0_ := Aside0.mk (blk_grown (g := gb327) (o := .cells #[.int .i64 0, .int .i64 0, .int .i64 0, .string (⟨#[]⟩ : ByteArray), .slice none 0 0, .string (⟨#[]⟩ : ByteArray), .int .i64 0, .int .i64 0, .int .i64 0, .int .i64 0, .string (⟨#[]⟩ : ByteArray), .int .i64 0, .int .i64 0] 28 (0, 0)) (by (with_reducible repeat (first | refine blk_drewN ?_ _ | refine blk_drew ?_ | refine blk_alloc ?_ _)); exact BK327.out) hg (Kd.R_ne HO_330004.out BK327.out (by decide)))
        have n1_ := Aside0.mk (blk_grown (g := gb329) (o := .cells #[.int .i64 1, .int .i64 t332, .int .i64 t334, .string t338, .slice Ao32 x330004_1.length co32, .string (⟨#[]⟩ : ByteArray), .int .i64 0, .int .i64 0, .int .i64 0, .int .i64 0, .string (⟨#[]⟩ : ByteArray), .int .i64 0, .int .i64 0] 28 (0, 0)) (by (with_reducible repeat (first | refine blk_drewN ?_ _ | refine blk_drew ?_ | refine blk_alloc ?_ _)); exact BK329.out) hg (Kd.R_ne HO_330004.out BK329.out (by decide)))
        have n2_ := Aside0.mk (IsS61.grown (by repeat (first | (with_reducible first | exact HI328.out | apply IsS61.alloc | apply IsS61.drewN | apply IsS61.drew | apply IsS61.set_0 | refine IsS61.far ?_ NB328_327.out _ | refine IsS61.far ?_ NB328_329.out _) | exact HI328.out)) hg (IsS61.own_ne HI328.out HO_330004.out (by decide)))
        have n3_ := Aside0.mk (hb)
        have n4_ := Aside0.mk (ho)
        clear BK327
        clear BK329
        clear HI328
        clear HB
        clear HO_330004
        have BK327 := n0_
        have BK329 := n1_
        have HI328 := n2_
        have HB := n3_
        have HO344 := n4_
        clear n0_ n1_ n2_ n3_ n4_
        clear ho hb hg hat
        obtain ⟨Ao36, co36, eo36⟩ := Kd.R_slice HO344.out
        (first | subst eo36 | (injection eo36 with f1_ f2_ f3_; have f4_ := f1_.symm; have f5_ := f3_.symm; clear f1_ f2_ f3_; subst f4_; subst f5_))
        refine hK.out _ _ ⟨(blk_cell BK329.out 0).trans rfl, (blk_cell BK329.out 1).trans rfl, (blk_cell BK329.out 2).trans rfl, (blk_cell BK329.out 3).trans rfl, (blk_cell BK329.out 4).trans rfl, (blk_cell BK329.out 5).trans rfl, (blk_cell BK329.out 6).trans rfl, (blk_cell BK329.out 7).trans rfl, (blk_cell BK329.out 8).trans rfl, (blk_cell BK329.out 9).trans rfl, (blk_cell BK329.out 10).trans rfl, (blk_cell BK329.out 11).trans rfl, (blk_cell BK329.out 12).trans rfl⟩ (fun hHeld => ?_)
        clear hK K
        refine znm ?_
        refine zpu 7 48 (zfl 10 [0, 1, 2, 3, 4, 5, 6, 7]) HT_ ?_
        refine zpu 8 49 (zfl 10 [0, 1, 2, 3, 4, 5, 6, 7, 8]) HT_ ?_
        refine last_ (i := 9) (N := none) #[true, true, true, true, true, true, true, true, true, true] rfl rfl (one_of HT_.out (by kernel_rfl)) (by decide) (fun K hK => ?_)
        have hs37 : w35.cell? ⟨gb329, 4, none⟩ = some (.slice Ao32 x330004_1.length co32) := (blk_cell BK329.out 4).trans rfl
        have hfs37 := blk_frozen BK329.out 4
        have hns37_0 := NB327_329.out
        have hms37_0 := NB329_327.out
        refine skip_ (w1 := ?_) (by rfl) rfl ?_ ?_
        rotate_left
        ·go_simp
         rfl
        refine hK.out _ _ ?_
        clear hK K
        refine done_ (done_of HT_.out (by kernel_rfl)) ?_
        try go_wp2
        go_roundg k1
        case measure => have := HK1.out; omega
        case rel => exact ⟨(wrap64 (x6_1 - 1)), (t341), (y342), (.slice Ao36 y342.length co36), (by first | rfl | (simp; done) | (simp [*]; done)), H', ⟨(by have := HK1.out; omega)⟩, ⟨(by (with_reducible repeat (first | apply Kd.R_alloc | apply Kd.R_drewN | apply Kd.R_drew)); exact Kd.R_mono (Kd.R_far (p := ⟨gb329, 4, none⟩) (Kd.R_types HO344.out BK329.out (by decide)) (fun _ hk => hk.2) (.slice Ao36 y342.length co36)) (fun _ hk => trivial))⟩, ⟨z19_2_⟩, ⟨(by (with_reducible repeat (first | refine blk_drewN ?_ _ | refine blk_drew ?_ | refine blk_alloc ?_ _)); refine blk_put (cs := #[.int .i64 1, .int .i64 t332, .int .i64 t334, .string t338, .slice Ao32 x330004_1.length co32, .string (⟨#[]⟩ : ByteArray), .int .i64 0, .int .i64 0, .int .i64 0, .int .i64 0, .string (⟨#[]⟩ : ByteArray), .int .i64 0, .int .i64 0]) ?_ 4 _ rfl; (with_reducible repeat (first | refine blk_drewN ?_ _ | refine blk_drew ?_ | refine blk_alloc ?_ _)); exact BK329.out)⟩, ⟨(by repeat (first | (with_reducible first | exact HI328.out | apply IsS61.alloc | apply IsS61.drewN | apply IsS61.drew | apply IsS61.set_0 | refine IsS61.far ?_ NB328_327.out _ | refine IsS61.far ?_ NB328_329.out _) | exact HI328.out))⟩, ⟨z19_0_⟩⟩
       ·rw [if_neg c28] at H
        exact absurd H (by simp)
      ·rw [if_neg c26] at H
       have c26b0 : decide ((x330004_1.length : Int) < 20) = false := decide_eq_false c26
       have c26b1 : decide (x330004_1.length < 20) = false := decide_eq_false (by omega)
       clear c26
       obtain ⟨⟨t345, t346⟩, A38, H⟩ := zbi H
       try dsimp only at H
       have H' := Aside0.mk H
       clear H
       have hnb39 := NB329_327.out
       have hnc39 := NB327_329.out
       have hnb40 := NB329_328.out
       have hnc40 := NB328_329.out
       obtain ⟨q41_0, q41_1, q41_2, q41_3, q41_4, q41_5, q41_6, q41_7, q41_8, q41_9, q41_10, q41_11, q41_12⟩ := zc13 BK329.out
       obtain ⟨f41_0, f41_1, f41_2, f41_3, f41_4, f41_5, f41_6, f41_7, f41_8, f41_9, f41_10, f41_11, f41_12⟩ := zf13 BK329.out
       obtain ⟨Ao42, co42, eo42⟩ := Kd.R_slice HO_330004.out
       subst eo42
       go_wp2_with (first | ((with_reducible refine gate_callee (f := 30) rfl ?_); refine goesL_ (some 51) rfl rfl Tryz.func30 (by kernel_rfl) rfl #[.pointer (some ⟨gb328, 0, none⟩)] rfl z19_1_ ?_; (with_reducible refine (impl_parts_str.calls gb328 x329000_1 t345 t346 w _ ?side1 ?side2 ?side3 ?side4 A38.out).mono ?_); (case side1 => exact (by repeat (first | (with_reducible first | exact HI328.out | apply IsS61.alloc | apply IsS61.drewN | apply IsS61.drew | apply IsS61.set_0 | refine IsS61.far ?_ NB328_327.out _ | refine IsS61.far ?_ NB328_329.out _) | exact HI328.out))); (case side2 => exact z19_0_); (case side3 => exact hGE); (case side4 => exact hGM); rintro e w43 ⟨rfl, hi, hb, hk⟩; refine ⟨_, rfl, ?_⟩; replace HO_330004 := Aside0.mk (Kd.R_mono (Kd.R_keep (IsS61.apart (show IsS61 w _ gb328 x329000_1 from by repeat (first | (with_reducible first | exact HI328.out | apply IsS61.alloc | apply IsS61.drewN | apply IsS61.drew | apply IsS61.set_0 | refine IsS61.far ?_ NB328_327.out _ | refine IsS61.far ?_ NB328_329.out _) | exact HI328.out)) z19_7_ (by decide)) hk (fun _ h => h.2)) (fun _ h => h.1)); replace BK327 := Aside0.mk (zkb BK327.out hk NB327_328.out); replace BK329 := Aside0.mk (zkb BK329.out hk NB329_328.out); replace HB := Aside0.mk (hb); replace HI328 := Aside0.mk (hi); clear hb hk hi; obtain ⟨q44_0, q44_1, q44_2, q44_3, q44_4, q44_5, q44_6, q44_7, q44_8, q44_9, q44_10, q44_11, q44_12⟩ := zc13 BK329.out; obtain ⟨f44_0, f44_1, f44_2, f44_3, f44_4, f44_5, f44_6, f44_7, f44_8, f44_9, f44_10, f44_11, f44_12⟩ := zf13 BK329.out))
       go_meet
       case rel => exact ⟨_, (1), (t332), (t334), (t338), (x330004_1), (t345), (0), (0), (0), (0), ((⟨#[]⟩ : ByteArray)), (0), (0), (.slice Ao42 x330004_1.length co42), H', ⟨(by have := HK1.out; first | omega | exact Nat.le_refl _)⟩, ⟨(by (with_reducible repeat (first | apply Kd.R_alloc | apply Kd.R_drewN | apply Kd.R_drew)); exact Kd.R_mono (Kd.R_far (p := ⟨gb329, 5, none⟩) (Kd.R_types HO_330004.out BK329.out (by decide)) (fun _ hk => hk.2) (.string t345)) (fun _ hk => trivial))⟩, ⟨z19_2_⟩, ⟨(by (with_reducible repeat (first | refine blk_drewN ?_ _ | refine blk_drew ?_ | refine blk_alloc ?_ _)); refine blk_put (cs := #[.int .i64 1, .int .i64 t332, .int .i64 t334, .string t338, .slice Ao42 x330004_1.length co42, .string (⟨#[]⟩ : ByteArray), .int .i64 0, .int .i64 0, .int .i64 0, .int .i64 0, .string (⟨#[]⟩ : ByteArray), .int .i64 0, .int .i64 0]) ?_ 5 _ rfl; (with_reducible repeat (first | refine blk_drewN ?_ _ | refine blk_drew ?_ | refine blk_alloc ?_ _)); exact BK329.out)⟩, ⟨z19_0_⟩⟩
     ·rw [if_neg c25] at H
      have c25b0 : decide (0 < x6_1) = false := decide_eq_false c25
      clear c25
      obtain ⟨⟨t347, t348⟩, A45, H⟩ := zbi H
      try dsimp only at H
      have H' := Aside0.mk H
      clear H
      go_wp2_with (first | ((with_reducible refine gate_callee (f := 30) rfl ?_); refine goesL_ (some 51) rfl rfl Tryz.func30 (by kernel_rfl) rfl #[.pointer (some ⟨gb328, 0, none⟩)] rfl z19_1_ ?_; (with_reducible refine (impl_parts_str.calls gb328 x329000_1 t347 t348 w _ ?side1 ?side2 ?side3 ?side4 A45.out).mono ?_); (case side1 => exact (by repeat (first | (with_reducible first | exact HI328.out | apply IsS61.alloc | apply IsS61.drewN | apply IsS61.drew | apply IsS61.set_0 | refine IsS61.far ?_ NB328_327.out _ | refine IsS61.far ?_ NB328_329.out _) | exact HI328.out))); (case side2 => exact z19_0_); (case side3 => exact hGE); (case side4 => exact hGM); rintro e w46 ⟨rfl, hi, hb, hk⟩; refine ⟨_, rfl, ?_⟩; replace HO_330004 := Aside0.mk (Kd.R_mono (Kd.R_keep (IsS61.apart (show IsS61 w _ gb328 x329000_1 from by repeat (first | (with_reducible first | exact HI328.out | apply IsS61.alloc | apply IsS61.drewN | apply IsS61.drew | apply IsS61.set_0 | refine IsS61.far ?_ NB328_327.out _ | refine IsS61.far ?_ NB328_329.out _) | exact HI328.out)) z19_7_ (by decide)) hk (fun _ h => h.2)) (fun _ h => h.1)); replace BK327 := Aside0.mk (zkb BK327.out hk NB327_328.out); replace BK329 := Aside0.mk (zkb BK329.out hk NB329_328.out); replace HB := Aside0.mk (hb); replace HI328 := Aside0.mk (hi); clear hb hk hi; have hnb47 := NB329_327.out; have hnc47 := NB327_329.out; have hnb48 := NB329_328.out; have hnc48 := NB328_329.out; obtain ⟨q49_0, q49_1, q49_2, q49_3, q49_4, q49_5, q49_6, q49_7, q49_8, q49_9, q49_10, q49_11, q49_12⟩ := zc13 BK329.out; obtain ⟨f49_0, f49_1, f49_2, f49_3, f49_4, f49_5, f49_6, f49_7, f49_8, f49_9, f49_10, f49_11, f49_12⟩ := zf13 BK329.out))
      go_meet
      case rel => exact ⟨_, (1), (t332), (t334), (t338), (x330004_1), (t347), (0), (0), (0), (0), ((⟨#[]⟩ : ByteArray)), (0), (0), (u330004), H', ⟨(by have := HK1.out; first | omega | exact Nat.le_refl _)⟩, ⟨(by (with_reducible repeat (first | apply Kd.R_alloc | apply Kd.R_drewN | apply Kd.R_drew)); exact Kd.R_mono (Kd.R_far (p := ⟨gb329, 5, none⟩) (Kd.R_types HO_330004.out BK329.out (by decide)) (fun _ hk => hk.2) (.string t347)) (fun _ hk => trivial))⟩, ⟨z19_2_⟩, ⟨(by (with_reducible repeat (first | refine blk_drewN ?_ _ | refine blk_drew ?_ | refine blk_alloc ?_ _)); refine blk_put (cs := #[.int .i64 1, .int .i64 t332, .int .i64 t334, .string t338, u330004, .string (⟨#[]⟩ : ByteArray), .int .i64 0, .int .i64 0, .int .i64 0, .int .i64 0, .string (⟨#[]⟩ : ByteArray), .int .i64 0, .int .i64 0]) ?_ 5 _ rfl; (with_reducible repeat (first | refine blk_drewN ?_ _ | refine blk_drew ?_ | refine blk_alloc ?_ _)); exact BK329.out)⟩, ⟨z19_0_⟩⟩
  ·rw [if_neg c11] at H
   have c11b0 : (t330.toList == ([77] : List UInt8)) = false := beq_eq_false_iff_ne.mpr c11
   have c11b1 : (t330.toList != ([77] : List UInt8)) = true := bne_iff_ne.mpr c11
   (first | rw [c11b0] | (simp only [i64_w, i32_w]; rw [c11b0]) | rw [c11b1] | simp only [c11b2, decide_true, decide_false] | skip)
   by_cases c50 : t330.toList = ([86] : List UInt8)
   ·rw [if_pos c50] at H
    have c50b0 : (t330.toList == ([86] : List UInt8)) = true := beq_iff_eq.mpr c50
    have c50b1 : (t330.toList != ([86] : List UInt8)) = false := bne_eq_false_iff_eq.mpr c50
    clear c50
    obtain ⟨⟨t349, t350⟩, A51, H⟩ := zbi H
    try dsimp only at H
    obtain ⟨⟨t351, t352⟩, A52, H⟩ := zbi H
    try dsimp only at H
    obtain ⟨⟨t353, t354⟩, A53, H⟩ := zbi H
    try dsimp only at H
    obtain ⟨⟨t355, t356⟩, A54, H⟩ := zbi H
    try dsimp only at H
    obtain ⟨⟨t357, t358⟩, A55, H⟩ := zbi H
    try dsimp only at H
    have H' := Aside0.mk H
    clear H
    have hnb56 := NB329_327.out
    have hnc56 := NB327_329.out
    have hnb57 := NB329_328.out
    have hnc57 := NB328_329.out
    obtain ⟨q58_0, q58_1, q58_2, q58_3, q58_4, q58_5, q58_6, q58_7, q58_8, q58_9, q58_10, q58_11, q58_12⟩ := zc13 BK329.out
    obtain ⟨f58_0, f58_1, f58_2, f58_3, f58_4, f58_5, f58_6, f58_7, f58_8, f58_9, f58_10, f58_11, f58_12⟩ := zf13 BK329.out
    go_wp2_with (first | ((with_reducible refine gate_callee (f := 29) rfl ?_); refine goesL_ (some 58) rfl rfl Tryz.func29 (by kernel_rfl) rfl #[.pointer (some ⟨gb328, 0, none⟩)] rfl z19_1_ ?_; (with_reducible refine (impl_parts_number.calls gb328 t331 t349 t350 w _ ?side1 ?side2 ?side3 ?side4 A51.out).mono ?_); (case side1 => exact (by repeat (first | (with_reducible first | exact HI328.out | apply IsS61.alloc | apply IsS61.drewN | apply IsS61.drew | apply IsS61.set_0 | refine IsS61.far ?_ NB328_327.out _ | refine IsS61.far ?_ NB328_329.out _) | exact HI328.out))); (case side2 => exact z19_0_); (case side3 => exact hGE); (case side4 => exact hGM); rintro e w59 ⟨rfl, hi, hb, hk⟩; refine ⟨_, rfl, ?_⟩; replace BK327 := Aside0.mk (KeepBut.blk hk (g' := gb327) (o := .cells #[.int .i64 0, .int .i64 0, .int .i64 0, .string (⟨#[]⟩ : ByteArray), .slice none 0 0, .string (⟨#[]⟩ : ByteArray), .int .i64 0, .int .i64 0, .int .i64 0, .int .i64 0, .string (⟨#[]⟩ : ByteArray), .int .i64 0, .int .i64 0] 28 (0, 0)) z19_2_ NB327_328.out (by simp)); replace BK329 := Aside0.mk (KeepBut.blk hk (g' := gb329) (o := .cells #[.int .i64 2, .int .i64 0, .int .i64 0, .string (⟨#[]⟩ : ByteArray), .slice none 0 0, .string (⟨#[]⟩ : ByteArray), .int .i64 0, .int .i64 0, .int .i64 0, .int .i64 0, .string (⟨#[]⟩ : ByteArray), .int .i64 0, .int .i64 0] 28 (0, 0)) (by (with_reducible repeat (first | refine blk_drewN ?_ _ | refine blk_drew ?_ | refine blk_alloc ?_ _)); refine blk_put (cs := #[.int .i64 0, .int .i64 0, .int .i64 0, .string (⟨#[]⟩ : ByteArray), .slice none 0 0, .string (⟨#[]⟩ : ByteArray), .int .i64 0, .int .i64 0, .int .i64 0, .int .i64 0, .string (⟨#[]⟩ : ByteArray), .int .i64 0, .int .i64 0]) ?_ 0 _ rfl; (with_reducible repeat (first | refine blk_drewN ?_ _ | refine blk_drew ?_ | refine blk_alloc ?_ _)); exact BK329.out) NB329_328.out (by simp)); replace HB := Aside0.mk (hb); replace HI328 := Aside0.mk (hi); clear hb hk hi) | ((with_reducible refine gate_callee (f := 29) rfl ?_); refine goesL_ (some 60) rfl rfl Tryz.func29 (by kernel_rfl) rfl #[.pointer (some ⟨gb328, 0, none⟩)] rfl z19_1_ ?_; (with_reducible refine (impl_parts_number.calls gb328 t350 t351 t352 w _ ?side1 ?side2 ?side3 ?side4 A52.out).mono ?_); (case side1 => exact (by repeat (first | (with_reducible first | exact HI328.out | apply IsS61.alloc | apply IsS61.drewN | apply IsS61.drew | apply IsS61.set_0 | refine IsS61.far ?_ NB328_327.out _ | refine IsS61.far ?_ NB328_329.out _) | exact HI328.out))); (case side2 => exact z19_0_); (case side3 => exact hGE); (case side4 => exact hGM); rintro e w60 ⟨rfl, hi, hb, hk⟩; refine ⟨_, rfl, ?_⟩; replace BK327 := Aside0.mk (zkb BK327.out hk NB327_328.out); replace BK329 := Aside0.mk (zkb BK329.out hk NB329_328.out); replace HB := Aside0.mk (hb); replace HI328 := Aside0.mk (hi); clear hb hk hi) | ((with_reducible refine gate_callee (f := 29) rfl ?_); refine goesL_ (some 62) rfl rfl Tryz.func29 (by kernel_rfl) rfl #[.pointer (some ⟨gb328, 0, none⟩)] rfl z19_1_ ?_; (with_reducible refine (impl_parts_number.calls gb328 t352 t353 t354 w _ ?side1 ?side2 ?side3 ?side4 A53.out).mono ?_); (case side1 => exact (by repeat (first | (with_reducible first | exact HI328.out | apply IsS61.alloc | apply IsS61.drewN | apply IsS61.drew | apply IsS61.set_0 | refine IsS61.far ?_ NB328_327.out _ | refine IsS61.far ?_ NB328_329.out _) | exact HI328.out))); (case side2 => exact z19_0_); (case side3 => exact hGE); (case side4 => exact hGM); rintro e w61 ⟨rfl, hi, hb, hk⟩; refine ⟨_, rfl, ?_⟩; replace BK327 := Aside0.mk (zkb BK327.out hk NB327_328.out); replace BK329 := Aside0.mk (zkb BK329.out hk NB329_328.out); replace HB := Aside0.mk (hb); replace HI328 := Aside0.mk (hi); clear hb hk hi) | ((with_reducible refine gate_callee (f := 29) rfl ?_); refine goesL_ (some 64) rfl rfl Tryz.func29 (by kernel_rfl) rfl #[.pointer (some ⟨gb328, 0, none⟩)] rfl z19_1_ ?_; (with_reducible refine (impl_parts_number.calls gb328 t354 t355 t356 w _ ?side1 ?side2 ?side3 ?side4 A54.out).mono ?_); (case side1 => exact (by repeat (first | (with_reducible first | exact HI328.out | apply IsS61.alloc | apply IsS61.drewN | apply IsS61.drew | apply IsS61.set_0 | refine IsS61.far ?_ NB328_327.out _ | refine IsS61.far ?_ NB328_329.out _) | exact HI328.out))); (case side2 => exact z19_0_); (case side3 => exact hGE); (case side4 => exact hGM); rintro e w62 ⟨rfl, hi, hb, hk⟩; refine ⟨_, rfl, ?_⟩; replace BK327 := Aside0.mk (zkb BK327.out hk NB327_328.out); replace BK329 := Aside0.mk (zkb BK329.out hk NB329_328.out); replace HB := Aside0.mk (hb); replace HI328 := Aside0.mk (hi); clear hb hk hi; obtain ⟨q63_0, q63_1, q63_2, q63_3, q63_4, q63_5, q63_6, q63_7, q63_8, q63_9, q63_10, q63_11, q63_12⟩ := zc13 BK329.out; obtain ⟨f63_0, f63_1, f63_2, f63_3, f63_4, f63_5, f63_6, f63_7, f63_8, f63_9, f63_10, f63_11, f63_12⟩ := zf13 BK329.out) | ((with_reducible refine gate_callee (f := 30) rfl ?_); refine goesL_ (some 72) rfl rfl Tryz.func30 (by kernel_rfl) rfl #[.pointer (some ⟨gb328, 0, none⟩)] rfl z19_1_ ?_; (with_reducible refine (impl_parts_str.calls gb328 t356 t357 t358 w _ ?side1 ?side2 ?side3 ?side4 A55.out).mono ?_); (case side1 => exact (by repeat (first | (with_reducible first | exact HI328.out | apply IsS61.alloc | apply IsS61.drewN | apply IsS61.drew | apply IsS61.set_0 | refine IsS61.far ?_ NB328_327.out _ | refine IsS61.far ?_ NB328_329.out _) | exact HI328.out))); (case side2 => exact z19_0_); (case side3 => exact hGE); (case side4 => exact hGM); rintro e w64 ⟨rfl, hi, hb, hk⟩; refine ⟨_, rfl, ?_⟩; replace BK327 := Aside0.mk (KeepBut.blk hk (g' := gb327) (o := .cells #[.int .i64 0, .int .i64 0, .int .i64 0, .string (⟨#[]⟩ : ByteArray), .slice none 0 0, .string (⟨#[]⟩ : ByteArray), .int .i64 0, .int .i64 0, .int .i64 0, .int .i64 0, .string (⟨#[]⟩ : ByteArray), .int .i64 0, .int .i64 0] 28 (0, 0)) (by (with_reducible repeat (first | refine blk_drewN ?_ _ | refine blk_drew ?_ | refine blk_alloc ?_ _)); (iterate 4 (refine blk_far ?_ NB327_329.out _; (with_reducible repeat (first | refine blk_drewN ?_ _ | refine blk_drew ?_ | refine blk_alloc ?_ _)))); exact BK327.out) NB327_328.out (by simp)); replace BK329 := Aside0.mk (KeepBut.blk hk (g' := gb329) (o := .cells #[.int .i64 2, .int .i64 0, .int .i64 0, .string (⟨#[]⟩ : ByteArray), .slice none 0 0, .string (⟨#[]⟩ : ByteArray), .int .i64 t349, .int .i64 t351, .int .i64 t353, .int .i64 t355, .string (⟨#[]⟩ : ByteArray), .int .i64 0, .int .i64 0] 28 (0, 0)) (by (with_reducible repeat (first | refine blk_drewN ?_ _ | refine blk_drew ?_ | refine blk_alloc ?_ _)); refine blk_put (cs := #[.int .i64 2, .int .i64 0, .int .i64 0, .string (⟨#[]⟩ : ByteArray), .slice none 0 0, .string (⟨#[]⟩ : ByteArray), .int .i64 t349, .int .i64 t351, .int .i64 t353, .int .i64 0, .string (⟨#[]⟩ : ByteArray), .int .i64 0, .int .i64 0]) ?_ 9 _ rfl; (with_reducible repeat (first | refine blk_drewN ?_ _ | refine blk_drew ?_ | refine blk_alloc ?_ _)); refine blk_put (cs := #[.int .i64 2, .int .i64 0, .int .i64 0, .string (⟨#[]⟩ : ByteArray), .slice none 0 0, .string (⟨#[]⟩ : ByteArray), .int .i64 t349, .int .i64 t351, .int .i64 0, .int .i64 0, .string (⟨#[]⟩ : ByteArray), .int .i64 0, .int .i64 0]) ?_ 8 _ rfl; (with_reducible repeat (first | refine blk_drewN ?_ _ | refine blk_drew ?_ | refine blk_alloc ?_ _)); refine blk_put (cs := #[.int .i64 2, .int .i64 0, .int .i64 0, .string (⟨#[]⟩ : ByteArray), .slice none 0 0, .string (⟨#[]⟩ : ByteArray), .int .i64 t349, .int .i64 0, .int .i64 0, .int .i64 0, .string (⟨#[]⟩ : ByteArray), .int .i64 0, .int .i64 0]) ?_ 7 _ rfl; (with_reducible repeat (first | refine blk_drewN ?_ _ | refine blk_drew ?_ | refine blk_alloc ?_ _)); refine blk_put (cs := #[.int .i64 2, .int .i64 0, .int .i64 0, .string (⟨#[]⟩ : ByteArray), .slice none 0 0, .string (⟨#[]⟩ : ByteArray), .int .i64 0, .int .i64 0, .int .i64 0, .int .i64 0, .string (⟨#[]⟩ : ByteArray), .int .i64 0, .int .i64 0]) ?_ 6 _ rfl; (with_reducible repeat (first | refine blk_drewN ?_ _ | refine blk_drew ?_ | refine blk_alloc ?_ _)); exact BK329.out) NB329_328.out (by simp)); replace HB := Aside0.mk (hb); replace HI328 := Aside0.mk (hi); clear hb hk hi; obtain ⟨q65_0, q65_1, q65_2, q65_3, q65_4, q65_5, q65_6, q65_7, q65_8, q65_9, q65_10, q65_11, q65_12⟩ := zc13 BK329.out; obtain ⟨f65_0, f65_1, f65_2, f65_3, f65_4, f65_5, f65_6, f65_7, f65_8, f65_9, f65_10, f65_11, f65_12⟩ := zf13 BK329.out))
    go_meet
    case rel => exact ⟨_, (2), (0), (0), ((⟨#[]⟩ : ByteArray)), (([] : List ByteArray)), ((⟨#[]⟩ : ByteArray)), (t349), (t351), (t353), (t355), (t357), (0), (0), (.slice none 0 0), H', ⟨(by first | omega | exact Nat.le_refl _)⟩, ⟨z19_3_⟩, ⟨z19_2_⟩, ⟨(by (with_reducible repeat (first | refine blk_drewN ?_ _ | refine blk_drew ?_ | refine blk_alloc ?_ _)); refine blk_put (cs := #[.int .i64 2, .int .i64 0, .int .i64 0, .string (⟨#[]⟩ : ByteArray), .slice none 0 0, .string (⟨#[]⟩ : ByteArray), .int .i64 t349, .int .i64 t351, .int .i64 t353, .int .i64 t355, .string (⟨#[]⟩ : ByteArray), .int .i64 0, .int .i64 0]) ?_ 10 _ rfl; (with_reducible repeat (first | refine blk_drewN ?_ _ | refine blk_drew ?_ | refine blk_alloc ?_ _)); exact BK329.out)⟩, ⟨z19_0_⟩⟩
   ·rw [if_neg c50] at H
    have c50b0 : (t330.toList == ([86] : List UInt8)) = false := beq_eq_false_iff_ne.mpr c50
    have c50b1 : (t330.toList != ([86] : List UInt8)) = true := bne_iff_ne.mpr c50
    by_cases c66 : t330.toList = ([84] : List UInt8)
    ·rw [if_pos c66] at H
     have c66b0 : (t330.toList == ([84] : List UInt8)) = true := beq_iff_eq.mpr c66
     have c66b1 : (t330.toList != ([84] : List UInt8)) = false := bne_eq_false_iff_eq.mpr c66
     clear c66
     obtain ⟨⟨t359, t360⟩, A67, H⟩ := zbi H
     try dsimp only at H
     obtain ⟨⟨t361, t362⟩, A68, H⟩ := zbi H
     try dsimp only at H
     obtain ⟨⟨t363, t364⟩, A69, H⟩ := zbi H
     try dsimp only at H
     have H' := Aside0.mk H
     clear H
     have hnb70 := NB329_327.out
     have hnc70 := NB327_329.out
     have hnb71 := NB329_328.out
     have hnc71 := NB328_329.out
     obtain ⟨q72_0, q72_1, q72_2, q72_3, q72_4, q72_5, q72_6, q72_7, q72_8, q72_9, q72_10, q72_11, q72_12⟩ := zc13 BK329.out
     obtain ⟨f72_0, f72_1, f72_2, f72_3, f72_4, f72_5, f72_6, f72_7, f72_8, f72_9, f72_10, f72_11, f72_12⟩ := zf13 BK329.out
     go_wp2_with (first | ((with_reducible refine gate_callee (f := 29) rfl ?_); refine goesL_ (some 79) rfl rfl Tryz.func29 (by kernel_rfl) rfl #[.pointer (some ⟨gb328, 0, none⟩)] rfl z19_1_ ?_; (with_reducible refine (impl_parts_number.calls gb328 t331 t359 t360 w _ ?side1 ?side2 ?side3 ?side4 A67.out).mono ?_); (case side1 => exact (by repeat (first | (with_reducible first | exact HI328.out | apply IsS61.alloc | apply IsS61.drewN | apply IsS61.drew | apply IsS61.set_0 | refine IsS61.far ?_ NB328_327.out _ | refine IsS61.far ?_ NB328_329.out _) | exact HI328.out))); (case side2 => exact z19_0_); (case side3 => exact hGE); (case side4 => exact hGM); rintro e w73 ⟨rfl, hi, hb, hk⟩; refine ⟨_, rfl, ?_⟩; replace BK327 := Aside0.mk (KeepBut.blk hk (g' := gb327) (o := .cells #[.int .i64 0, .int .i64 0, .int .i64 0, .string (⟨#[]⟩ : ByteArray), .slice none 0 0, .string (⟨#[]⟩ : ByteArray), .int .i64 0, .int .i64 0, .int .i64 0, .int .i64 0, .string (⟨#[]⟩ : ByteArray), .int .i64 0, .int .i64 0] 28 (0, 0)) z19_2_ NB327_328.out (by simp)); replace BK329 := Aside0.mk (KeepBut.blk hk (g' := gb329) (o := .cells #[.int .i64 3, .int .i64 0, .int .i64 0, .string (⟨#[]⟩ : ByteArray), .slice none 0 0, .string (⟨#[]⟩ : ByteArray), .int .i64 0, .int .i64 0, .int .i64 0, .int .i64 0, .string (⟨#[]⟩ : ByteArray), .int .i64 0, .int .i64 0] 28 (0, 0)) (by (with_reducible repeat (first | refine blk_drewN ?_ _ | refine blk_drew ?_ | refine blk_alloc ?_ _)); refine blk_put (cs := #[.int .i64 0, .int .i64 0, .int .i64 0, .string (⟨#[]⟩ : ByteArray), .slice none 0 0, .string (⟨#[]⟩ : ByteArray), .int .i64 0, .int .i64 0, .int .i64 0, .int .i64 0, .string (⟨#[]⟩ : ByteArray), .int .i64 0, .int .i64 0]) ?_ 0 _ rfl; (with_reducible repeat (first | refine blk_drewN ?_ _ | refine blk_drew ?_ | refine blk_alloc ?_ _)); exact BK329.out) NB329_328.out (by simp)); replace HB := Aside0.mk (hb); replace HI328 := Aside0.mk (hi); clear hb hk hi) | ((with_reducible refine gate_callee (f := 29) rfl ?_); refine goesL_ (some 81) rfl rfl Tryz.func29 (by kernel_rfl) rfl #[.pointer (some ⟨gb328, 0, none⟩)] rfl z19_1_ ?_; (with_reducible refine (impl_parts_number.calls gb328 t360 t361 t362 w _ ?side1 ?side2 ?side3 ?side4 A68.out).mono ?_); (case side1 => exact (by repeat (first | (with_reducible first | exact HI328.out | apply IsS61.alloc | apply IsS61.drewN | apply IsS61.drew | apply IsS61.set_0 | refine IsS61.far ?_ NB328_327.out _ | refine IsS61.far ?_ NB328_329.out _) | exact HI328.out))); (case side2 => exact z19_0_); (case side3 => exact hGE); (case side4 => exact hGM); rintro e w74 ⟨rfl, hi, hb, hk⟩; refine ⟨_, rfl, ?_⟩; replace BK327 := Aside0.mk (zkb BK327.out hk NB327_328.out); replace BK329 := Aside0.mk (zkb BK329.out hk NB329_328.out); replace HB := Aside0.mk (hb); replace HI328 := Aside0.mk (hi); clear hb hk hi) | ((with_reducible refine gate_callee (f := 29) rfl ?_); refine goesL_ (some 83) rfl rfl Tryz.func29 (by kernel_rfl) rfl #[.pointer (some ⟨gb328, 0, none⟩)] rfl z19_1_ ?_; (with_reducible refine (impl_parts_number.calls gb328 t362 t363 t364 w _ ?side1 ?side2 ?side3 ?side4 A69.out).mono ?_); (case side1 => exact (by repeat (first | (with_reducible first | exact HI328.out | apply IsS61.alloc | apply IsS61.drewN | apply IsS61.drew | apply IsS61.set_0 | refine IsS61.far ?_ NB328_327.out _ | refine IsS61.far ?_ NB328_329.out _) | exact HI328.out))); (case side2 => exact z19_0_); (case side3 => exact hGE); (case side4 => exact hGM); rintro e w75 ⟨rfl, hi, hb, hk⟩; refine ⟨_, rfl, ?_⟩; replace BK327 := Aside0.mk (zkb BK327.out hk NB327_328.out); replace BK329 := Aside0.mk (zkb BK329.out hk NB329_328.out); replace HB := Aside0.mk (hb); replace HI328 := Aside0.mk (hi); clear hb hk hi; obtain ⟨q76_0, q76_1, q76_2, q76_3, q76_4, q76_5, q76_6, q76_7, q76_8, q76_9, q76_10, q76_11, q76_12⟩ := zc13 BK329.out; obtain ⟨f76_0, f76_1, f76_2, f76_3, f76_4, f76_5, f76_6, f76_7, f76_8, f76_9, f76_10, f76_11, f76_12⟩ := zf13 BK329.out))
     go_meet
     case rel => exact ⟨_, (3), (0), (0), ((⟨#[]⟩ : ByteArray)), (([] : List ByteArray)), ((⟨#[]⟩ : ByteArray)), (t359), (0), (0), (0), ((⟨#[]⟩ : ByteArray)), (t361), (t363), (.slice none 0 0), H', ⟨(by first | omega | exact Nat.le_refl _)⟩, ⟨z19_3_⟩, ⟨(by (with_reducible repeat (first | refine blk_drewN ?_ _ | refine blk_drew ?_ | refine blk_alloc ?_ _)); (iterate 3 (refine blk_far ?_ NB327_329.out _; (with_reducible repeat (first | refine blk_drewN ?_ _ | refine blk_drew ?_ | refine blk_alloc ?_ _)))); exact BK327.out)⟩, ⟨(by (with_reducible repeat (first | refine blk_drewN ?_ _ | refine blk_drew ?_ | refine blk_alloc ?_ _)); refine blk_put (cs := #[.int .i64 3, .int .i64 0, .int .i64 0, .string (⟨#[]⟩ : ByteArray), .slice none 0 0, .string (⟨#[]⟩ : ByteArray), .int .i64 t359, .int .i64 0, .int .i64 0, .int .i64 0, .string (⟨#[]⟩ : ByteArray), .int .i64 t361, .int .i64 0]) ?_ 12 _ rfl; (with_reducible repeat (first | refine blk_drewN ?_ _ | refine blk_drew ?_ | refine blk_alloc ?_ _)); refine blk_put (cs := #[.int .i64 3, .int .i64 0, .int .i64 0, .string (⟨#[]⟩ : ByteArray), .slice none 0 0, .string (⟨#[]⟩ : ByteArray), .int .i64 t359, .int .i64 0, .int .i64 0, .int .i64 0, .string (⟨#[]⟩ : ByteArray), .int .i64 0, .int .i64 0]) ?_ 11 _ rfl; (with_reducible repeat (first | refine blk_drewN ?_ _ | refine blk_drew ?_ | refine blk_alloc ?_ _)); refine blk_put (cs := #[.int .i64 3, .int .i64 0, .int .i64 0, .string (⟨#[]⟩ : ByteArray), .slice none 0 0, .string (⟨#[]⟩ : ByteArray), .int .i64 0, .int .i64 0, .int .i64 0, .int .i64 0, .string (⟨#[]⟩ : ByteArray), .int .i64 0, .int .i64 0]) ?_ 6 _ rfl; (with_reducible repeat (first | refine blk_drewN ?_ _ | refine blk_drew ?_ | refine blk_alloc ?_ _)); exact BK329.out)⟩, ⟨z19_0_⟩⟩
    ·rw [if_neg c66] at H
     have c66b0 : (t330.toList == ([84] : List UInt8)) = false := beq_eq_false_iff_ne.mpr c66
     have c66b1 : (t330.toList != ([84] : List UInt8)) = true := bne_iff_ne.mpr c66
     by_cases c77 : t330.toList = ([66] : List UInt8)
     ·rw [if_pos c77] at H
      have c77b0 : (t330.toList == ([66] : List UInt8)) = true := beq_iff_eq.mpr c77
      have c77b1 : (t330.toList != ([66] : List UInt8)) = false := bne_eq_false_iff_eq.mpr c77
      clear c77
      obtain ⟨⟨t365, t366⟩, A78, H⟩ := zbi H
      try dsimp only at H
      have H' := Aside0.mk H
      clear H
      go_wp2_with (first | ((with_reducible refine gate_callee (f := 29) rfl ?_); refine goesL_ (some 90) rfl rfl Tryz.func29 (by kernel_rfl) rfl #[.pointer (some ⟨gb328, 0, none⟩)] rfl z19_1_ ?_; (with_reducible refine (impl_parts_number.calls gb328 t331 t365 t366 w _ ?side1 ?side2 ?side3 ?side4 A78.out).mono ?_); (case side1 => exact (by repeat (first | (with_reducible first | exact HI328.out | apply IsS61.alloc | apply IsS61.drewN | apply IsS61.drew | apply IsS61.set_0 | refine IsS61.far ?_ NB328_327.out _ | refine IsS61.far ?_ NB328_329.out _) | exact HI328.out))); (case side2 => exact z19_0_); (case side3 => exact hGE); (case side4 => exact hGM); rintro e w79 ⟨rfl, hi, hb, hk⟩; refine ⟨_, rfl, ?_⟩; replace BK327 := Aside0.mk (zkb BK327.out hk NB327_328.out); replace BK329 := Aside0.mk (zkb BK329.out hk NB329_328.out); replace HB := Aside0.mk (hb); replace HI328 := Aside0.mk (hi); clear hb hk hi; have hnb80 := NB329_327.out; have hnc80 := NB327_329.out; have hnb81 := NB329_328.out; have hnc81 := NB328_329.out; obtain ⟨q82_0, q82_1, q82_2, q82_3, q82_4, q82_5, q82_6, q82_7, q82_8, q82_9, q82_10, q82_11, q82_12⟩ := zc13 BK329.out; obtain ⟨f82_0, f82_1, f82_2, f82_3, f82_4, f82_5, f82_6, f82_7, f82_8, f82_9, f82_10, f82_11, f82_12⟩ := zf13 BK329.out))
      go_meet
      case rel => exact ⟨_, (4), (0), (0), ((⟨#[]⟩ : ByteArray)), (([] : List ByteArray)), ((⟨#[]⟩ : ByteArray)), (t365), (0), (0), (0), ((⟨#[]⟩ : ByteArray)), (0), (0), (.slice none 0 0), H', ⟨(by first | omega | exact Nat.le_refl _)⟩, ⟨z19_3_⟩, ⟨z19_5_⟩, ⟨(by (with_reducible repeat (first | refine blk_drewN ?_ _ | refine blk_drew ?_ | refine blk_alloc ?_ _)); refine blk_put (cs := #[.int .i64 4, .int .i64 0, .int .i64 0, .string (⟨#[]⟩ : ByteArray), .slice none 0 0, .string (⟨#[]⟩ : ByteArray), .int .i64 0, .int .i64 0, .int .i64 0, .int .i64 0, .string (⟨#[]⟩ : ByteArray), .int .i64 0, .int .i64 0]) ?_ 6 _ rfl; (with_reducible repeat (first | refine blk_drewN ?_ _ | refine blk_drew ?_ | refine blk_alloc ?_ _)); refine blk_put (cs := #[.int .i64 0, .int .i64 0, .int .i64 0, .string (⟨#[]⟩ : ByteArray), .slice none 0 0, .string (⟨#[]⟩ : ByteArray), .int .i64 0, .int .i64 0, .int .i64 0, .int .i64 0, .string (⟨#[]⟩ : ByteArray), .int .i64 0, .int .i64 0]) ?_ 0 _ rfl; (with_reducible repeat (first | refine blk_drewN ?_ _ | refine blk_drew ?_ | refine blk_alloc ?_ _)); exact BK329.out)⟩, ⟨z19_0_⟩⟩
     ·rw [if_neg c77] at H
      have c77b0 : (t330.toList == ([66] : List UInt8)) = false := beq_eq_false_iff_ne.mpr c77
      have c77b1 : (t330.toList != ([66] : List UInt8)) = true := bne_iff_ne.mpr c77
      by_cases c83 : t330.toList = ([68] : List UInt8)
      ·rw [if_pos c83] at H
       have c83b0 : (t330.toList == ([68] : List UInt8)) = true := beq_iff_eq.mpr c83
       have c83b1 : (t330.toList != ([68] : List UInt8)) = false := bne_eq_false_iff_eq.mpr c83
       clear c83
       obtain ⟨⟨t367, t368⟩, A84, H⟩ := zbi H
       try dsimp only at H
       have H' := Aside0.mk H
       clear H
       go_wp2_with (first | ((with_reducible refine gate_callee (f := 29) rfl ?_); refine goesL_ (some 96) rfl rfl Tryz.func29 (by kernel_rfl) rfl #[.pointer (some ⟨gb328, 0, none⟩)] rfl z19_1_ ?_; (with_reducible refine (impl_parts_number.calls gb328 t331 t367 t368 w _ ?side1 ?side2 ?side3 ?side4 A84.out).mono ?_); (case side1 => exact (by repeat (first | (with_reducible first | exact HI328.out | apply IsS61.alloc | apply IsS61.drewN | apply IsS61.drew | apply IsS61.set_0 | refine IsS61.far ?_ NB328_327.out _ | refine IsS61.far ?_ NB328_329.out _) | exact HI328.out))); (case side2 => exact z19_0_); (case side3 => exact hGE); (case side4 => exact hGM); rintro e w85 ⟨rfl, hi, hb, hk⟩; refine ⟨_, rfl, ?_⟩; replace BK327 := Aside0.mk (zkb BK327.out hk NB327_328.out); replace BK329 := Aside0.mk (zkb BK329.out hk NB329_328.out); replace HB := Aside0.mk (hb); replace HI328 := Aside0.mk (hi); clear hb hk hi; have hnb86 := NB329_327.out; have hnc86 := NB327_329.out; have hnb87 := NB329_328.out; have hnc87 := NB328_329.out; obtain ⟨q88_0, q88_1, q88_2, q88_3, q88_4, q88_5, q88_6, q88_7, q88_8, q88_9, q88_10, q88_11, q88_12⟩ := zc13 BK329.out; obtain ⟨f88_0, f88_1, f88_2, f88_3, f88_4, f88_5, f88_6, f88_7, f88_8, f88_9, f88_10, f88_11, f88_12⟩ := zf13 BK329.out))
       go_meet
       case rel => exact ⟨_, (5), (0), (0), ((⟨#[]⟩ : ByteArray)), (([] : List ByteArray)), ((⟨#[]⟩ : ByteArray)), (t367), (0), (0), (0), ((⟨#[]⟩ : ByteArray)), (0), (0), (.slice none 0 0), H', ⟨(by first | omega | exact Nat.le_refl _)⟩, ⟨z19_3_⟩, ⟨z19_5_⟩, ⟨(by (with_reducible repeat (first | refine blk_drewN ?_ _ | refine blk_drew ?_ | refine blk_alloc ?_ _)); refine blk_put (cs := #[.int .i64 5, .int .i64 0, .int .i64 0, .string (⟨#[]⟩ : ByteArray), .slice none 0 0, .string (⟨#[]⟩ : ByteArray), .int .i64 0, .int .i64 0, .int .i64 0, .int .i64 0, .string (⟨#[]⟩ : ByteArray), .int .i64 0, .int .i64 0]) ?_ 6 _ rfl; (with_reducible repeat (first | refine blk_drewN ?_ _ | refine blk_drew ?_ | refine blk_alloc ?_ _)); refine blk_put (cs := #[.int .i64 0, .int .i64 0, .int .i64 0, .string (⟨#[]⟩ : ByteArray), .slice none 0 0, .string (⟨#[]⟩ : ByteArray), .int .i64 0, .int .i64 0, .int .i64 0, .int .i64 0, .string (⟨#[]⟩ : ByteArray), .int .i64 0, .int .i64 0]) ?_ 0 _ rfl; (with_reducible repeat (first | refine blk_drewN ?_ _ | refine blk_drew ?_ | refine blk_alloc ?_ _)); exact BK329.out)⟩, ⟨z19_0_⟩⟩
      ·rw [if_neg c83] at H
       have c83b0 : (t330.toList == ([68] : List UInt8)) = false := beq_eq_false_iff_ne.mpr c83
       have c83b1 : (t330.toList != ([68] : List UInt8)) = true := bne_iff_ne.mpr c83
       by_cases c89 : t330.toList = ([78] : List UInt8)
       ·rw [if_pos c89] at H
        have c89b0 : (t330.toList == ([78] : List UInt8)) = true := beq_iff_eq.mpr c89
        have c89b1 : (t330.toList != ([78] : List UInt8)) = false := bne_eq_false_iff_eq.mpr c89
        clear c89
        obtain ⟨⟨t369, t370⟩, A90, H⟩ := zbi H
        try dsimp only at H
        have H' := Aside0.mk H
        clear H
        go_wp2_with (first | ((with_reducible refine gate_callee (f := 29) rfl ?_); refine goesL_ (some 102) rfl rfl Tryz.func29 (by kernel_rfl) rfl #[.pointer (some ⟨gb328, 0, none⟩)] rfl z19_1_ ?_; (with_reducible refine (impl_parts_number.calls gb328 t331 t369 t370 w _ ?side1 ?side2 ?side3 ?side4 A90.out).mono ?_); (case side1 => exact (by repeat (first | (with_reducible first | exact HI328.out | apply IsS61.alloc | apply IsS61.drewN | apply IsS61.drew | apply IsS61.set_0 | refine IsS61.far ?_ NB328_327.out _ | refine IsS61.far ?_ NB328_329.out _) | exact HI328.out))); (case side2 => exact z19_0_); (case side3 => exact hGE); (case side4 => exact hGM); rintro e w91 ⟨rfl, hi, hb, hk⟩; refine ⟨_, rfl, ?_⟩; replace BK327 := Aside0.mk (zkb BK327.out hk NB327_328.out); replace BK329 := Aside0.mk (zkb BK329.out hk NB329_328.out); replace HB := Aside0.mk (hb); replace HI328 := Aside0.mk (hi); clear hb hk hi; have hnb92 := NB329_327.out; have hnc92 := NB327_329.out; have hnb93 := NB329_328.out; have hnc93 := NB328_329.out; obtain ⟨q94_0, q94_1, q94_2, q94_3, q94_4, q94_5, q94_6, q94_7, q94_8, q94_9, q94_10, q94_11, q94_12⟩ := zc13 BK329.out; obtain ⟨f94_0, f94_1, f94_2, f94_3, f94_4, f94_5, f94_6, f94_7, f94_8, f94_9, f94_10, f94_11, f94_12⟩ := zf13 BK329.out))
        go_meet
        case rel => exact ⟨_, (6), (0), (0), ((⟨#[]⟩ : ByteArray)), (([] : List ByteArray)), ((⟨#[]⟩ : ByteArray)), (t369), (0), (0), (0), ((⟨#[]⟩ : ByteArray)), (0), (0), (.slice none 0 0), H', ⟨(by first | omega | exact Nat.le_refl _)⟩, ⟨z19_3_⟩, ⟨z19_5_⟩, ⟨(by (with_reducible repeat (first | refine blk_drewN ?_ _ | refine blk_drew ?_ | refine blk_alloc ?_ _)); refine blk_put (cs := #[.int .i64 6, .int .i64 0, .int .i64 0, .string (⟨#[]⟩ : ByteArray), .slice none 0 0, .string (⟨#[]⟩ : ByteArray), .int .i64 0, .int .i64 0, .int .i64 0, .int .i64 0, .string (⟨#[]⟩ : ByteArray), .int .i64 0, .int .i64 0]) ?_ 6 _ rfl; (with_reducible repeat (first | refine blk_drewN ?_ _ | refine blk_drew ?_ | refine blk_alloc ?_ _)); refine blk_put (cs := #[.int .i64 0, .int .i64 0, .int .i64 0, .string (⟨#[]⟩ : ByteArray), .slice none 0 0, .string (⟨#[]⟩ : ByteArray), .int .i64 0, .int .i64 0, .int .i64 0, .int .i64 0, .string (⟨#[]⟩ : ByteArray), .int .i64 0, .int .i64 0]) ?_ 0 _ rfl; (with_reducible repeat (first | refine blk_drewN ?_ _ | refine blk_drew ?_ | refine blk_alloc ?_ _)); exact BK329.out)⟩, ⟨z19_0_⟩⟩
       ·rw [if_neg c89] at H
        have c89b0 : (t330.toList == ([78] : List UInt8)) = false := beq_eq_false_iff_ne.mpr c89
        have c89b1 : (t330.toList != ([78] : List UInt8)) = true := bne_iff_ne.mpr c89
        have H' := Aside0.mk H
        clear H
        go_wp2
        go_meet
        case rel => exact ⟨_, (0), (0), (0), ((⟨#[]⟩ : ByteArray)), (([] : List ByteArray)), ((⟨#[]⟩ : ByteArray)), (0), (0), (0), (0), ((⟨#[]⟩ : ByteArray)), (0), (0), (.slice none 0 0), H', ⟨(by first | omega | exact Nat.le_refl _)⟩, ⟨z19_3_⟩, ⟨(by (with_reducible repeat (first | refine blk_drewN ?_ _ | refine blk_drew ?_ | refine blk_alloc ?_ _)); exact BK327.out)⟩, ⟨(by (with_reducible repeat (first | refine blk_drewN ?_ _ | refine blk_drew ?_ | refine blk_alloc ?_ _)); exact BK329.out)⟩, ⟨z19_0_⟩⟩
 case rest =>
  clear HC3
  try clear c1
  try clear c2
  try clear p2
  try clear c3
  try clear c4
  try clear c5
  try clear c6
  try clear p6
  try clear c7
  try clear c8
  try clear c9
  try clear c11
  try clear c11b0
  try clear c11b1
  try clear c16
  try clear c17
  try clear c25
  try clear c25b0
  try clear c26
  try clear c26b0
  try clear c26b1
  try clear c28
  try clear c29
  try clear c30
  try clear c39
  try clear c40
  try clear c47
  try clear c48
  try clear c50
  try clear c50b0
  try clear c50b1
  try clear c56
  try clear c57
  try clear p64
  try clear c66
  try clear c66b0
  try clear c66b1
  try clear c70
  try clear c71
  try clear c77
  try clear c77b0
  try clear c77b1
  try clear c80
  try clear c81
  try clear c83
  try clear c83b0
  try clear c83b1
  try clear c86
  try clear c87
  try clear c89
  try clear c89b0
  try clear c89b1
  try clear c92
  try clear c93
  try clear q18_0 q18_1 q18_10 q18_11 q18_12 q18_2 q18_3 q18_4 q18_5 q18_6 q18_7 q18_8 q18_9
  try clear q21_0 q21_1 q21_10 q21_11 q21_12 q21_2 q21_3 q21_4 q21_5 q21_6 q21_7 q21_8 q21_9
  try clear q24_0 q24_1 q24_10 q24_11 q24_12 q24_2 q24_3 q24_4 q24_5 q24_6 q24_7 q24_8 q24_9
  try clear q31_0 q31_1 q31_10 q31_11 q31_12 q31_2 q31_3 q31_4 q31_5 q31_6 q31_7 q31_8 q31_9
  try clear q41_0 q41_1 q41_10 q41_11 q41_12 q41_2 q41_3 q41_4 q41_5 q41_6 q41_7 q41_8 q41_9
  try clear q44_0 q44_1 q44_10 q44_11 q44_12 q44_2 q44_3 q44_4 q44_5 q44_6 q44_7 q44_8 q44_9
  try clear q49_0 q49_1 q49_10 q49_11 q49_12 q49_2 q49_3 q49_4 q49_5 q49_6 q49_7 q49_8 q49_9
  try clear q58_0 q58_1 q58_10 q58_11 q58_12 q58_2 q58_3 q58_4 q58_5 q58_6 q58_7 q58_8 q58_9
  try clear q63_0 q63_1 q63_10 q63_11 q63_12 q63_2 q63_3 q63_4 q63_5 q63_6 q63_7 q63_8 q63_9
  try clear q65_0 q65_1 q65_10 q65_11 q65_12 q65_2 q65_3 q65_4 q65_5 q65_6 q65_7 q65_8 q65_9
  try clear q72_0 q72_1 q72_10 q72_11 q72_12 q72_2 q72_3 q72_4 q72_5 q72_6 q72_7 q72_8 q72_9
  try clear q76_0 q76_1 q76_10 q76_11 q76_12 q76_2 q76_3 q76_4 q76_5 q76_6 q76_7 q76_8 q76_9
  try clear q82_0 q82_1 q82_10 q82_11 q82_12 q82_2 q82_3 q82_4 q82_5 q82_6 q82_7 q82_8 q82_9
  try clear q88_0 q88_1 q88_10 q88_11 q88_12 q88_2 q88_3 q88_4 q88_5 q88_6 q88_7 q88_8 q88_9
  try clear q94_0 q94_1 q94_10 q94_11 q94_12 q94_2 q94_3 q94_4 q94_5 q94_6 q94_7 q94_8 q94_9
  try clear q9_0 q9_1 q9_10 q9_11 q9_12 q9_2 q9_3 q9_4 q9_5 q9_6 q9_7 q9_8 q9_9
  try clear f18_0 f18_1 f18_10 f18_11 f18_12 f18_2 f18_3 f18_4 f18_5 f18_6 f18_7 f18_8 f18_9
  try clear f21_0 f21_1 f21_10 f21_11 f21_12 f21_2 f21_3 f21_4 f21_5 f21_6 f21_7 f21_8 f21_9
  try clear f24_0 f24_1 f24_10 f24_11 f24_12 f24_2 f24_3 f24_4 f24_5 f24_6 f24_7 f24_8 f24_9
  try clear f31_0 f31_1 f31_10 f31_11 f31_12 f31_2 f31_3 f31_4 f31_5 f31_6 f31_7 f31_8 f31_9
  try clear f41_0 f41_1 f41_10 f41_11 f41_12 f41_2 f41_3 f41_4 f41_5 f41_6 f41_7 f41_8 f41_9
  try clear f44_0 f44_1 f44_10 f44_11 f44_12 f44_2 f44_3 f44_4 f44_5 f44_6 f44_7 f44_8 f44_9
  try clear f49_0 f49_1 f49_10 f49_11 f49_12 f49_2 f49_3 f49_4 f49_5 f49_6 f49_7 f49_8 f49_9
  try clear f58_0 f58_1 f58_10 f58_11 f58_12 f58_2 f58_3 f58_4 f58_5 f58_6 f58_7 f58_8 f58_9
  try clear f63_0 f63_1 f63_10 f63_11 f63_12 f63_2 f63_3 f63_4 f63_5 f63_6 f63_7 f63_8 f63_9
  try clear f65_0 f65_1 f65_10 f65_11 f65_12 f65_2 f65_3 f65_4 f65_5 f65_6 f65_7 f65_8 f65_9
  try clear f72_0 f72_1 f72_10 f72_11 f72_12 f72_2 f72_3 f72_4 f72_5 f72_6 f72_7 f72_8 f72_9
  try clear f76_0 f76_1 f76_10 f76_11 f76_12 f76_2 f76_3 f76_4 f76_5 f76_6 f76_7 f76_8 f76_9
  try clear f82_0 f82_1 f82_10 f82_11 f82_12 f82_2 f82_3 f82_4 f82_5 f82_6 f82_7 f82_8 f82_9
  try clear f88_0 f88_1 f88_10 f88_11 f88_12 f88_2 f88_3 f88_4 f88_5 f88_6 f88_7 f88_8 f88_9
  try clear f94_0 f94_1 f94_10 f94_11 f94_12 f94_2 f94_3 f94_4 f94_5 f94_6 f94_7 f94_8 f94_9
  try clear f9_0 f9_1 f9_10 f9_11 f9_12 f9_2 f9_3 f9_4 f9_5 f9_6 f9_7 f9_8 f9_9
  try clear p2
  obtain ⟨kq, x330000_2, x330001_2, x330002_2, x330003_2, x330004_2, x330005_2, x330006_2, x330007_2, x330008_2, x330009_2, x330010_2, x330011_2, x330012_2, u330004, HA, HJ2, HO_330004, BK327, BK329, HB⟩ := hcut
  cases kq with
  | zero => exact absurd HA.out (by simp [impl_UnpackRecord.j1])
  | succ kj2 =>
   have H := HA.out
   clear HA
   simp only [impl_UnpackRecord.j1] at H
   by_cases c95 : a0.toList = ([] : List UInt8)
   ·rw [if_pos c95] at H
    have c95b0 : (a0.toList == ([] : List UInt8)) = true := beq_iff_eq.mpr c95
    have c95b7 : a0.toList.isEmpty = true := by rw [c95]; rfl
    have c95b1 : (a0.toList != ([] : List UInt8)) = false := bne_eq_false_iff_eq.mpr c95
    clear c95
    simp only [Option.some.injEq, Prod.mk.injEq] at H
    obtain ⟨rfl, rfl, rfl, rfl, rfl, rfl, rfl, rfl, rfl, rfl, rfl, rfl, rfl, rfl⟩ := H
    have hnb96 := NB327_329.out
    have hnc96 := NB329_327.out
    obtain ⟨q97_0, q97_1, q97_2, q97_3, q97_4, q97_5, q97_6, q97_7, q97_8, q97_9, q97_10, q97_11, q97_12⟩ := zc13 BK327.out
    obtain ⟨f97_0, f97_1, f97_2, f97_3, f97_4, f97_5, f97_6, f97_7, f97_8, f97_9, f97_10, f97_11, f97_12⟩ := zf13 BK327.out
    (first | (go_wp21; show bodyPost _ _ _ _ _ _) | go_wp2)
    refine bodyPost_ret (results_ct rfl _ _ gb327 28 #[.int .i64 0, .int .i64 0, .int .i64 0, .string (⟨#[]⟩ : ByteArray), .slice none 0 0, .string (⟨#[]⟩ : ByteArray), .int .i64 0, .int .i64 0, .int .i64 0, .int .i64 0, .string (⟨#[]⟩ : ByteArray), .int .i64 0, .int .i64 0] (0, 0) _ rfl z19_6_ Tryz.underlying28 rfl (by kernel_rfl)) rfl ?_
    exact ⟨_, (by first | rfl | (simp [errW_none, errW_some] <;> rfl) | (simp [*, errW_none, errW_some] <;> rfl)), z19_3_, z19_4_⟩
   ·rw [if_neg c95] at H
    have c95b0 : (a0.toList == ([] : List UInt8)) = false := beq_eq_false_iff_ne.mpr c95
    have c95b7 : a0.toList.isEmpty = false := by simpa using c95
    have c95b1 : (a0.toList != ([] : List UInt8)) = true := bne_iff_ne.mpr c95
    obtain ⟨t371, A98, H⟩ := zbi H
    have HS99 := Aside0.mk H
    clear H
    have hnb100 := NB329_327.out
    have hnc100 := NB327_329.out
    obtain ⟨q101_0, q101_1, q101_2, q101_3, q101_4, q101_5, q101_6, q101_7, q101_8, q101_9, q101_10, q101_11, q101_12⟩ := zc13 BK329.out
    obtain ⟨f101_0, f101_1, f101_2, f101_3, f101_4, f101_5, f101_6, f101_7, f101_8, f101_9, f101_10, f101_11, f101_12⟩ := zf13 BK329.out
    obtain ⟨Ao102, co102, eo102⟩ := Kd.R_slice HO_330004.out
    subst eo102
    go_upto_if 112 with (first | (go_at_call 31; (with_reducible refine (impl_PackRecord.calls kj2 x330000_2 x330001_2 x330002_2 x330003_2 _ _ x330004_2 x330005_2 x330006_2 x330007_2 x330008_2 x330009_2 x330010_2 x330011_2 x330012_2 t371 _ ?side1 ?side2 ?side3 ?side4 A98.out).mono ?_); (case side1 => exact GlI.below hGI z19_4_); (case side2 => exact GlM.below hGM z19_4_); (case side3 => exact (by repeat (first | exact (Kd.R_reads' HO_330004.out).2.2 | (with_reducible refine Kd.C_alloc ?_ _) | (with_reducible refine Kd.C_drewN ?_ _) | (with_reducible refine Kd.C_drew ?_)))); (case side4 => exact (Kd.R_reads' HO_330004.out).2.1); rintro e w103 ⟨rfl, hb⟩; replace HO_330004 := Aside0.mk (Kd.R_below z19_7_ hb); replace BK327 := Aside0.mk (zbb BK327.out hb); replace BK329 := Aside0.mk (zbb BK329.out hb); replace HB := Aside0.mk (below_step z19_4_ hb); clear hb))
    (try simp only [Act.put, List.setIfInBounds_toArray, List.set_cons_zero, List.set_cons_succ])
    have H := HS99.out
    clear HS99
    by_cases c104 : t371.toList = a0.toList
    ·rw [if_pos c104] at H
     have c104b0 : (t371.toList == a0.toList) = true := beq_iff_eq.mpr c104
     have c104b1 : (t371.toList != a0.toList) = false := bne_eq_false_iff_eq.mpr c104
     clear c104
     (first | rw [c104b0] | (simp only [i64_w, i32_w]; rw [c104b0]) | rw [c104b1] | simp only [c104b2, decide_true, decide_false] | skip)
     simp only [Option.some.injEq, Prod.mk.injEq] at H
     obtain ⟨rfl, rfl, rfl, rfl, rfl, rfl, rfl, rfl, rfl, rfl, rfl, rfl, rfl, rfl⟩ := H
     have hnb105 := NB329_327.out
     have hnc105 := NB327_329.out
     obtain ⟨q106_0, q106_1, q106_2, q106_3, q106_4, q106_5, q106_6, q106_7, q106_8, q106_9, q106_10, q106_11, q106_12⟩ := zc13 BK329.out
     obtain ⟨f106_0, f106_1, f106_2, f106_3, f106_4, f106_5, f106_6, f106_7, f106_8, f106_9, f106_10, f106_11, f106_12⟩ := zf13 BK329.out
     obtain ⟨q107_0, q107_1, q107_2, q107_3, q107_4, q107_5, q107_6, q107_7, q107_8, q107_9, q107_10, q107_11, q107_12⟩ := zc13 BK327.out
     obtain ⟨f107_0, f107_1, f107_2, f107_3, f107_4, f107_5, f107_6, f107_7, f107_8, f107_9, f107_10, f107_11, f107_12⟩ := zf13 BK327.out
     (first | (go_wp21; show bodyPost _ _ _ _ _ _) | go_wp2)
     refine bodyPost_ret (results_ct rfl _ _ gb327 28 #[.int .i64 x330000_2, .int .i64 x330001_2, .int .i64 x330002_2, .string x330003_2, .slice Ao102 x330004_2.length co102, .string x330005_2, .int .i64 x330006_2, .int .i64 x330007_2, .int .i64 x330008_2, .int .i64 x330009_2, .string x330010_2, .int .i64 x330011_2, .int .i64 x330012_2] (0, 0) _ rfl z19_6_ Tryz.underlying28 rfl (by kernel_rfl)) rfl ?_
     exact ⟨_, (by first | rfl | (simp [errW_none, errW_some] <;> rfl) | (simp [*, errW_none, errW_some] <;> rfl)), (by (with_reducible repeat (first | apply Kd.R_alloc | apply Kd.R_drewN | apply Kd.R_drew)); exact Kd.R_mono (Kd.R_far (p := ⟨gb327, 12, none⟩) (Kd.R_far (p := ⟨gb327, 11, none⟩) (Kd.R_far (p := ⟨gb327, 10, none⟩) (Kd.R_far (p := ⟨gb327, 9, none⟩) (Kd.R_far (p := ⟨gb327, 8, none⟩) (Kd.R_far (p := ⟨gb327, 7, none⟩) (Kd.R_far (p := ⟨gb327, 6, none⟩) (Kd.R_far (p := ⟨gb327, 5, none⟩) (Kd.R_far (p := ⟨gb327, 4, none⟩) (Kd.R_far (p := ⟨gb327, 3, none⟩) (Kd.R_far (p := ⟨gb327, 2, none⟩) (Kd.R_far (p := ⟨gb327, 1, none⟩) (Kd.R_far (p := ⟨gb327, 0, none⟩) (Kd.R_types HO_330004.out BK327.out (by decide)) (fun _ hk => hk.2) (.int .i64 x330000_2)) (fun _ hk => hk.2) (.int .i64 x330001_2)) (fun _ hk => hk.2) (.int .i64 x330002_2)) (fun _ hk => hk.2) (.string x330003_2)) (fun _ hk => hk.2) (.slice Ao102 x330004_2.length co102)) (fun _ hk => hk.2) (.string x330005_2)) (fun _ hk => hk.2) (.int .i64 x330006_2)) (fun _ hk => hk.2) (.int .i64 x330007_2)) (fun _ hk => hk.2) (.int .i64 x330008_2)) (fun _ hk => hk.2) (.int .i64 x330009_2)) (fun _ hk => hk.2) (.string x330010_2)) (fun _ hk => hk.2) (.int .i64 x330011_2)) (fun _ hk => hk.2) (.int .i64 x330012_2)) (fun _ hk => trivial)), z19_4_⟩
    ·rw [if_neg c104] at H
     have c104b0 : (t371.toList == a0.toList) = false := beq_eq_false_iff_ne.mpr c104
     have c104b1 : (t371.toList != a0.toList) = true := bne_iff_ne.mpr c104
     (first | rw [c104b0] | (simp only [i64_w, i32_w]; rw [c104b0]) | rw [c104b1] | simp only [c104b2, decide_true, decide_false] | skip)
     simp only [Option.some.injEq, Prod.mk.injEq] at H
     obtain ⟨rfl, rfl, rfl, rfl, rfl, rfl, rfl, rfl, rfl, rfl, rfl, rfl, rfl, rfl⟩ := H
     have hnb108 := NB327_329.out
     have hnc108 := NB329_327.out
     obtain ⟨q109_0, q109_1, q109_2, q109_3, q109_4, q109_5, q109_6, q109_7, q109_8, q109_9, q109_10, q109_11, q109_12⟩ := zc13 BK327.out
     obtain ⟨f109_0, f109_1, f109_2, f109_3, f109_4, f109_5, f109_6, f109_7, f109_8, f109_9, f109_10, f109_11, f109_12⟩ := zf13 BK327.out
     (first | (go_wp21; show bodyPost _ _ _ _ _ _) | go_wp2)
     refine bodyPost_ret (results_ct rfl _ _ gb327 28 #[.int .i64 0, .int .i64 0, .int .i64 0, .string (⟨#[]⟩ : ByteArray), .slice none 0 0, .string (⟨#[]⟩ : ByteArray), .int .i64 0, .int .i64 0, .int .i64 0, .int .i64 0, .string (⟨#[]⟩ : ByteArray), .int .i64 0, .int .i64 0] (0, 0) _ rfl z19_6_ Tryz.underlying28 rfl (by kernel_rfl)) rfl ?_
     exact ⟨_, (by first | rfl | (simp [errW_none, errW_some] <;> rfl) | (simp [*, errW_none, errW_some] <;> rfl)), z19_3_, z19_4_⟩
end Go.Proofs.YtnlembpmcbnpnaaGreatDoor.X
namespace Go.Proofs.YtnlembpmcbnpnaaGreatDoor.X
open Go.RowKit Go.Proofs.YtnlembpmcbnpnaaGreatDoorW.PrintWords Go.Proofs.YtnlembpmcbnpnaaGreatDoorW.PrintLast Go.Proofs.YtnlembpmcbnpnaaGreatDoorW.PrintMore
set_option linter.unusedVariables false
set_option linter.unusedSimpArgs false
theorem z20_0_ {P : Prop} (h : P := by first | rfl | (simp [errW_none, errW_some] <;> rfl) | (simp [*, errW_none, errW_some] <;> rfl)) : P := h
theorem z20_1_ {P : Prop} (h : P := by repeat (first | (with_reducible first | exact HB.out | apply below_alloc | apply pw_below_drewN | apply below_drew1 | refine below_set ?_ GE379.out | refine below_set ?_ GE380.out) | exact HB.out)) : P := h
theorem z20_2_ {P : Prop} (h : P := by repeat (first | (with_reducible first | exact HB.out | apply below_alloc | apply pw_below_drewN | apply below_drew1 | refine below_set ?_ GE374.out | refine below_set ?_ GE375.out) | exact HB.out)) : P := h
theorem z20_3_ {P : Prop} (h : P := by repeat (first | (with_reducible first | exact HB.out | apply below_alloc | apply pw_below_drewN | apply below_drew1 | refine below_set ?_ GE377.out | refine below_set ?_ GE378.out) | exact HB.out)) : P := h
theorem z20_4_ {P : Prop} (h : P := by first | rfl | (simp; done) | (simp [*]; done)) : P := h
theorem z20_5_ {P : Prop} (h : P := by first | (with_reducible assumption) | assumption) : P := h
theorem z20_6_ {P : Prop} (h : P := by repeat (first | (with_reducible first | exact HK.out | apply Kept.alloc | apply Kept.drewN | apply Kept.drew) | exact HK.out)) : P := h
theorem z20_7_ {P : Prop} (h : P := by (try simp only [List.map_toArray, List.map_cons, List.map_nil]); first | done | rfl | (simp only [List.length_drop, List.length_take]; rfl)) : P := h
/-! ### laws_eqStringS: function 20 -/
def laws_eqStringS.l0 : Nat → List ByteArray → List ByteArray → Int → Option (Bool)
 | 0, _, _, _ => none
 | k + 1, x0, x1, x5 => if x5 < (x0.length : Int) then (if 0 ≤ x5 then (if x5 < (x1.length : Int) then (if (rdOf ByteArray.empty x0 x5).toList = (rdOf ByteArray.empty x1 x5).toList then (laws_eqStringS.l0 k x0 x1 (wrap64 (x5 + 1))) else (some false)) else (none)) else (none)) else (some true)
def laws_eqStringS.f (k : Nat) (l0 : List ByteArray) (l1 : List ByteArray) : Option (Bool) := if (l0.length : Int) = (l1.length : Int) then (laws_eqStringS.l0 k l0 l1 0) else (some false)
theorem laws_eqStringS.mono_l : ∀ k, (∀ y0 y1 y2, LeO (laws_eqStringS.l0 k y0 y1 y2) (laws_eqStringS.l0 (k + 1) y0 y1 y2))
 | 0 => fun _ _ _ r h => by simp [laws_eqStringS.l0] at h
 | k + 1 => by
  have ih0 := laws_eqStringS.mono_l k
  ·intro y0 y1 y2
   unfold laws_eqStringS.l0
   repeat' first
   | (with_reducible exact ih0 _ _ _)
   | (with_reducible exact LeO.refl _)
   | (with_reducible exact LeO.none _)
   | (with_reducible refine LeO.ite ?_ ?_)
   | (with_reducible refine LeO.bind ?_ (fun _ => ?_))
   | exact ih0 _ _ _
   | exact LeO.none _
   | refine LeO.ite ?_ ?_
   | refine LeO.bind ?_ (fun _ => ?_)
theorem laws_eqStringS.mono : ∀ a0 a1 k, LeO (laws_eqStringS.f k a0 a1) (laws_eqStringS.f (k + 1) a0 a1) := by
 intro a0 a1 k
 have ih0 := laws_eqStringS.mono_l k
 unfold laws_eqStringS.f
 repeat' first
   | (with_reducible exact ih0 _ _ _)
   | (with_reducible exact LeO.refl _)
   | (with_reducible exact LeO.none _)
   | (with_reducible refine LeO.ite ?_ ?_)
   | (with_reducible refine LeO.bind ?_ (fun _ => ?_))
   | exact ih0 _ _ _
   | exact LeO.none _
   | refine LeO.ite ?_ ?_
   | refine LeO.bind ?_ (fun _ => ?_)
set_option maxHeartbeats 8000000 in
set_option maxRecDepth 100000 in
theorem laws_eqStringS.calls (k : Nat) (A0 : Option Addr) (c0 : Nat) (l0 : List ByteArray) (A1 : Option Addr) (c1 : Nat) (l1 : List ByteArray) (r : Bool) (w : World) (hr0 : Kd.C Kd.string w A0 l0.length l0) (hc0 : l0.length ≤ c0) (hr1 : Kd.C Kd.string w A1 l1.length l1) (hc1 : l1.length ≤ c1) (h : laws_eqStringS.f k l0 l1 = some r) :
  Calls Tryz.prog 20 #[.slice A0 l0.length c0, .slice A1 l1.length c1] w fun e w' => e = .returned (.bool r) ∧ Drawn0 w w' := by
 have HR0 := Aside0.mk hr0
 have HC0 := Aside0.mk hc0
 clear hr0 hc0
 have HR1 := Aside0.mk hr1
 have HC1 := Aside0.mk hc1
 clear hr1 hc1
 have H : (if (l0.length : Int) = (l1.length : Int) then (laws_eqStringS.l0 k l0 l1 0) else (some false)) = some r := h
 clear h
 by_cases c3 : (l0.length : Int) = (l1.length : Int)
 ·rw [if_pos c3] at H
  have c3b0 : ((l0.length : Int) == (l1.length : Int)) = true := beq_iff_eq.mpr c3
  have c3b1 : ((l0.length : Int) != (l1.length : Int)) = false := bne_eq_false_iff_eq.mpr c3
  have c3b2 : (l0.length == l1.length) = true := by first | simpa using c3 | (simp at c3 ⊢; omega)
  clear c3
  have H' := Aside0.mk H
  clear H
  go_enter Tryz.func20, Tryz.ntmps20
  go_wp2
  repeat (go_quiet (fail); try go_wp2)
  go_loopg [5] k (fun kq v5 w' => ∃ (x5_1 : Int), v5 = .int .i64 x5_1 ∧ Aside0 (laws_eqStringS.l0 kq l0 l1 x5_1 = some r) ∧ Aside0 (kq ≤ k) ∧ Drawn0 w w')
  case atStart => exact ⟨(0), z20_4_, H', ⟨Nat.le_refl _⟩, (by repeat (first | exact Drawn0.refl _ | apply Drawn0.step))⟩
  case round =>
   clear H'
   try clear c1
   try clear c2
   try clear p2
   try clear c3
   try clear c3b0
   try clear c3b1
   try clear c3b2
   obtain ⟨x5_1, rfl, HA, HK1, ⟨m1, rfl⟩⟩ := hrel
   cases gk with
   | zero => exact absurd HA.out (by simp [laws_eqStringS.l0])
   | succ k1 =>
    have H := HA.out
    clear HA
    simp only [laws_eqStringS.l0] at H
    by_cases c4 : x5_1 < (l0.length : Int)
    ·rw [if_pos c4] at H
     have c4b0 : decide (x5_1 < (l0.length : Int)) = true := decide_eq_true c4
     clear c4
     by_cases c5 : 0 ≤ x5_1
     ·rw [if_pos c5] at H
      have c5b0 : decide (0 ≤ x5_1) = true := decide_eq_true c5
      clear c5
      by_cases c6 : x5_1 < (l1.length : Int)
      ·rw [if_pos c6] at H
       have c6b0 : decide (x5_1 < (l1.length : Int)) = true := decide_eq_true c6
       clear c6
       by_cases c7 : (rdOf ByteArray.empty l0 x5_1).toList = (rdOf ByteArray.empty l1 x5_1).toList
       ·rw [if_pos c7] at H
        have c7b0 : ((rdOf ByteArray.empty l0 x5_1).toList == (rdOf ByteArray.empty l1 x5_1).toList) = true := beq_iff_eq.mpr c7
        have c7b1 : ((rdOf ByteArray.empty l0 x5_1).toList != (rdOf ByteArray.empty l1 x5_1).toList) = false := bne_eq_false_iff_eq.mpr c7
        clear c7
        have H' := Aside0.mk H
        clear H
        have p372 : 0 ≤ (x5_1 : Int) := of_decide_eq_true z20_5_
        have q372 : x5_1 < (l0.length : Int) := of_decide_eq_true z20_5_
        obtain ⟨ad372, e372, hx372_0⟩ := Kd.at_string HR0.out x5_1 p372 q372
        cases e372
        replace p372 := eq_true p372
        replace q372 := eq_true q372
        have p373 : 0 ≤ (x5_1 : Int) := of_decide_eq_true z20_5_
        have q373 : x5_1 < (l1.length : Int) := of_decide_eq_true z20_5_
        obtain ⟨ad373, e373, hx373_0⟩ := Kd.at_string HR1.out x5_1 p373 q373
        cases e373
        replace p373 := eq_true p373
        replace q373 := eq_true q373
        go_wp2
        repeat (go_quiet (fail); try go_wp2)
        go_roundg k1
        case measure => have := HK1.out; omega
        case rel => exact ⟨(wrap64 (x5_1 + 1)), z20_4_, H', ⟨(by have := HK1.out; omega)⟩, (by repeat (first | exact Drawn0.refl _ | apply Drawn0.step))⟩
       ·rw [if_neg c7] at H
        have c7b0 : ((rdOf ByteArray.empty l0 x5_1).toList == (rdOf ByteArray.empty l1 x5_1).toList) = false := beq_eq_false_iff_ne.mpr c7
        have c7b1 : ((rdOf ByteArray.empty l0 x5_1).toList != (rdOf ByteArray.empty l1 x5_1).toList) = true := bne_iff_ne.mpr c7
        obtain rfl := Option.some.inj H
        have p372 : 0 ≤ (x5_1 : Int) := of_decide_eq_true z20_5_
        have q372 : x5_1 < (l0.length : Int) := of_decide_eq_true z20_5_
        obtain ⟨ad372, e372, hx372_0⟩ := Kd.at_string HR0.out x5_1 p372 q372
        cases e372
        replace p372 := eq_true p372
        replace q372 := eq_true q372
        have p373 : 0 ≤ (x5_1 : Int) := of_decide_eq_true z20_5_
        have q373 : x5_1 < (l1.length : Int) := of_decide_eq_true z20_5_
        obtain ⟨ad373, e373, hx373_0⟩ := Kd.at_string HR1.out x5_1 p373 q373
        cases e373
        replace p373 := eq_true p373
        replace q373 := eq_true q373
        go_wp2
        repeat (go_quiet (fail); try go_wp2)
        go_ret
        exact ⟨z20_4_, (by repeat (first | exact Drawn0.refl _ | apply Drawn0.step))⟩
      ·rw [if_neg c6] at H
       exact absurd H (by simp)
     ·rw [if_neg c5] at H
      exact absurd H (by simp)
    ·rw [if_neg c4] at H
     have c4b0 : decide (x5_1 < (l0.length : Int)) = false := decide_eq_false c4
     clear c4
     obtain rfl := Option.some.inj H
     go_wp2
     repeat (go_quiet (fail); try go_wp2)
     go_ret
     exact ⟨z20_4_, (by repeat (first | exact Drawn0.refl _ | apply Drawn0.step))⟩
 ·rw [if_neg c3] at H
  have c3b0 : ((l0.length : Int) == (l1.length : Int)) = false := beq_eq_false_iff_ne.mpr c3
  have c3b1 : ((l0.length : Int) != (l1.length : Int)) = true := bne_iff_ne.mpr c3
  have c3b2 : (l0.length == l1.length) = false := by first | simpa using c3 | (simp at c3 ⊢; omega)
  obtain rfl := Option.some.inj H
  go_enter Tryz.func20, Tryz.ntmps20
  go_wp2
  repeat (go_quiet (fail); try go_wp2)
  go_ret
  exact ⟨z20_4_, (by repeat (first | exact Drawn0.refl _ | apply Drawn0.step))⟩
/-! ### laws_eqMessage: function 32 -/
def laws_eqMessage.f (k : Nat) (a0_0 : Int) (a0_1 : Int) (a0_2 : ByteArray) (l0_3 : List ByteArray) (a0_4 : ByteArray) (a1_0 : Int) (a1_1 : Int) (a1_2 : ByteArray) (l1_3 : List ByteArray) (a1_4 : ByteArray) : Option (Bool) := if a0_0 = a1_0 then (if a0_1 = a1_1 then (if a0_2.toList = a1_2.toList then ((laws_eqStringS.f k l0_3 l1_3).bind fun t376 => (if t376 = true then (if a0_4.toList = a1_4.toList then (some true) else (some false)) else (some false))) else (some false)) else (some false)) else (some false)
theorem laws_eqMessage.mono : ∀ a0 a1 a2 a3 a4 a5 a6 a7 a8 a9 k, LeO (laws_eqMessage.f k a0 a1 a2 a3 a4 a5 a6 a7 a8 a9) (laws_eqMessage.f (k + 1) a0 a1 a2 a3 a4 a5 a6 a7 a8 a9) := by
 intro a0 a1 a2 a3 a4 a5 a6 a7 a8 a9 k
 unfold laws_eqMessage.f
 repeat' first
   | (with_reducible exact laws_eqStringS.mono _ _ _)
   | (with_reducible exact LeO.refl _)
   | (with_reducible exact LeO.none _)
   | (with_reducible refine LeO.ite ?_ ?_)
   | (with_reducible refine LeO.bind ?_ (fun _ => ?_))
   | exact laws_eqStringS.mono _ _ _
   | exact LeO.none _
   | refine LeO.ite ?_ ?_
   | refine LeO.bind ?_ (fun _ => ?_)
set_option maxHeartbeats 8000000 in
set_option maxRecDepth 100000 in
theorem laws_eqMessage.calls (k : Nat) (a0_0 : Int) (a0_1 : Int) (a0_2 : ByteArray) (A0_3 : Option Addr) (c0_3 : Nat) (l0_3 : List ByteArray) (a0_4 : ByteArray) (a1_0 : Int) (a1_1 : Int) (a1_2 : ByteArray) (A1_3 : Option Addr) (c1_3 : Nat) (l1_3 : List ByteArray) (a1_4 : ByteArray) (r : Bool) (w : World) (hr0_3 : Kd.C Kd.string w A0_3 l0_3.length l0_3) (hc0_3 : l0_3.length ≤ c0_3) (hr1_3 : Kd.C Kd.string w A1_3 l1_3.length l1_3) (hc1_3 : l1_3.length ≤ c1_3) (h : laws_eqMessage.f k a0_0 a0_1 a0_2 l0_3 a0_4 a1_0 a1_1 a1_2 l1_3 a1_4 = some r) :
  Calls Tryz.prog 32 #[.agg #[.int .i64 a0_0, .int .i64 a0_1, .string a0_2, .slice A0_3 l0_3.length c0_3, .string a0_4], .agg #[.int .i64 a1_0, .int .i64 a1_1, .string a1_2, .slice A1_3 l1_3.length c1_3, .string a1_4]] w fun e w' => e = .returned (.bool r) ∧ Below w.heap.size w w' := by
 have hu24 := Tryz.underlying24
 have HR0_3 := Aside0.mk hr0_3
 have HC0_3 := Aside0.mk hc0_3
 clear hr0_3 hc0_3
 have HR1_3 := Aside0.mk hr1_3
 have HC1_3 := Aside0.mk hc1_3
 clear hr1_3 hc1_3
 have HB := Aside0.mk (Below.refl w.heap.size w)
 have H := h
 unfold laws_eqMessage.f at H
 clear h
 have HS3 := Aside0.mk H
 clear H
 go_enter Tryz.func32, Tryz.ntmps32
 go_upto_if 9 with (first | ((with_reducible refine gate_dst (N := 2) rfl ?_); refine box_event (by rfl) (N := 2) (by rfl) (cs := #[.int .i64 a0_0, .int .i64 a0_1, .string a0_2, .slice A0_3 l0_3.length c0_3, .string a0_4]) (t := 24) (by first | (go_simp; done) | (go_simp; rfl)) ?_; intro gb374 hg w4 hbox hb; have BK374 := Aside0.mk (hbox); have GW374 := Aside0.mk ((by rw [hg]; exact (below_size (bq_)) : w.heap.size ≤ gb374)); have GE374 := GW374; replace HB := Aside0.mk (below_step (bq_) hb); clear hb hbox hg) | ((with_reducible refine gate_dst (N := 3) rfl ?_); refine box_event (by rfl) (N := 3) (by rfl) (cs := #[.int .i64 a1_0, .int .i64 a1_1, .string a1_2, .slice A1_3 l1_3.length c1_3, .string a1_4]) (t := 24) (by first | (go_simp; done) | (go_simp; rfl)) ?_; intro gb375 hg w5 hbox hb; have BK375 := Aside0.mk (hbox); have GW375 := Aside0.mk ((by rw [hg]; exact (below_size (by repeat (first | (with_reducible first | exact HB.out | apply below_alloc | apply pw_below_drewN | apply below_drew1 | refine below_set ?_ GE374.out) | exact HB.out))) : w.heap.size ≤ gb375)); have GE375 := GW375; replace HB := Aside0.mk (below_step (by repeat (first | (with_reducible first | exact HB.out | apply below_alloc | apply pw_below_drewN | apply below_drew1 | refine below_set ?_ GE374.out) | exact HB.out)) hb); have NB374_375 := Aside0.mk ((by rw [hg]; exact Nat.ne_of_lt (blk_lt (g := gb374) (o := .cells #[.int .i64 a0_0, .int .i64 a0_1, .string a0_2, .slice A0_3 l0_3.length c0_3, .string a0_4] 24 (0, 0)) (by (with_reducible repeat (first | refine blk_drewN ?_ _ | refine blk_drew ?_ | refine blk_alloc ?_ _)); exact BK374.out)) : gb374 ≠ gb375)); have NB375_374 := Aside0.mk NB374_375.out.symm; replace BK374 := Aside0.mk (zbb BK374.out hb); clear hb hbox hg; have hnb6 := NB374_375.out; have hnc6 := NB375_374.out; obtain ⟨q7_0, q7_1, q7_2, q7_3, q7_4⟩ := zc5 BK374.out; obtain ⟨f7_0, f7_1, f7_2, f7_3, f7_4⟩ := zf5 BK374.out; obtain ⟨q8_0, q8_1, q8_2, q8_3, q8_4⟩ := zc5 BK375.out; obtain ⟨f8_0, f8_1, f8_2, f8_3, f8_4⟩ := zf5 BK375.out))
 (try simp only [Act.put, List.setIfInBounds_toArray, List.set_cons_zero, List.set_cons_succ])
 have H := HS3.out
 clear HS3
 by_cases c9 : a0_0 = a1_0
 ·rw [if_pos c9] at H
  have c9b0 : (a0_0 == a1_0) = true := beq_iff_eq.mpr c9
  have c9b1 : (a0_0 != a1_0) = false := bne_eq_false_iff_eq.mpr c9
  clear c9
  (first | rw [c9b0] | (simp only [i64_w, i32_w]; rw [c9b0]) | rw [c9b1] | simp only [c9b2, decide_true, decide_false] | skip)
  by_cases c10 : a0_1 = a1_1
  ·rw [if_pos c10] at H
   have c10b0 : (a0_1 == a1_1) = true := beq_iff_eq.mpr c10
   have c10b1 : (a0_1 != a1_1) = false := bne_eq_false_iff_eq.mpr c10
   clear c10
   by_cases c11 : a0_2.toList = a1_2.toList
   ·rw [if_pos c11] at H
    have c11b0 : (a0_2.toList == a1_2.toList) = true := beq_iff_eq.mpr c11
    have c11b1 : (a0_2.toList != a1_2.toList) = false := bne_eq_false_iff_eq.mpr c11
    clear c11
    obtain ⟨t376, A12, H⟩ := zbi H
    have HS13 := Aside0.mk H
    clear H
    have hnb14 := NB374_375.out
    have hnc14 := NB375_374.out
    obtain ⟨q15_0, q15_1, q15_2, q15_3, q15_4⟩ := zc5 BK374.out
    obtain ⟨f15_0, f15_1, f15_2, f15_3, f15_4⟩ := zf5 BK374.out
    obtain ⟨q16_0, q16_1, q16_2, q16_3, q16_4⟩ := zc5 BK375.out
    obtain ⟨f16_0, f16_1, f16_2, f16_3, f16_4⟩ := zf5 BK375.out
    go_upto_if 25 with (first | ((with_reducible refine gate_callee (f := 20) rfl ?_); refine goesL_ (some 24) rfl rfl Tryz.func20 (by kernel_rfl) rfl #[.slice A0_3 l0_3.length c0_3, .slice A1_3 l1_3.length c1_3] rfl z20_7_ ?_; (with_reducible refine (laws_eqStringS.calls k _ _ l0_3 _ _ l1_3 t376 _ ?side1 ?side2 ?side3 ?side4 A12.out).mono ?_); (case side1 => exact (by repeat (first | exact (Kd.C_below HR0_3.out HB.out) | (with_reducible refine Kd.C_alloc ?_ _) | (with_reducible refine Kd.C_drewN ?_ _) | (with_reducible refine Kd.C_drew ?_)))); (case side2 => exact HC0_3.out); (case side3 => exact (by repeat (first | exact (Kd.C_below HR1_3.out HB.out) | (with_reducible refine Kd.C_alloc ?_ _) | (with_reducible refine Kd.C_drewN ?_ _) | (with_reducible refine Kd.C_drew ?_)))); (case side4 => exact HC1_3.out); rintro e w' ⟨rfl, ⟨nd, rfl⟩⟩; refine ⟨_, rfl, ?_⟩))
    (try simp only [Act.put, List.setIfInBounds_toArray, List.set_cons_zero, List.set_cons_succ])
    have H := HS13.out
    clear HS13
    by_cases c17 : t376 = true
    ·subst c17
     rw [if_pos rfl] at H
     by_cases c18 : a0_4.toList = a1_4.toList
     ·rw [if_pos c18] at H
      have c18b0 : (a0_4.toList == a1_4.toList) = true := beq_iff_eq.mpr c18
      have c18b1 : (a0_4.toList != a1_4.toList) = false := bne_eq_false_iff_eq.mpr c18
      clear c18
      (first | rw [c18b0] | (simp only [i64_w, i32_w]; rw [c18b0]) | rw [c18b1] | simp only [c18b2, decide_true, decide_false] | skip)
      obtain rfl := Option.some.inj H
      have hnb19 := NB374_375.out
      have hnc19 := NB375_374.out
      obtain ⟨q20_0, q20_1, q20_2, q20_3, q20_4⟩ := zc5 BK374.out
      obtain ⟨f20_0, f20_1, f20_2, f20_3, f20_4⟩ := zf5 BK374.out
      obtain ⟨q21_0, q21_1, q21_2, q21_3, q21_4⟩ := zc5 BK375.out
      obtain ⟨f21_0, f21_1, f21_2, f21_3, f21_4⟩ := zf5 BK375.out
      go_wp2
      go_ret
      exact ⟨z20_0_, z20_2_⟩
     ·rw [if_neg c18] at H
      have c18b0 : (a0_4.toList == a1_4.toList) = false := beq_eq_false_iff_ne.mpr c18
      have c18b1 : (a0_4.toList != a1_4.toList) = true := bne_iff_ne.mpr c18
      (first | rw [c18b0] | (simp only [i64_w, i32_w]; rw [c18b0]) | rw [c18b1] | simp only [c18b2, decide_true, decide_false] | skip)
      obtain rfl := Option.some.inj H
      have hnb22 := NB374_375.out
      have hnc22 := NB375_374.out
      obtain ⟨q23_0, q23_1, q23_2, q23_3, q23_4⟩ := zc5 BK374.out
      obtain ⟨f23_0, f23_1, f23_2, f23_3, f23_4⟩ := zf5 BK374.out
      obtain ⟨q24_0, q24_1, q24_2, q24_3, q24_4⟩ := zc5 BK375.out
      obtain ⟨f24_0, f24_1, f24_2, f24_3, f24_4⟩ := zf5 BK375.out
      go_wp2
      go_ret
      exact ⟨z20_0_, z20_2_⟩
    ·replace c17 := Bool.eq_false_iff.mpr c17
     subst c17
     rw [if_neg (show ¬ (false = true) by decide)] at H
     obtain rfl := Option.some.inj H
     go_wp2
     go_ret
     exact ⟨z20_0_, z20_2_⟩
   ·rw [if_neg c11] at H
    have c11b0 : (a0_2.toList == a1_2.toList) = false := beq_eq_false_iff_ne.mpr c11
    have c11b1 : (a0_2.toList != a1_2.toList) = true := bne_iff_ne.mpr c11
    obtain rfl := Option.some.inj H
    have hnb25 := NB374_375.out
    have hnc25 := NB375_374.out
    obtain ⟨q26_0, q26_1, q26_2, q26_3, q26_4⟩ := zc5 BK374.out
    obtain ⟨f26_0, f26_1, f26_2, f26_3, f26_4⟩ := zf5 BK374.out
    obtain ⟨q27_0, q27_1, q27_2, q27_3, q27_4⟩ := zc5 BK375.out
    obtain ⟨f27_0, f27_1, f27_2, f27_3, f27_4⟩ := zf5 BK375.out
    go_wp2
    go_ret
    exact ⟨z20_0_, z20_2_⟩
  ·rw [if_neg c10] at H
   have c10b0 : (a0_1 == a1_1) = false := beq_eq_false_iff_ne.mpr c10
   have c10b1 : (a0_1 != a1_1) = true := bne_iff_ne.mpr c10
   obtain rfl := Option.some.inj H
   have hnb28 := NB374_375.out
   have hnc28 := NB375_374.out
   obtain ⟨q29_0, q29_1, q29_2, q29_3, q29_4⟩ := zc5 BK374.out
   obtain ⟨f29_0, f29_1, f29_2, f29_3, f29_4⟩ := zf5 BK374.out
   obtain ⟨q30_0, q30_1, q30_2, q30_3, q30_4⟩ := zc5 BK375.out
   obtain ⟨f30_0, f30_1, f30_2, f30_3, f30_4⟩ := zf5 BK375.out
   go_wp2
   go_ret
   exact ⟨z20_0_, z20_2_⟩
 ·rw [if_neg c9] at H
  have c9b0 : (a0_0 == a1_0) = false := beq_eq_false_iff_ne.mpr c9
  have c9b1 : (a0_0 != a1_0) = true := bne_iff_ne.mpr c9
  (first | rw [c9b0] | (simp only [i64_w, i32_w]; rw [c9b0]) | rw [c9b1] | simp only [c9b2, decide_true, decide_false] | skip)
  obtain rfl := Option.some.inj H
  go_wp2
  go_ret
  exact ⟨z20_0_, z20_2_⟩
/-! ### laws_eqVerdict: function 33 -/
def laws_eqVerdict.f (a0_0 : Int) (a0_1 : Int) (a0_2 : ByteArray) (a1_0 : Int) (a1_1 : Int) (a1_2 : ByteArray) : Option (Bool) := if a0_0 = a1_0 then (if a0_1 = a1_1 then (if a0_2.toList = a1_2.toList then (some true) else (some false)) else (some false)) else (some false)
set_option maxHeartbeats 8000000 in
set_option maxRecDepth 100000 in
theorem laws_eqVerdict.calls (a0_0 : Int) (a0_1 : Int) (a0_2 : ByteArray) (a1_0 : Int) (a1_1 : Int) (a1_2 : ByteArray) (r : Bool) (w : World) (h : laws_eqVerdict.f a0_0 a0_1 a0_2 a1_0 a1_1 a1_2 = some r) :
  Calls Tryz.prog 33 #[.agg #[.int .i64 a0_0, .int .i64 a0_1, .string a0_2], .agg #[.int .i64 a1_0, .int .i64 a1_1, .string a1_2]] w fun e w' => e = .returned (.bool r) ∧ Below w.heap.size w w' := by
 have hu26 := Tryz.underlying26
 have HB := Aside0.mk (Below.refl w.heap.size w)
 have H : (if a0_0 = a1_0 then (if a0_1 = a1_1 then (if a0_2.toList = a1_2.toList then (some true) else (some false)) else (some false)) else (some false)) = some r := h
 clear h
 have HS3 := Aside0.mk H
 clear H
 go_enter Tryz.func33, Tryz.ntmps33
 go_upto_if 9 with (first | ((with_reducible refine gate_dst (N := 2) rfl ?_); refine box_event (by rfl) (N := 2) (by rfl) (cs := #[.int .i64 a0_0, .int .i64 a0_1, .string a0_2]) (t := 26) (by first | (go_simp; done) | (go_simp; rfl)) ?_; intro gb377 hg w4 hbox hb; have BK377 := Aside0.mk (hbox); have GW377 := Aside0.mk ((by rw [hg]; exact (below_size (bq_)) : w.heap.size ≤ gb377)); have GE377 := GW377; replace HB := Aside0.mk (below_step (bq_) hb); clear hb hbox hg) | ((with_reducible refine gate_dst (N := 3) rfl ?_); refine box_event (by rfl) (N := 3) (by rfl) (cs := #[.int .i64 a1_0, .int .i64 a1_1, .string a1_2]) (t := 26) (by first | (go_simp; done) | (go_simp; rfl)) ?_; intro gb378 hg w5 hbox hb; have BK378 := Aside0.mk (hbox); have GW378 := Aside0.mk ((by rw [hg]; exact (below_size (by repeat (first | (with_reducible first | exact HB.out | apply below_alloc | apply pw_below_drewN | apply below_drew1 | refine below_set ?_ GE377.out) | exact HB.out))) : w.heap.size ≤ gb378)); have GE378 := GW378; replace HB := Aside0.mk (below_step (by repeat (first | (with_reducible first | exact HB.out | apply below_alloc | apply pw_below_drewN | apply below_drew1 | refine below_set ?_ GE377.out) | exact HB.out)) hb); have NB377_378 := Aside0.mk ((by rw [hg]; exact Nat.ne_of_lt (blk_lt (g := gb377) (o := .cells #[.int .i64 a0_0, .int .i64 a0_1, .string a0_2] 26 (0, 0)) (by (with_reducible repeat (first | refine blk_drewN ?_ _ | refine blk_drew ?_ | refine blk_alloc ?_ _)); exact BK377.out)) : gb377 ≠ gb378)); have NB378_377 := Aside0.mk NB377_378.out.symm; replace BK377 := Aside0.mk (zbb BK377.out hb); clear hb hbox hg; have hnb6 := NB377_378.out; have hnc6 := NB378_377.out; obtain ⟨q7_0, q7_1, q7_2⟩ := zc3 BK377.out; obtain ⟨f7_0, f7_1, f7_2⟩ := zf3 BK377.out; obtain ⟨q8_0, q8_1, q8_2⟩ := zc3 BK378.out; obtain ⟨f8_0, f8_1, f8_2⟩ := zf3 BK378.out))
 (try simp only [Act.put, List.setIfInBounds_toArray, List.set_cons_zero, List.set_cons_succ])
 have H := HS3.out
 clear HS3
 by_cases c9 : a0_0 = a1_0
 ·rw [if_pos c9] at H
  have c9b0 : (a0_0 == a1_0) = true := beq_iff_eq.mpr c9
  have c9b1 : (a0_0 != a1_0) = false := bne_eq_false_iff_eq.mpr c9
  clear c9
  (first | rw [c9b0] | (simp only [i64_w, i32_w]; rw [c9b0]) | rw [c9b1] | simp only [c9b2, decide_true, decide_false] | skip)
  by_cases c10 : a0_1 = a1_1
  ·rw [if_pos c10] at H
   have c10b0 : (a0_1 == a1_1) = true := beq_iff_eq.mpr c10
   have c10b1 : (a0_1 != a1_1) = false := bne_eq_false_iff_eq.mpr c10
   clear c10
   by_cases c11 : a0_2.toList = a1_2.toList
   ·rw [if_pos c11] at H
    have c11b0 : (a0_2.toList == a1_2.toList) = true := beq_iff_eq.mpr c11
    have c11b1 : (a0_2.toList != a1_2.toList) = false := bne_eq_false_iff_eq.mpr c11
    clear c11
    obtain rfl := Option.some.inj H
    have hnb12 := NB377_378.out
    have hnc12 := NB378_377.out
    obtain ⟨q13_0, q13_1, q13_2⟩ := zc3 BK377.out
    obtain ⟨f13_0, f13_1, f13_2⟩ := zf3 BK377.out
    obtain ⟨q14_0, q14_1, q14_2⟩ := zc3 BK378.out
    obtain ⟨f14_0, f14_1, f14_2⟩ := zf3 BK378.out
    go_wp2
    go_ret
    exact ⟨z20_0_, z20_3_⟩
   ·rw [if_neg c11] at H
    have c11b0 : (a0_2.toList == a1_2.toList) = false := beq_eq_false_iff_ne.mpr c11
    have c11b1 : (a0_2.toList != a1_2.toList) = true := bne_iff_ne.mpr c11
    obtain rfl := Option.some.inj H
    have hnb15 := NB377_378.out
    have hnc15 := NB378_377.out
    obtain ⟨q16_0, q16_1, q16_2⟩ := zc3 BK377.out
    obtain ⟨f16_0, f16_1, f16_2⟩ := zf3 BK377.out
    obtain ⟨q17_0, q17_1, q17_2⟩ := zc3 BK378.out
    obtain ⟨f17_0, f17_1, f17_2⟩ := zf3 BK378.out
    go_wp2
    go_ret
    exact ⟨z20_0_, z20_3_⟩
  ·rw [if_neg c10] at H
   have c10b0 : (a0_1 == a1_1) = false := beq_eq_false_iff_ne.mpr c10
   have c10b1 : (a0_1 != a1_1) = true := bne_iff_ne.mpr c10
   obtain rfl := Option.some.inj H
   have hnb18 := NB377_378.out
   have hnc18 := NB378_377.out
   obtain ⟨q19_0, q19_1, q19_2⟩ := zc3 BK377.out
   obtain ⟨f19_0, f19_1, f19_2⟩ := zf3 BK377.out
   obtain ⟨q20_0, q20_1, q20_2⟩ := zc3 BK378.out
   obtain ⟨f20_0, f20_1, f20_2⟩ := zf3 BK378.out
   go_wp2
   go_ret
   exact ⟨z20_0_, z20_3_⟩
 ·rw [if_neg c9] at H
  have c9b0 : (a0_0 == a1_0) = false := beq_eq_false_iff_ne.mpr c9
  have c9b1 : (a0_0 != a1_0) = true := bne_iff_ne.mpr c9
  (first | rw [c9b0] | (simp only [i64_w, i32_w]; rw [c9b0]) | rw [c9b1] | simp only [c9b2, decide_true, decide_false] | skip)
  obtain rfl := Option.some.inj H
  go_wp2
  go_ret
  exact ⟨z20_0_, z20_3_⟩
/-! ### laws_eqRecord: function 8 -/
def laws_eqRecord.f (k : Nat) (a0_0 : Int) (a0_1 : Int) (a0_2 : Int) (a0_3 : ByteArray) (l0_4 : List ByteArray) (a0_5 : ByteArray) (a0_6 : Int) (a0_7 : Int) (a0_8 : Int) (a0_9 : Int) (a0_10 : ByteArray) (a0_11 : Int) (a0_12 : Int) (a1_0 : Int) (a1_1 : Int) (a1_2 : Int) (a1_3 : ByteArray) (l1_4 : List ByteArray) (a1_5 : ByteArray) (a1_6 : Int) (a1_7 : Int) (a1_8 : Int) (a1_9 : Int) (a1_10 : ByteArray) (a1_11 : Int) (a1_12 : Int) : Option (Bool) := if a0_0 = a1_0 then ((laws_eqMessage.f k a0_1 a0_2 a0_3 l0_4 a0_5 a1_1 a1_2 a1_3 l1_4 a1_5).bind fun t381 => (if t381 = true then (if a0_6 = a1_6 then (if a0_7 = a1_7 then ((laws_eqVerdict.f a0_8 a0_9 a0_10 a1_8 a1_9 a1_10).bind fun t382 => (if t382 = true then (if a0_11 = a1_11 then (if a0_12 = a1_12 then (some true) else (some false)) else (some false)) else (some false))) else (some false)) else (some false)) else (some false))) else (some false)
theorem laws_eqRecord.mono : ∀ a0 a1 a2 a3 a4 a5 a6 a7 a8 a9 a10 a11 a12 a13 a14 a15 a16 a17 a18 a19 a20 a21 a22 a23 a24 a25 k, LeO (laws_eqRecord.f k a0 a1 a2 a3 a4 a5 a6 a7 a8 a9 a10 a11 a12 a13 a14 a15 a16 a17 a18 a19 a20 a21 a22 a23 a24 a25) (laws_eqRecord.f (k + 1) a0 a1 a2 a3 a4 a5 a6 a7 a8 a9 a10 a11 a12 a13 a14 a15 a16 a17 a18 a19 a20 a21 a22 a23 a24 a25) := by
 intro a0 a1 a2 a3 a4 a5 a6 a7 a8 a9 a10 a11 a12 a13 a14 a15 a16 a17 a18 a19 a20 a21 a22 a23 a24 a25 k
 unfold laws_eqRecord.f
 repeat' first
   | (with_reducible exact laws_eqMessage.mono _ _ _ _ _ _ _ _ _ _ _)
   | (with_reducible exact LeO.refl _)
   | (with_reducible exact LeO.none _)
   | (with_reducible refine LeO.ite ?_ ?_)
   | (with_reducible refine LeO.bind ?_ (fun _ => ?_))
   | exact laws_eqMessage.mono _ _ _ _ _ _ _ _ _ _ _
   | exact LeO.none _
   | refine LeO.ite ?_ ?_
   | refine LeO.bind ?_ (fun _ => ?_)
set_option maxHeartbeats 8000000 in
set_option maxRecDepth 100000 in
theorem laws_eqRecord.calls (k : Nat) (a0_0 : Int) (a0_1 : Int) (a0_2 : Int) (a0_3 : ByteArray) (A0_4 : Option Addr) (c0_4 : Nat) (l0_4 : List ByteArray) (a0_5 : ByteArray) (a0_6 : Int) (a0_7 : Int) (a0_8 : Int) (a0_9 : Int) (a0_10 : ByteArray) (a0_11 : Int) (a0_12 : Int) (a1_0 : Int) (a1_1 : Int) (a1_2 : Int) (a1_3 : ByteArray) (A1_4 : Option Addr) (c1_4 : Nat) (l1_4 : List ByteArray) (a1_5 : ByteArray) (a1_6 : Int) (a1_7 : Int) (a1_8 : Int) (a1_9 : Int) (a1_10 : ByteArray) (a1_11 : Int) (a1_12 : Int) (r : Bool) (w : World) (hr0_4 : Kd.C Kd.string w A0_4 l0_4.length l0_4) (hc0_4 : l0_4.length ≤ c0_4) (hr1_4 : Kd.C Kd.string w A1_4 l1_4.length l1_4) (hc1_4 : l1_4.length ≤ c1_4) (h : laws_eqRecord.f k a0_0 a0_1 a0_2 a0_3 l0_4 a0_5 a0_6 a0_7 a0_8 a0_9 a0_10 a0_11 a0_12 a1_0 a1_1 a1_2 a1_3 l1_4 a1_5 a1_6 a1_7 a1_8 a1_9 a1_10 a1_11 a1_12 = some r) :
  Calls Tryz.prog 8 #[.agg #[.int .i64 a0_0, .int .i64 a0_1, .int .i64 a0_2, .string a0_3, .slice A0_4 l0_4.length c0_4, .string a0_5, .int .i64 a0_6, .int .i64 a0_7, .int .i64 a0_8, .int .i64 a0_9, .string a0_10, .int .i64 a0_11, .int .i64 a0_12], .agg #[.int .i64 a1_0, .int .i64 a1_1, .int .i64 a1_2, .string a1_3, .slice A1_4 l1_4.length c1_4, .string a1_5, .int .i64 a1_6, .int .i64 a1_7, .int .i64 a1_8, .int .i64 a1_9, .string a1_10, .int .i64 a1_11, .int .i64 a1_12]] w fun e w' => e = .returned (.bool r) ∧ Below w.heap.size w w' := by
 have hu28 := Tryz.underlying28
 have hu24 := Tryz.underlying24
 have hu26 := Tryz.underlying26
 have HR0_4 := Aside0.mk hr0_4
 have HC0_4 := Aside0.mk hc0_4
 clear hr0_4 hc0_4
 have HR1_4 := Aside0.mk hr1_4
 have HC1_4 := Aside0.mk hc1_4
 clear hr1_4 hc1_4
 have HB := Aside0.mk (Below.refl w.heap.size w)
 have H := h
 unfold laws_eqRecord.f at H
 clear h
 have HS3 := Aside0.mk H
 clear H
 go_enter Tryz.func8, Tryz.ntmps8
 go_upto_if 9 with (first | ((with_reducible refine gate_dst (N := 2) rfl ?_); refine box_event (by rfl) (N := 2) (by rfl) (cs := #[.int .i64 a0_0, .int .i64 a0_1, .int .i64 a0_2, .string a0_3, .slice A0_4 l0_4.length c0_4, .string a0_5, .int .i64 a0_6, .int .i64 a0_7, .int .i64 a0_8, .int .i64 a0_9, .string a0_10, .int .i64 a0_11, .int .i64 a0_12]) (t := 28) (by first | (go_simp; done) | (go_simp; rfl)) ?_; intro gb379 hg w4 hbox hb; have BK379 := Aside0.mk (hbox); have GW379 := Aside0.mk ((by rw [hg]; exact (below_size (bq_)) : w.heap.size ≤ gb379)); have GE379 := GW379; replace HB := Aside0.mk (below_step (bq_) hb); clear hb hbox hg) | ((with_reducible refine gate_dst (N := 3) rfl ?_); refine box_event (by rfl) (N := 3) (by rfl) (cs := #[.int .i64 a1_0, .int .i64 a1_1, .int .i64 a1_2, .string a1_3, .slice A1_4 l1_4.length c1_4, .string a1_5, .int .i64 a1_6, .int .i64 a1_7, .int .i64 a1_8, .int .i64 a1_9, .string a1_10, .int .i64 a1_11, .int .i64 a1_12]) (t := 28) (by first | (go_simp; done) | (go_simp; rfl)) ?_; intro gb380 hg w5 hbox hb; have BK380 := Aside0.mk (hbox); have GW380 := Aside0.mk ((by rw [hg]; exact (below_size (by repeat (first | (with_reducible first | exact HB.out | apply below_alloc | apply pw_below_drewN | apply below_drew1 | refine below_set ?_ GE379.out) | exact HB.out))) : w.heap.size ≤ gb380)); have GE380 := GW380; replace HB := Aside0.mk (below_step (by repeat (first | (with_reducible first | exact HB.out | apply below_alloc | apply pw_below_drewN | apply below_drew1 | refine below_set ?_ GE379.out) | exact HB.out)) hb); have NB379_380 := Aside0.mk ((by rw [hg]; exact Nat.ne_of_lt (blk_lt (g := gb379) (o := .cells #[.int .i64 a0_0, .int .i64 a0_1, .int .i64 a0_2, .string a0_3, .slice A0_4 l0_4.length c0_4, .string a0_5, .int .i64 a0_6, .int .i64 a0_7, .int .i64 a0_8, .int .i64 a0_9, .string a0_10, .int .i64 a0_11, .int .i64 a0_12] 28 (0, 0)) (by (with_reducible repeat (first | refine blk_drewN ?_ _ | refine blk_drew ?_ | refine blk_alloc ?_ _)); exact BK379.out)) : gb379 ≠ gb380)); have NB380_379 := Aside0.mk NB379_380.out.symm; replace BK379 := Aside0.mk (zbb BK379.out hb); clear hb hbox hg; have hnb6 := NB379_380.out; have hnc6 := NB380_379.out; obtain ⟨q7_0, q7_1, q7_2, q7_3, q7_4, q7_5, q7_6, q7_7, q7_8, q7_9, q7_10, q7_11, q7_12⟩ := zc13 BK379.out; obtain ⟨f7_0, f7_1, f7_2, f7_3, f7_4, f7_5, f7_6, f7_7, f7_8, f7_9, f7_10, f7_11, f7_12⟩ := zf13 BK379.out; obtain ⟨q8_0, q8_1, q8_2, q8_3, q8_4, q8_5, q8_6, q8_7, q8_8, q8_9, q8_10, q8_11, q8_12⟩ := zc13 BK380.out; obtain ⟨f8_0, f8_1, f8_2, f8_3, f8_4, f8_5, f8_6, f8_7, f8_8, f8_9, f8_10, f8_11, f8_12⟩ := zf13 BK380.out))
 (try simp only [Act.put, List.setIfInBounds_toArray, List.set_cons_zero, List.set_cons_succ])
 have H := HS3.out
 clear HS3
 by_cases c9 : a0_0 = a1_0
 ·rw [if_pos c9] at H
  have c9b0 : (a0_0 == a1_0) = true := beq_iff_eq.mpr c9
  have c9b1 : (a0_0 != a1_0) = false := bne_eq_false_iff_eq.mpr c9
  clear c9
  (first | rw [c9b0] | (simp only [i64_w, i32_w]; rw [c9b0]) | rw [c9b1] | simp only [c9b2, decide_true, decide_false] | skip)
  obtain ⟨t381, A10, H⟩ := zbi H
  have HS11 := Aside0.mk H
  clear H
  have hnb12 := NB379_380.out
  have hnc12 := NB380_379.out
  obtain ⟨q13_0, q13_1, q13_2, q13_3, q13_4, q13_5, q13_6, q13_7, q13_8, q13_9, q13_10, q13_11, q13_12⟩ := zc13 BK379.out
  obtain ⟨f13_0, f13_1, f13_2, f13_3, f13_4, f13_5, f13_6, f13_7, f13_8, f13_9, f13_10, f13_11, f13_12⟩ := zf13 BK379.out
  obtain ⟨q14_0, q14_1, q14_2, q14_3, q14_4, q14_5, q14_6, q14_7, q14_8, q14_9, q14_10, q14_11, q14_12⟩ := zc13 BK380.out
  obtain ⟨f14_0, f14_1, f14_2, f14_3, f14_4, f14_5, f14_6, f14_7, f14_8, f14_9, f14_10, f14_11, f14_12⟩ := zf13 BK380.out
  go_upto_if 15 with (first | ((with_reducible refine gate_callee (f := 32) rfl ?_); refine goesL_ (some 14) rfl rfl Tryz.func32 (by kernel_rfl) rfl #[.agg #[.int .i64 a0_1, .int .i64 a0_2, .string a0_3, .slice A0_4 l0_4.length c0_4, .string a0_5], .agg #[.int .i64 a1_1, .int .i64 a1_2, .string a1_3, .slice A1_4 l1_4.length c1_4, .string a1_5]] rfl z20_7_ ?_; (with_reducible refine (laws_eqMessage.calls k a0_1 a0_2 a0_3 _ _ l0_4 a0_5 a1_1 a1_2 a1_3 _ _ l1_4 a1_5 t381 _ ?side1 ?side2 ?side3 ?side4 A10.out).mono ?_); (case side1 => exact (by repeat (first | exact (Kd.C_below HR0_4.out HB.out) | (with_reducible refine Kd.C_alloc ?_ _) | (with_reducible refine Kd.C_drewN ?_ _) | (with_reducible refine Kd.C_drew ?_)))); (case side2 => exact HC0_4.out); (case side3 => exact (by repeat (first | exact (Kd.C_below HR1_4.out HB.out) | (with_reducible refine Kd.C_alloc ?_ _) | (with_reducible refine Kd.C_drewN ?_ _) | (with_reducible refine Kd.C_drew ?_)))); (case side4 => exact HC1_4.out); rintro e w15 ⟨rfl, hb⟩; refine ⟨_, rfl, ?_⟩; replace BK379 := Aside0.mk (zbb BK379.out hb); replace BK380 := Aside0.mk (zbb BK380.out hb); replace HB := Aside0.mk (below_step z20_1_ hb); clear hb))
  (try simp only [Act.put, List.setIfInBounds_toArray, List.set_cons_zero, List.set_cons_succ])
  have H := HS11.out
  clear HS11
  by_cases c16 : t381 = true
  ·subst c16
   rw [if_pos rfl] at H
   by_cases c17 : a0_6 = a1_6
   ·rw [if_pos c17] at H
    have c17b0 : (a0_6 == a1_6) = true := beq_iff_eq.mpr c17
    have c17b1 : (a0_6 != a1_6) = false := bne_eq_false_iff_eq.mpr c17
    clear c17
    (first | rw [c17b0] | (simp only [i64_w, i32_w]; rw [c17b0]) | rw [c17b1] | simp only [c17b2, decide_true, decide_false] | skip)
    by_cases c18 : a0_7 = a1_7
    ·rw [if_pos c18] at H
     have c18b0 : (a0_7 == a1_7) = true := beq_iff_eq.mpr c18
     have c18b1 : (a0_7 != a1_7) = false := bne_eq_false_iff_eq.mpr c18
     clear c18
     obtain ⟨t382, A19, H⟩ := zbi H
     have HS20 := Aside0.mk H
     clear H
     have hnb21 := NB379_380.out
     have hnc21 := NB380_379.out
     obtain ⟨q22_0, q22_1, q22_2, q22_3, q22_4, q22_5, q22_6, q22_7, q22_8, q22_9, q22_10, q22_11, q22_12⟩ := zc13 BK379.out
     obtain ⟨f22_0, f22_1, f22_2, f22_3, f22_4, f22_5, f22_6, f22_7, f22_8, f22_9, f22_10, f22_11, f22_12⟩ := zf13 BK379.out
     obtain ⟨q23_0, q23_1, q23_2, q23_3, q23_4, q23_5, q23_6, q23_7, q23_8, q23_9, q23_10, q23_11, q23_12⟩ := zc13 BK380.out
     obtain ⟨f23_0, f23_1, f23_2, f23_3, f23_4, f23_5, f23_6, f23_7, f23_8, f23_9, f23_10, f23_11, f23_12⟩ := zf13 BK380.out
     go_upto_if 31 with (first | ((with_reducible refine gate_callee (f := 33) rfl ?_); refine goesL_ (some 30) rfl rfl Tryz.func33 (by kernel_rfl) rfl #[.agg #[.int .i64 a0_8, .int .i64 a0_9, .string a0_10], .agg #[.int .i64 a1_8, .int .i64 a1_9, .string a1_10]] rfl z20_7_ ?_; (with_reducible refine (laws_eqVerdict.calls a0_8 a0_9 a0_10 a1_8 a1_9 a1_10 t382 _ A19.out).mono ?_); rintro e w24 ⟨rfl, hb⟩; refine ⟨_, rfl, ?_⟩; replace BK379 := Aside0.mk (zbb BK379.out hb); replace BK380 := Aside0.mk (zbb BK380.out hb); replace HB := Aside0.mk (below_step z20_1_ hb); clear hb))
     (try simp only [Act.put, List.setIfInBounds_toArray, List.set_cons_zero, List.set_cons_succ])
     have H := HS20.out
     clear HS20
     by_cases c25 : t382 = true
     ·subst c25
      rw [if_pos rfl] at H
      by_cases c26 : a0_11 = a1_11
      ·rw [if_pos c26] at H
       have c26b0 : (a0_11 == a1_11) = true := beq_iff_eq.mpr c26
       have c26b1 : (a0_11 != a1_11) = false := bne_eq_false_iff_eq.mpr c26
       clear c26
       (first | rw [c26b0] | (simp only [i64_w, i32_w]; rw [c26b0]) | rw [c26b1] | simp only [c26b2, decide_true, decide_false] | skip)
       by_cases c27 : a0_12 = a1_12
       ·rw [if_pos c27] at H
        have c27b0 : (a0_12 == a1_12) = true := beq_iff_eq.mpr c27
        have c27b1 : (a0_12 != a1_12) = false := bne_eq_false_iff_eq.mpr c27
        clear c27
        obtain rfl := Option.some.inj H
        have hnb28 := NB379_380.out
        have hnc28 := NB380_379.out
        obtain ⟨q29_0, q29_1, q29_2, q29_3, q29_4, q29_5, q29_6, q29_7, q29_8, q29_9, q29_10, q29_11, q29_12⟩ := zc13 BK379.out
        obtain ⟨f29_0, f29_1, f29_2, f29_3, f29_4, f29_5, f29_6, f29_7, f29_8, f29_9, f29_10, f29_11, f29_12⟩ := zf13 BK379.out
        obtain ⟨q30_0, q30_1, q30_2, q30_3, q30_4, q30_5, q30_6, q30_7, q30_8, q30_9, q30_10, q30_11, q30_12⟩ := zc13 BK380.out
        obtain ⟨f30_0, f30_1, f30_2, f30_3, f30_4, f30_5, f30_6, f30_7, f30_8, f30_9, f30_10, f30_11, f30_12⟩ := zf13 BK380.out
        go_wp2
        go_ret
        exact ⟨z20_0_, z20_1_⟩
       ·rw [if_neg c27] at H
        have c27b0 : (a0_12 == a1_12) = false := beq_eq_false_iff_ne.mpr c27
        have c27b1 : (a0_12 != a1_12) = true := bne_iff_ne.mpr c27
        obtain rfl := Option.some.inj H
        have hnb31 := NB379_380.out
        have hnc31 := NB380_379.out
        obtain ⟨q32_0, q32_1, q32_2, q32_3, q32_4, q32_5, q32_6, q32_7, q32_8, q32_9, q32_10, q32_11, q32_12⟩ := zc13 BK379.out
        obtain ⟨f32_0, f32_1, f32_2, f32_3, f32_4, f32_5, f32_6, f32_7, f32_8, f32_9, f32_10, f32_11, f32_12⟩ := zf13 BK379.out
        obtain ⟨q33_0, q33_1, q33_2, q33_3, q33_4, q33_5, q33_6, q33_7, q33_8, q33_9, q33_10, q33_11, q33_12⟩ := zc13 BK380.out
        obtain ⟨f33_0, f33_1, f33_2, f33_3, f33_4, f33_5, f33_6, f33_7, f33_8, f33_9, f33_10, f33_11, f33_12⟩ := zf13 BK380.out
        go_wp2
        go_ret
        exact ⟨z20_0_, z20_1_⟩
      ·rw [if_neg c26] at H
       have c26b0 : (a0_11 == a1_11) = false := beq_eq_false_iff_ne.mpr c26
       have c26b1 : (a0_11 != a1_11) = true := bne_iff_ne.mpr c26
       (first | rw [c26b0] | (simp only [i64_w, i32_w]; rw [c26b0]) | rw [c26b1] | simp only [c26b2, decide_true, decide_false] | skip)
       obtain rfl := Option.some.inj H
       have hnb34 := NB379_380.out
       have hnc34 := NB380_379.out
       obtain ⟨q35_0, q35_1, q35_2, q35_3, q35_4, q35_5, q35_6, q35_7, q35_8, q35_9, q35_10, q35_11, q35_12⟩ := zc13 BK379.out
       obtain ⟨f35_0, f35_1, f35_2, f35_3, f35_4, f35_5, f35_6, f35_7, f35_8, f35_9, f35_10, f35_11, f35_12⟩ := zf13 BK379.out
       obtain ⟨q36_0, q36_1, q36_2, q36_3, q36_4, q36_5, q36_6, q36_7, q36_8, q36_9, q36_10, q36_11, q36_12⟩ := zc13 BK380.out
       obtain ⟨f36_0, f36_1, f36_2, f36_3, f36_4, f36_5, f36_6, f36_7, f36_8, f36_9, f36_10, f36_11, f36_12⟩ := zf13 BK380.out
       go_wp2
       go_ret
       exact ⟨z20_0_, z20_1_⟩
     ·replace c25 := Bool.eq_false_iff.mpr c25
      subst c25
      rw [if_neg (show ¬ (false = true) by decide)] at H
      obtain rfl := Option.some.inj H
      go_wp2
      go_ret
      exact ⟨z20_0_, z20_1_⟩
    ·rw [if_neg c18] at H
     have c18b0 : (a0_7 == a1_7) = false := beq_eq_false_iff_ne.mpr c18
     have c18b1 : (a0_7 != a1_7) = true := bne_iff_ne.mpr c18
     obtain rfl := Option.some.inj H
     have hnb37 := NB379_380.out
     have hnc37 := NB380_379.out
     obtain ⟨q38_0, q38_1, q38_2, q38_3, q38_4, q38_5, q38_6, q38_7, q38_8, q38_9, q38_10, q38_11, q38_12⟩ := zc13 BK379.out
     obtain ⟨f38_0, f38_1, f38_2, f38_3, f38_4, f38_5, f38_6, f38_7, f38_8, f38_9, f38_10, f38_11, f38_12⟩ := zf13 BK379.out
     obtain ⟨q39_0, q39_1, q39_2, q39_3, q39_4, q39_5, q39_6, q39_7, q39_8, q39_9, q39_10, q39_11, q39_12⟩ := zc13 BK380.out
     obtain ⟨f39_0, f39_1, f39_2, f39_3, f39_4, f39_5, f39_6, f39_7, f39_8, f39_9, f39_10, f39_11, f39_12⟩ := zf13 BK380.out
     go_wp2
     go_ret
     exact ⟨z20_0_, z20_1_⟩
   ·rw [if_neg c17] at H
    have c17b0 : (a0_6 == a1_6) = false := beq_eq_false_iff_ne.mpr c17
    have c17b1 : (a0_6 != a1_6) = true := bne_iff_ne.mpr c17
    (first | rw [c17b0] | (simp only [i64_w, i32_w]; rw [c17b0]) | rw [c17b1] | simp only [c17b2, decide_true, decide_false] | skip)
    obtain rfl := Option.some.inj H
    have hnb40 := NB379_380.out
    have hnc40 := NB380_379.out
    obtain ⟨q41_0, q41_1, q41_2, q41_3, q41_4, q41_5, q41_6, q41_7, q41_8, q41_9, q41_10, q41_11, q41_12⟩ := zc13 BK379.out
    obtain ⟨f41_0, f41_1, f41_2, f41_3, f41_4, f41_5, f41_6, f41_7, f41_8, f41_9, f41_10, f41_11, f41_12⟩ := zf13 BK379.out
    obtain ⟨q42_0, q42_1, q42_2, q42_3, q42_4, q42_5, q42_6, q42_7, q42_8, q42_9, q42_10, q42_11, q42_12⟩ := zc13 BK380.out
    obtain ⟨f42_0, f42_1, f42_2, f42_3, f42_4, f42_5, f42_6, f42_7, f42_8, f42_9, f42_10, f42_11, f42_12⟩ := zf13 BK380.out
    go_wp2
    go_ret
    exact ⟨z20_0_, z20_1_⟩
  ·replace c16 := Bool.eq_false_iff.mpr c16
   subst c16
   rw [if_neg (show ¬ (false = true) by decide)] at H
   obtain rfl := Option.some.inj H
   go_wp2
   go_ret
   exact ⟨z20_0_, z20_1_⟩
 ·rw [if_neg c9] at H
  have c9b0 : (a0_0 == a1_0) = false := beq_eq_false_iff_ne.mpr c9
  have c9b1 : (a0_0 != a1_0) = true := bne_iff_ne.mpr c9
  (first | rw [c9b0] | (simp only [i64_w, i32_w]; rw [c9b0]) | rw [c9b1] | simp only [c9b2, decide_true, decide_false] | skip)
  obtain rfl := Option.some.inj H
  go_wp2
  go_ret
  exact ⟨z20_0_, z20_1_⟩
/-! ### laws_markText: function 48 -/
def laws_markText.l0 : Nat → Int → ByteArray → Option (ByteArray)
 | 0, _, _ => none
 | k + 1, x0, x3 => if x0 > 0 then ((some (([(wrap64 (48 + (Int.tmod x0 10))) % 256] : List Int) : List Int)).bind fun y383 => (if (strOfNums y383).size + x3.size ≤ 9223372036854775807 then (laws_markText.l0 k (wrap64 (Int.tdiv x0 10)) ((strOfNums y383) ++ x3)) else (none))) else (if 1 + x3.size ≤ 9223372036854775807 then (some ((⟨#[109]⟩ : ByteArray) ++ x3)) else (none))
def laws_markText.f (k : Nat) (a0 : Int) : Option (ByteArray) := if a0 ≤ 0 then (some (⟨#[109, 48]⟩ : ByteArray)) else (laws_markText.l0 k a0 (⟨#[]⟩ : ByteArray))
theorem laws_markText.mono_l : ∀ k, (∀ y0 y1, LeO (laws_markText.l0 k y0 y1) (laws_markText.l0 (k + 1) y0 y1))
 | 0 => fun _ _ r h => by simp [laws_markText.l0] at h
 | k + 1 => by
  have ih0 := laws_markText.mono_l k
  ·intro y0 y1
   unfold laws_markText.l0
   repeat' first
   | (with_reducible exact ih0 _ _)
   | (with_reducible exact LeO.refl _)
   | (with_reducible exact LeO.none _)
   | (with_reducible refine LeO.ite ?_ ?_)
   | (with_reducible refine LeO.bind ?_ (fun _ => ?_))
   | exact ih0 _ _
   | exact LeO.none _
   | refine LeO.ite ?_ ?_
   | refine LeO.bind ?_ (fun _ => ?_)
theorem laws_markText.mono : ∀ a0 k, LeO (laws_markText.f k a0) (laws_markText.f (k + 1) a0) := by
 intro a0 k
 have ih0 := laws_markText.mono_l k
 unfold laws_markText.f
 repeat' first
   | (with_reducible exact ih0 _ _)
   | (with_reducible exact LeO.refl _)
   | (with_reducible exact LeO.none _)
   | (with_reducible refine LeO.ite ?_ ?_)
   | (with_reducible refine LeO.bind ?_ (fun _ => ?_))
   | exact ih0 _ _
   | exact LeO.none _
   | refine LeO.ite ?_ ?_
   | refine LeO.bind ?_ (fun _ => ?_)
set_option maxHeartbeats 8000000 in
set_option maxRecDepth 100000 in
theorem laws_markText.calls (k : Nat) (a0 : Int) (r : ByteArray) (w : World) (h : laws_markText.f k a0 = some r) :
  Calls Tryz.prog 48 #[.int .i64 a0] w fun e w' => e = .returned (.string r) ∧ Below w.heap.size w w' := by
 have HB := Aside0.mk (Below.refl w.heap.size w)
 have H : (if a0 ≤ 0 then (some (⟨#[109, 48]⟩ : ByteArray)) else (laws_markText.l0 k a0 (⟨#[]⟩ : ByteArray))) = some r := h
 clear h
 by_cases c2 : a0 ≤ 0
 ·rw [if_pos c2] at H
  have c2b0 : decide (a0 ≤ 0) = true := decide_eq_true c2
  clear c2
  obtain rfl := Option.some.inj H
  go_enter Tryz.func48, Tryz.ntmps48
  go_wp2
  go_ret
  exact ⟨z20_0_, bq_⟩
 ·rw [if_neg c2] at H
  have c2b0 : decide (a0 ≤ 0) = false := decide_eq_false c2
  clear c2
  have H' := Aside0.mk H
  clear H
  go_enter Tryz.func48, Tryz.ntmps48
  go_wp2
  go_loopg [0, 3] k (fun kq v0 v3 w' => ∃ (x0_1 : Int) (x3_1 : ByteArray), v0 = .int .i64 x0_1 ∧ v3 = .string x3_1 ∧ Aside0 (laws_markText.l0 kq x0_1 x3_1 = some r) ∧ Aside0 (kq ≤ k) ∧ Aside0 (Below w.heap.size w w'))
  case atStart => exact ⟨(a0), ((⟨#[]⟩ : ByteArray)), z20_4_, z20_4_, H', ⟨Nat.le_refl _⟩, ⟨bq_⟩⟩
  case round =>
   clear H'
   try clear c2
   try clear c2b0
   try clear p2
   obtain ⟨x0_1, x3_1, rfl, rfl, HA, HK1, HB⟩ := hrel
   cases gk with
   | zero => exact absurd HA.out (by simp [laws_markText.l0])
   | succ k1 =>
    have H := HA.out
    clear HA
    simp only [laws_markText.l0] at H
    by_cases c3 : x0_1 > 0
    ·rw [if_pos c3] at H
     have c3b0 : decide (0 < x0_1) = true := decide_eq_true c3
     clear c3
     obtain ⟨y383, hy383⟩ : ∃ y_ : List Int, y_ = (([(wrap64 (48 + (Int.tmod x0_1 10))) % 256] : List Int)) := ⟨_, rfl⟩
     replace H : (if (strOfNums y383).size + x3_1.size ≤ 9223372036854775807 then (laws_markText.l0 k1 (wrap64 (Int.tdiv x0_1 10)) ((strOfNums y383) ++ x3_1)) else (none)) = some r := by first | (rw [hy383]; with_reducible exact H) | (have H2_ := (Option.bind_some _ _).symm.trans H; rw [hy383]; with_reducible exact H2_) | (have H2_ := (Option.bind_some _ _).symm.trans H; with_reducible exact H2_) | with_reducible exact H | (rw [hy383]; exact H) | exact H
     have Ny383 := Aside0.mk hy383
     clear hy383
     by_cases c4 : (strOfNums y383).size + x3_1.size ≤ 9223372036854775807
     ·rw [if_pos c4] at H
      have c4b0 := eq_true c4
      have c4b1 : decide ((strOfNums y383).size + x3_1.size ≤ 9223372036854775807) = true := decide_eq_true c4
      try have c4b2 : (9223372036854775807 < (strOfNums y383).size + x3_1.size) = False := eq_false (Nat.not_lt.2 c4)
      have H' := Aside0.mk H
      clear H
      go_wp2_with (first | ((with_reducible refine gate_dst (N := 12) rfl ?_); refine Kd.R_lit (Kd.int .u8) _ 5 ?hg (N := 12) ?hd (xs := ([(wrap64 (48 + (Int.tmod x0_1 10))) % 256] : List Int)) (inner := [.int .u8 ((wrap64 (48 + (Int.tmod x0_1 10))) % 256)]) (ok := fun _ => True) (okp := fun _ => True) ?hr ?hp (fun _ hk => hk) trivial (Below.refl _ _) (Nat.le_refl _) (by simp) ?_; (case hd => rfl); (case hg => rfl); (case hr => first | (go_simp; done) | (go_simp; rfl)); (case hp => exact (Reps.one (show Kd.M (Kd.int .u8) _ _ _ ((wrap64 (48 + (Int.tmod x0_1 10))) % 256) [.int .u8 ((wrap64 (48 + (Int.tmod x0_1 10))) % 256)] from rfl) (Reps.none _ _))); intro v384 w5 ho6 hb hg_ hnew_; clear hg_ hnew_; (first | rw [← Ny383.out] at ho6 | (simp only [Int.reduceToNat] at ho6; rw [← Ny383.out] at ho6)); have HO385 := Aside0.mk (Kd.R_lower ho6 (below_size (bq_))); replace HB := Aside0.mk (below_step (bq_) hb); clear hb ho6; have hcv7 := own_string (P := Tryz.prog) Tryz.underlying34 Tryz.underlying5 Tryz.underlying9 (Kd.own_of_R HO385.out)))
      go_roundg k1
      case measure => have := HK1.out; omega
      case rel => exact ⟨(wrap64 (Int.tdiv x0_1 10)), ((strOfNums y383) ++ x3_1), z20_4_, z20_4_, H', ⟨(by have := HK1.out; omega)⟩, ⟨bq_⟩⟩
     ·rw [if_neg c4] at H
      exact absurd H (by simp)
    ·rw [if_neg c3] at H
     have c3b0 : decide (0 < x0_1) = false := decide_eq_false c3
     clear c3
     by_cases c8 : 1 + x3_1.size ≤ 9223372036854775807
     ·rw [if_pos c8] at H
      have c8b0 := eq_true c8
      have c8b1 : decide (1 + x3_1.size ≤ 9223372036854775807) = true := decide_eq_true c8
      try have c8b2 : (9223372036854775807 < 1 + x3_1.size) = False := eq_false (Nat.not_lt.2 c8)
      obtain rfl := Option.some.inj H
      go_wp2
      go_ret
      exact ⟨z20_0_, bq_⟩
     ·rw [if_neg c8] at H
      exact absurd H (by simp)
/-! ### laws_markStringS: function 21 -/
def laws_markStringS.l0 : Nat → List ByteArray → Int → Int → Option (Int × List ByteArray)
 | 0, _, _, _ => none
 | k + 1, x0, x1, x5 => if x5 < (x0.length : Int) then ((laws_markText.f k x1).bind fun t386 => (if 0 ≤ x5 then (laws_markStringS.l0 k (x0.set (x5 : Int).toNat t386) (wrap64 (x1 + 1)) (wrap64 (x5 + 1))) else (none))) else (some (x1, x0))
def laws_markStringS.f (k : Nat) (l0 : List ByteArray) (a1 : Int) : Option (Int × List ByteArray) := laws_markStringS.l0 k l0 a1 0
theorem laws_markStringS.mono_l : ∀ k, (∀ y0 y1 y2, LeO (laws_markStringS.l0 k y0 y1 y2) (laws_markStringS.l0 (k + 1) y0 y1 y2))
 | 0 => fun _ _ _ r h => by simp [laws_markStringS.l0] at h
 | k + 1 => by
  have ih0 := laws_markStringS.mono_l k
  ·intro y0 y1 y2
   unfold laws_markStringS.l0
   repeat' first
   | (with_reducible exact ih0 _ _ _)
   | (with_reducible exact laws_markText.mono _ _)
   | (with_reducible exact LeO.refl _)
   | (with_reducible exact LeO.none _)
   | (with_reducible refine LeO.ite ?_ ?_)
   | (with_reducible refine LeO.bind ?_ (fun _ => ?_))
   | exact ih0 _ _ _
   | exact laws_markText.mono _ _
   | exact LeO.none _
   | refine LeO.ite ?_ ?_
   | refine LeO.bind ?_ (fun _ => ?_)
theorem laws_markStringS.mono : ∀ a0 a1 k, LeO (laws_markStringS.f k a0 a1) (laws_markStringS.f (k + 1) a0 a1) := by
 intro a0 a1 k
 have ih0 := laws_markStringS.mono_l k
 unfold laws_markStringS.f
 repeat' first
   | (with_reducible exact ih0 _ _ _)
   | (with_reducible exact laws_markText.mono _ _)
   | (with_reducible exact LeO.refl _)
   | (with_reducible exact LeO.none _)
   | (with_reducible refine LeO.ite ?_ ?_)
   | (with_reducible refine LeO.bind ?_ (fun _ => ?_))
   | exact ih0 _ _ _
   | exact laws_markText.mono _ _
   | exact LeO.none _
   | refine LeO.ite ?_ ?_
   | refine LeO.bind ?_ (fun _ => ?_)
set_option maxHeartbeats 8000000 in
set_option maxRecDepth 100000 in
theorem laws_markStringS.calls (k : Nat) (P0_ : Nat → Prop) (u9000_ : Value) (l0 : List ByteArray) (a1 : Int) (r1 : Int) (r2 : List ByteArray) (w0 w : World) (hB : Below w0.heap.size w0 w) (ho0 : Kd.R Kd.string 9 w w0.heap.size P0_ u9000_ l0) (h : laws_markStringS.f k l0 a1 = some (r1, r2)) :
  Calls Tryz.prog 21 #[u9000_, .int .i64 a1] w fun e w' => e = .returned (.int .i64 r1) ∧ Kd.R Kd.string 9 w' w0.heap.size (fun k_ => (P0_ k_ ∨ w.heap.size ≤ k_)) u9000_ r2 ∧ Below w0.heap.size w0 w' ∧ Kept w w' (fun k_ => P0_ k_) := by
 have HO0 := Aside0.mk (show Kd.R Kd.string 9 w w0.heap.size (fun k_ => (P0_ k_ ∨ w.heap.size ≤ k_)) u9000_ l0 from Kd.R_mono ho0 (fun k_ hk => (.inl hk)))
 have HK := Aside0.mk (Kept.refl w (fun k_ => P0_ k_))
 have HW0 := Aside0.mk hB.size
 have HB := Aside0.mk hB
 clear hB
 have H : (laws_markStringS.l0 k l0 a1 0) = some (r1, r2) := h
 clear h
 have H' := Aside0.mk H
 clear H
 go_enter Tryz.func21, Tryz.ntmps21
 go_wp2
 go_loopg [1, 5] k (fun kq v1 v5 w' => ∃ (x0_1 : List ByteArray) (x1_1 : Int) (x5_1 : Int), v1 = .int .i64 x1_1 ∧ v5 = .int .i64 x5_1 ∧ Aside0 (laws_markStringS.l0 kq x0_1 x1_1 x5_1 = some (r1, r2)) ∧ Aside0 (kq ≤ k) ∧ Aside0 (Kd.R Kd.string 9 w' w0.heap.size (fun k_ => (P0_ k_ ∨ w.heap.size ≤ k_)) u9000_ x0_1) ∧ Aside0 (Kept w w' (fun k_ => P0_ k_)) ∧ Aside0 (Below w0.heap.size w0 w'))
 case atStart => exact ⟨(l0), (a1), (0), z20_4_, z20_4_, H', ⟨Nat.le_refl _⟩, ⟨(by (with_reducible repeat (first | apply Kd.R_alloc | apply Kd.R_drewN | apply Kd.R_drew)); exact HO0.out)⟩, ⟨z20_6_⟩, ⟨bq_⟩⟩
 case round =>
  clear H'
  try clear c2
  try clear p2
  obtain ⟨x0_1, x1_1, x5_1, rfl, rfl, HA, HK1, HO_0, HK, HB⟩ := hrel
  cases gk with
  | zero => exact absurd HA.out (by simp [laws_markStringS.l0])
  | succ k1 =>
   have H := HA.out
   clear HA
   simp only [laws_markStringS.l0] at H
   by_cases c3 : x5_1 < (x0_1.length : Int)
   ·rw [if_pos c3] at H
    have c3b0 : decide (x5_1 < (x0_1.length : Int)) = true := decide_eq_true c3
    clear c3
    obtain ⟨t386, A4, H⟩ := zbi H
    by_cases c5 : 0 ≤ x5_1
    ·rw [if_pos c5] at H
     have c5b0 : decide (0 ≤ x5_1) = true := decide_eq_true c5
     clear c5
     obtain ⟨y387, hy387⟩ : ∃ y_ : List ByteArray, y_ = (x0_1.set (x5_1 : Int).toNat t386) := ⟨_, rfl⟩
     replace H : (laws_markStringS.l0 k1 y387 (wrap64 (x1_1 + 1)) (wrap64 (x5_1 + 1))) = some (r1, r2) := by first | (rw [hy387]; with_reducible exact H) | (have H2_ := (Option.bind_some _ _).symm.trans H; rw [hy387]; with_reducible exact H2_) | (have H2_ := (Option.bind_some _ _).symm.trans H; with_reducible exact H2_) | with_reducible exact H | (rw [hy387]; exact H) | exact H
     have Ny387 := Aside0.mk hy387
     clear hy387
     have H' := Aside0.mk H
     clear H
     obtain ⟨Ao7, co7, eo7⟩ := Kd.R_slice HO_0.out
     subst eo7
     go_wp2_with (first | ((with_reducible refine gate_callee (f := 48) rfl ?_); refine goesL_ (some 15) rfl rfl Tryz.func48 (by kernel_rfl) rfl #[.int .i64 x1_1] rfl z20_7_ ?_; (with_reducible refine (laws_markText.calls k1 x1_1 t386 _ A4.out).mono ?_); rintro e w8 ⟨rfl, hb⟩; refine ⟨_, rfl, ?_⟩; replace HO_0 := Aside0.mk (Kd.R_below (by (with_reducible repeat (first | apply Kd.R_alloc | apply Kd.R_drewN | apply Kd.R_drew)); exact HO_0.out) hb); replace HK := Aside0.mk (Kept.below (S := (fun k_ => P0_ k_)) z20_6_ hb); replace HB := Aside0.mk (below_step (bq_) hb); clear hb; have p6 : 0 ≤ (x5_1 : Int) := of_decide_eq_true z20_5_; have q6 : (x5_1 : Int) < ((x0_1.length : Int) : Int) := of_decide_eq_true z20_5_; obtain ⟨go6, co6, eo6, gb6, gl6, cl6, HG6⟩ := Kd.R_form HO_0.out (by omega); (first | cases eo6 | (injection eo6 with ea_ en_ ec_; (first | subst ea_ | (injection ea_ with ea_; subst ea_)); subst ec_; clear en_)); have GB6 := Aside0.mk gb6; have GG6 := Aside0.mk HG6; clear gb6 gl6 HG6; have HMgo6 := Aside0.mk (show (P0_ go6 ∨ w.heap.size ≤ go6) from (HO_0.out.1 _ rfl)); obtain ⟨hx6_0, hf6_0⟩ := Kd.R_celln (⟨#[]⟩ : ByteArray) HO_0.out (x5_1 : Int) p6 q6; replace p6 := eq_true p6; replace q6 := eq_true q6; obtain ⟨hy9_, hz9_⟩ := Kd.R_celln (⟨#[]⟩ : ByteArray) HO_0.out (x5_1 : Int) (of_decide_eq_true z20_5_) (of_decide_eq_true z20_5_); have HP9 := Kd.R_putg HO_0.out (x5_1 : Int) t386) | ((with_reducible refine gate_store (t := 9) (p := 16) rfl ?_); refine store_event (t := 9) (p := 16) (v := ?vo_w10) (w1 := (w8.setCell ⟨go6, (x5_1 : Int).toNat, none⟩ (.string t386))) ?hg ?ho ?hn ?hr ?_; (case ho => rfl); (case hg => rfl); (case hn => rfl); (case hr => first | (go_simp; done) | (go_simp; rfl)); intro w10 hw; have hg : w8.grownBy w10 (some go6) := (by rw [hw]; exact HP9.2); have hp_ : Kd.R Kd.string 9 w10 w0.heap.size (fun k_ => (P0_ k_ ∨ w.heap.size ≤ k_)) (.slice (some ⟨go6, 0, none⟩) x0_1.length co7) y387 := (by rw [hw, Ny387.out]; exact HP9.1); clear HP9; replace HB := Aside0.mk ((by rw [hw]; exact below_set (HB.out) GB6.out : Below w0.heap.size w0 w10)); replace HK := Aside0.mk (Kept.of_grown (S := (fun k_ => P0_ k_)) hg z20_6_ (fun k_ e_ => (HO_0.out.1 k_ e_))); replace HO_0 := Aside0.mk (hp_); clear hg hw hp_))
     go_roundg k1
     case measure => have := HK1.out; omega
     case rel => exact ⟨(y387), (wrap64 (x1_1 + 1)), (wrap64 (x5_1 + 1)), z20_4_, z20_4_, H', ⟨(by have := HK1.out; omega)⟩, ⟨(by (with_reducible repeat (first | apply Kd.R_alloc | apply Kd.R_drewN | apply Kd.R_drew)); exact HO_0.out)⟩, ⟨z20_6_⟩, ⟨bq_⟩⟩
    ·rw [if_neg c5] at H
     exact absurd H (by simp)
   ·rw [if_neg c3] at H
    have c3b0 : decide (x5_1 < (x0_1.length : Int)) = false := decide_eq_false c3
    clear c3
    simp only [Option.some.injEq, Prod.mk.injEq] at H
    obtain ⟨rfl, rfl⟩ := H
    obtain ⟨Ao11, co11, eo11⟩ := Kd.R_slice HO_0.out
    subst eo11
    go_wp2
    go_ret
    exact ⟨z20_0_, (by (with_reducible repeat (first | apply Kd.R_alloc | apply Kd.R_drewN | apply Kd.R_drew)); exact HO_0.out), bq_, z20_6_⟩
end Go.Proofs.YtnlembpmcbnpnaaGreatDoor.X
