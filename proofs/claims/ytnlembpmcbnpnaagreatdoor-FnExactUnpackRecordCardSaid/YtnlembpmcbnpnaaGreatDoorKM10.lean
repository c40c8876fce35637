/- Part 10 of the proof of laws.FnExactUnpackRecord: contracts of functions that it reaches, and laws of what these compute. No condition beyond what each theorem says. -/
import Derived.Handed
import Derived.KernelRfl
import Derived.LaidMore
import Derived.LaidSub
import Derived.Lib.LaidTab
import Derived.Lib.SmallJoins
import Derived.OpenShut
import Derived.ProofKit
import Derived.Shelf.Vars
import Derived.SizedLaws
import Derived.Stop.Joined
import Derived.Stop.LaidErr
import Derived.Test.YtnlembpmcbnpnaaGreatDoorRows
import Derived.WalkKit
import Derived.Test.YtnlembpmcbnpnaaGreatDoorKM1
import Derived.Test.YtnlembpmcbnpnaaGreatDoorKM2
import Derived.Test.YtnlembpmcbnpnaaGreatDoorKM3
import Derived.Test.YtnlembpmcbnpnaaGreatDoorKM4
import Derived.Test.YtnlembpmcbnpnaaGreatDoorKM6
import Derived.Test.YtnlembpmcbnpnaaGreatDoorKM7
import Derived.Test.YtnlembpmcbnpnaaGreatDoorKM8
import Derived.Test.YtnlembpmcbnpnaaGreatDoorKM9
namespace Go.Proofs.YtnlembpmcbnpnaaGreatDoor.X
open Go.RowKit Go.Proofs.YtnlembpmcbnpnaaGreatDoorW.PrintWords Go.Proofs.YtnlembpmcbnpnaaGreatDoorW.PrintLast Go.Proofs.YtnlembpmcbnpnaaGreatDoorW.PrintMore
set_option linter.unusedVariables false
set_option linter.unusedSimpArgs false
theorem z21_0_ {P : Prop} (h : P := by first | rfl | (simp [errW_none, errW_some] <;> rfl) | (simp [*, errW_none, errW_some] <;> rfl)) : P := h
theorem z21_1_ {P : Prop} (h : P := by (try simp only [List.map_toArray, List.map_cons, List.map_nil]); first | done | rfl | (simp only [List.length_drop, List.length_take]; rfl)) : P := h
/-! ### laws_markMessage: function 34 -/
def laws_markMessage.f (k : Nat) (a0_0 : Int) (a0_1 : Int) (a0_2 : ByteArray) (l0_3 : List ByteArray) (a0_4 : ByteArray) (a1 : Int) : Option (Int × List ByteArray) := (laws_markStringS.f k l0_3 a1).bind fun bt389 => (some (bt389.1, bt389.2))
theorem laws_markMessage.mono : ∀ a0 a1 a2 a3 a4 a5 k, LeO (laws_markMessage.f k a0 a1 a2 a3 a4 a5) (laws_markMessage.f (k + 1) a0 a1 a2 a3 a4 a5) := by
 intro a0 a1 a2 a3 a4 a5 k
 unfold laws_markMessage.f
 repeat' first
   | (with_reducible exact laws_markStringS.mono _ _ _)
   | (with_reducible exact LeO.refl _)
   | (with_reducible exact LeO.none _)
   | (with_reducible refine LeO.ite ?_ ?_)
   | (with_reducible refine LeO.bind ?_ (fun _ => ?_))
   | exact laws_markStringS.mono _ _ _
   | exact LeO.none _
   | refine LeO.ite ?_ ?_
   | refine LeO.bind ?_ (fun _ => ?_)
set_option maxHeartbeats 8000000 in
set_option maxRecDepth 100000 in
theorem laws_markMessage.calls (k : Nat) (a0_0 : Int) (a0_1 : Int) (a0_2 : ByteArray) (P0_3_ : Nat → Prop) (u9000_ : Value) (l0_3 : List ByteArray) (a0_4 : ByteArray) (a1 : Int) (r1 : Int) (r2 : List ByteArray) (w0 w : World) (hB : Below w0.heap.size w0 w) (ho0_3 : Kd.R Kd.string 9 w w0.heap.size P0_3_ u9000_ l0_3) (h : laws_markMessage.f k a0_0 a0_1 a0_2 l0_3 a0_4 a1 = some (r1, r2)) :
  Calls Tryz.prog 34 #[.agg #[.int .i64 a0_0, .int .i64 a0_1, .string a0_2, u9000_, .string a0_4], .int .i64 a1] w fun e w' => e = .returned (.int .i64 r1) ∧ Kd.R Kd.string 9 w' w0.heap.size (fun k_ => (P0_3_ k_ ∨ w.heap.size ≤ k_)) u9000_ r2 ∧ Below w0.heap.size w0 w' ∧ Kept w w' (fun k_ => P0_3_ k_) := by
 have hu24 := Tryz.underlying24
 have HO0_3 := Aside0.mk (show Kd.R Kd.string 9 w w0.heap.size (fun k_ => (P0_3_ k_ ∨ w.heap.size ≤ k_)) u9000_ l0_3 from Kd.R_mono ho0_3 (fun k_ hk => (.inl hk)))
 have HK := Aside0.mk (Kept.refl w (fun k_ => P0_3_ k_))
 have HW0 := Aside0.mk hB.size
 have HB := Aside0.mk hB
 clear hB
 have H : ((laws_markStringS.f k l0_3 a1).bind fun bt389 => (some (bt389.1, bt389.2))) = some (r1, r2) := h
 clear h
 obtain ⟨⟨t389, t390⟩, A3, H⟩ := zbi H
 try dsimp only at H
 simp only [Option.some.injEq, Prod.mk.injEq] at H
 obtain ⟨rfl, rfl⟩ := H
 obtain ⟨Ao4, co4, eo4⟩ := Kd.R_slice HO0_3.out
 subst eo4
 go_enter Tryz.func34, Tryz.ntmps34
 go_wp2_with (first | ((with_reducible refine gate_dst (N := 2) rfl ?_); refine box_event (by rfl) (N := 2) (by rfl) (cs := #[.int .i64 a0_0, .int .i64 a0_1, .string a0_2, .slice Ao4 l0_3.length co4, .string a0_4]) (t := 24) (by first | (go_simp; done) | (go_simp; rfl)) ?_; intro gb388 hg w5 hbox hb; replace HO0_3 := Aside0.mk (Kd.R_below (by (with_reducible repeat (first | apply Kd.R_alloc | apply Kd.R_drewN | apply Kd.R_drew)); exact HO0_3.out) hb); have BK388 := Aside0.mk (hbox); have GW388 := Aside0.mk ((by rw [hg]; exact (by first | exact HK.out.1 | exact (show Kept w _ (fun k_ => P0_3_ k_) from by repeat (first | (with_reducible first | exact HK.out | apply Kept.alloc | apply Kept.drewN | apply Kept.drew) | exact HK.out)).1) : w.heap.size ≤ gb388)); replace HK := Aside0.mk (Kept.below (S := (fun k_ => P0_3_ k_)) (by repeat (first | (with_reducible first | exact HK.out | apply Kept.alloc | apply Kept.drewN | apply Kept.drew) | exact HK.out)) hb); have GE388 := Aside0.mk ((by rw [hg]; exact (below_size (bq_)) : w0.heap.size ≤ gb388)); replace HB := Aside0.mk (below_step (bq_) hb); clear hb hbox hg; obtain ⟨q6_0, q6_1, q6_2, q6_3, q6_4⟩ := zc5 BK388.out; obtain ⟨f6_0, f6_1, f6_2, f6_3, f6_4⟩ := zf5 BK388.out) | ((with_reducible refine gate_callee (f := 21) rfl ?_); refine goesL_ (some 8) rfl rfl Tryz.func21 (by kernel_rfl) rfl #[.slice Ao4 l0_3.length co4, .int .i64 a1] rfl z21_1_ ?_; (with_reducible refine (laws_markStringS.calls k (fun k_ => some k_ = (.slice Ao4 l0_3.length co4 : Value).ownBlock) (.slice Ao4 l0_3.length co4) l0_3 a1 t389 t390 w0 _ ?side1 ?side2 A3.out).mono ?_); (case side1 => exact (by repeat (first | (with_reducible first | exact HB.out | apply below_alloc | apply pw_below_drewN | apply below_drew1 | refine below_set ?_ GE388.out) | exact HB.out))); (case side2 => exact Kd.R_tight rfl HO0_3.out); rintro e w7 ⟨rfl, hy0, hb, hkp⟩; refine ⟨_, rfl, ?_⟩; replace BK388 := Aside0.mk (blk_kept (by (with_reducible repeat (first | refine blk_drewN ?_ _ | refine blk_drew ?_ | refine blk_alloc ?_ _)); exact BK388.out) hkp (fun hs_ => (fun e_ => (Kd.R_ne HO0_3.out BK388.out (by decide)) e_) hs_)); replace HK := Aside0.mk (Kept.then_ (S := (fun k_ => P0_3_ k_)) (by repeat (first | (with_reducible first | exact HK.out | apply Kept.alloc | apply Kept.drewN | apply Kept.drew | refine Kept.setCell ?_ (.inr GW388.out) _) | exact HK.out)) hkp (fun k_ hs_ => (fun e_ => (HO0_3.out.1 k_ e_.symm)) hs_)); replace HO0_3 := Aside0.mk (Kd.R_reok rfl hy0 (fun k_ e_ => HO0_3.out.1 k_ e_)); replace HB := Aside0.mk (hb); (try clear hb); (try clear hkp); (try clear hy0)))
 go_ret
 exact ⟨z21_0_, (by (with_reducible repeat (first | apply Kd.R_alloc | apply Kd.R_drewN | apply Kd.R_drew)); exact HO0_3.out), (by repeat (first | (with_reducible first | exact HB.out | apply below_alloc | apply pw_below_drewN | apply below_drew1 | refine below_set ?_ GE388.out) | exact HB.out)), (by repeat (first | (with_reducible first | exact HK.out | apply Kept.alloc | apply Kept.drewN | apply Kept.drew | refine Kept.setCell ?_ (.inr GW388.out) _) | exact HK.out))⟩
/-! ### laws_markRecord: function 9 -/
def laws_markRecord.f (k : Nat) (a0_0 : Int) (a0_1 : Int) (a0_2 : Int) (a0_3 : ByteArray) (l0_4 : List ByteArray) (a0_5 : ByteArray) (a0_6 : Int) (a0_7 : Int) (a0_8 : Int) (a0_9 : Int) (a0_10 : ByteArray) (a0_11 : Int) (a0_12 : Int) (a1 : Int) : Option (Int × List ByteArray) := (laws_markMessage.f k a0_1 a0_2 a0_3 l0_4 a0_5 a1).bind fun bt392 => (some (bt392.1, bt392.2))
theorem laws_markRecord.mono : ∀ a0 a1 a2 a3 a4 a5 a6 a7 a8 a9 a10 a11 a12 a13 k, LeO (laws_markRecord.f k a0 a1 a2 a3 a4 a5 a6 a7 a8 a9 a10 a11 a12 a13) (laws_markRecord.f (k + 1) a0 a1 a2 a3 a4 a5 a6 a7 a8 a9 a10 a11 a12 a13) := by
 intro a0 a1 a2 a3 a4 a5 a6 a7 a8 a9 a10 a11 a12 a13 k
 unfold laws_markRecord.f
 repeat' first
   | (with_reducible exact laws_markMessage.mono _ _ _ _ _ _ _)
   | (with_reducible exact LeO.refl _)
   | (with_reducible exact LeO.none _)
   | (with_reducible refine LeO.ite ?_ ?_)
   | (with_reducible refine LeO.bind ?_ (fun _ => ?_))
   | exact laws_markMessage.mono _ _ _ _ _ _ _
   | exact LeO.none _
   | refine LeO.ite ?_ ?_
   | refine LeO.bind ?_ (fun _ => ?_)
set_option maxHeartbeats 8000000 in
set_option maxRecDepth 100000 in
theorem laws_markRecord.calls (k : Nat) (a0_0 : Int) (a0_1 : Int) (a0_2 : Int) (a0_3 : ByteArray) (P0_4_ : Nat → Prop) (u9000_ : Value) (l0_4 : List ByteArray) (a0_5 : ByteArray) (a0_6 : Int) (a0_7 : Int) (a0_8 : Int) (a0_9 : Int) (a0_10 : ByteArray) (a0_11 : Int) (a0_12 : Int) (a1 : Int) (r1 : Int) (r2 : List ByteArray) (w0 w : World) (hB : Below w0.heap.size w0 w) (ho0_4 : Kd.R Kd.string 9 w w0.heap.size P0_4_ u9000_ l0_4) (h : laws_markRecord.f k a0_0 a0_1 a0_2 a0_3 l0_4 a0_5 a0_6 a0_7 a0_8 a0_9 a0_10 a0_11 a0_12 a1 = some (r1, r2)) :
  Calls Tryz.prog 9 #[.agg #[.int .i64 a0_0, .int .i64 a0_1, .int .i64 a0_2, .string a0_3, u9000_, .string a0_5, .int .i64 a0_6, .int .i64 a0_7, .int .i64 a0_8, .int .i64 a0_9, .string a0_10, .int .i64 a0_11, .int .i64 a0_12], .int .i64 a1] w fun e w' => e = .returned (.int .i64 r1) ∧ Kd.R Kd.string 9 w' w0.heap.size (fun k_ => (P0_4_ k_ ∨ w.heap.size ≤ k_)) u9000_ r2 ∧ Below w0.heap.size w0 w' ∧ Kept w w' (fun k_ => P0_4_ k_) := by
 have hu28 := Tryz.underlying28
 have hu24 := Tryz.underlying24
 have HO0_4 := Aside0.mk (show Kd.R Kd.string 9 w w0.heap.size (fun k_ => (P0_4_ k_ ∨ w.heap.size ≤ k_)) u9000_ l0_4 from Kd.R_mono ho0_4 (fun k_ hk => (.inl hk)))
 have HK := Aside0.mk (Kept.refl w (fun k_ => P0_4_ k_))
 have HW0 := Aside0.mk hB.size
 have HB := Aside0.mk hB
 clear hB
 have H : ((laws_markMessage.f k a0_1 a0_2 a0_3 l0_4 a0_5 a1).bind fun bt392 => (some (bt392.1, bt392.2))) = some (r1, r2) := h
 clear h
 obtain ⟨⟨t392, t393⟩, A3, H⟩ := zbi H
 try dsimp only at H
 simp only [Option.some.injEq, Prod.mk.injEq] at H
 obtain ⟨rfl, rfl⟩ := H
 obtain ⟨Ao4, co4, eo4⟩ := Kd.R_slice HO0_4.out
 subst eo4
 go_enter Tryz.func9, Tryz.ntmps9
 go_wp2_with (first | ((with_reducible refine gate_dst (N := 2) rfl ?_); refine box_event (by rfl) (N := 2) (by rfl) (cs := #[.int .i64 a0_0, .int .i64 a0_1, .int .i64 a0_2, .string a0_3, .slice Ao4 l0_4.length co4, .string a0_5, .int .i64 a0_6, .int .i64 a0_7, .int .i64 a0_8, .int .i64 a0_9, .string a0_10, .int .i64 a0_11, .int .i64 a0_12]) (t := 28) (by first | (go_simp; done) | (go_simp; rfl)) ?_; intro gb391 hg w5 hbox hb; replace HO0_4 := Aside0.mk (Kd.R_below (by (with_reducible repeat (first | apply Kd.R_alloc | apply Kd.R_drewN | apply Kd.R_drew)); exact HO0_4.out) hb); have BK391 := Aside0.mk (hbox); have GW391 := Aside0.mk ((by rw [hg]; exact (by first | exact HK.out.1 | exact (show Kept w _ (fun k_ => P0_4_ k_) from by repeat (first | (with_reducible first | exact HK.out | apply Kept.alloc | apply Kept.drewN | apply Kept.drew) | exact HK.out)).1) : w.heap.size ≤ gb391)); replace HK := Aside0.mk (Kept.below (S := (fun k_ => P0_4_ k_)) (by repeat (first | (with_reducible first | exact HK.out | apply Kept.alloc | apply Kept.drewN | apply Kept.drew) | exact HK.out)) hb); have GE391 := Aside0.mk ((by rw [hg]; exact (below_size (bq_)) : w0.heap.size ≤ gb391)); replace HB := Aside0.mk (below_step (bq_) hb); clear hb hbox hg; obtain ⟨q6_0, q6_1, q6_2, q6_3, q6_4, q6_5, q6_6, q6_7, q6_8, q6_9, q6_10, q6_11, q6_12⟩ := zc13 BK391.out; obtain ⟨f6_0, f6_1, f6_2, f6_3, f6_4, f6_5, f6_6, f6_7, f6_8, f6_9, f6_10, f6_11, f6_12⟩ := zf13 BK391.out) | ((with_reducible refine gate_callee (f := 34) rfl ?_); refine goesL_ (some 8) rfl rfl Tryz.func34 (by kernel_rfl) rfl #[.agg #[.int .i64 a0_1, .int .i64 a0_2, .string a0_3, .slice Ao4 l0_4.length co4, .string a0_5], .int .i64 a1] rfl z21_1_ ?_; (with_reducible refine (laws_markMessage.calls k a0_1 a0_2 a0_3 (fun k_ => some k_ = (.slice Ao4 l0_4.length co4 : Value).ownBlock) (.slice Ao4 l0_4.length co4) l0_4 a0_5 a1 t392 t393 w0 _ ?side1 ?side2 A3.out).mono ?_); (case side1 => exact (by repeat (first | (with_reducible first | exact HB.out | apply below_alloc | apply pw_below_drewN | apply below_drew1 | refine below_set ?_ GE391.out) | exact HB.out))); (case side2 => exact Kd.R_tight rfl HO0_4.out); rintro e w7 ⟨rfl, hy0, hb, hkp⟩; refine ⟨_, rfl, ?_⟩; replace BK391 := Aside0.mk (blk_kept (by (with_reducible repeat (first | refine blk_drewN ?_ _ | refine blk_drew ?_ | refine blk_alloc ?_ _)); exact BK391.out) hkp (fun hs_ => (fun e_ => (Kd.R_ne HO0_4.out BK391.out (by decide)) e_) hs_)); replace HK := Aside0.mk (Kept.then_ (S := (fun k_ => P0_4_ k_)) (by repeat (first | (with_reducible first | exact HK.out | apply Kept.alloc | apply Kept.drewN | apply Kept.drew | refine Kept.setCell ?_ (.inr GW391.out) _) | exact HK.out)) hkp (fun k_ hs_ => (fun e_ => (HO0_4.out.1 k_ e_.symm)) hs_)); replace HO0_4 := Aside0.mk (Kd.R_reok rfl hy0 (fun k_ e_ => HO0_4.out.1 k_ e_)); replace HB := Aside0.mk (hb); (try clear hb); (try clear hkp); (try clear hy0)))
 go_ret
 exact ⟨z21_0_, (by (with_reducible repeat (first | apply Kd.R_alloc | apply Kd.R_drewN | apply Kd.R_drew)); exact HO0_4.out), (by repeat (first | (with_reducible first | exact HB.out | apply below_alloc | apply pw_below_drewN | apply below_drew1 | refine below_set ?_ GE391.out) | exact HB.out)), (by repeat (first | (with_reducible first | exact HK.out | apply Kept.alloc | apply Kept.drewN | apply Kept.drew | refine Kept.setCell ?_ (.inr GW391.out) _) | exact HK.out))⟩
/-! ### laws_heldStringS: function 67 -/
def laws_heldStringS.l0 : Nat → List ByteArray → Int → Int → Option (Int)
 | 0, _, _, _ => none
 | k + 1, x0, x1, x5 => if x5 < (x0.length : Int) then (if 0 ≤ x5 then ((laws_markText.f k x1).bind fun t395 => (if (rdOf ByteArray.empty x0 x5).toList = t395.toList then (laws_heldStringS.l0 k x0 (wrap64 (x1 + 1)) (wrap64 (x5 + 1))) else (some (-1)))) else (none)) else (some x1)
def laws_heldStringS.f (k : Nat) (l0 : List ByteArray) (a1 : Int) : Option (Int) := laws_heldStringS.l0 k l0 a1 0
theorem laws_heldStringS.mono_l : ∀ k, (∀ y0 y1 y2, LeO (laws_heldStringS.l0 k y0 y1 y2) (laws_heldStringS.l0 (k + 1) y0 y1 y2))
 | 0 => fun _ _ _ r h => by simp [laws_heldStringS.l0] at h
 | k + 1 => by
  have ih0 := laws_heldStringS.mono_l k
  ·intro y0 y1 y2
   unfold laws_heldStringS.l0
   repeat' first
   | (with_reducible exact ih0 _ _ _)
   | (with_reducible exact laws_markText.mono _ _)
   | (with_reducible exact LeO.refl _)
   | (with_reducible exact LeO.none _)
   | (with_reducible refine LeO.ite ?_ ?_)
   | (with_reducible refine LeO.bind ?_ (fun _ => ?_))
   | exact ih0 _ _ _
   | exact laws_markText.mono _ _
   | exact LeO.none _
   | refine LeO.ite ?_ ?_
   | refine LeO.bind ?_ (fun _ => ?_)
theorem laws_heldStringS.mono : ∀ a0 a1 k, LeO (laws_heldStringS.f k a0 a1) (laws_heldStringS.f (k + 1) a0 a1) := by
 intro a0 a1 k
 have ih0 := laws_heldStringS.mono_l k
 unfold laws_heldStringS.f
 repeat' first
   | (with_reducible exact ih0 _ _ _)
   | (with_reducible exact laws_markText.mono _ _)
   | (with_reducible exact LeO.refl _)
   | (with_reducible exact LeO.none _)
   | (with_reducible refine LeO.ite ?_ ?_)
   | (with_reducible refine LeO.bind ?_ (fun _ => ?_))
   | exact ih0 _ _ _
   | exact laws_markText.mono _ _
   | exact LeO.none _
   | refine LeO.ite ?_ ?_
   | refine LeO.bind ?_ (fun _ => ?_)
set_option maxHeartbeats 8000000 in
set_option maxRecDepth 100000 in
theorem laws_heldStringS.calls (k : Nat) (A0 : Option Addr) (c0 : Nat) (l0 : List ByteArray) (a1 : Int) (r : Int) (w : World) (hr0 : Kd.C Kd.string w A0 l0.length l0) (hc0 : l0.length ≤ c0) (h : laws_heldStringS.f k l0 a1 = some r) :
  Calls Tryz.prog 67 #[.slice A0 l0.length c0, .int .i64 a1] w fun e w' => e = .returned (.int .i64 r) ∧ Below w.heap.size w w' := by
 have HR0 := Aside0.mk hr0
 have HC0 := Aside0.mk hc0
 clear hr0 hc0
 have HB := Aside0.mk (Below.refl w.heap.size w)
 have H : (laws_heldStringS.l0 k l0 a1 0) = some r := h
 clear h
 have H' := Aside0.mk H
 clear H
 go_enter Tryz.func67, Tryz.ntmps67
 go_wp2
 go_loopg [1, 5] k (fun kq v1 v5 w' => ∃ (x1_1 : Int) (x5_1 : Int), v1 = .int .i64 x1_1 ∧ v5 = .int .i64 x5_1 ∧ Aside0 (laws_heldStringS.l0 kq l0 x1_1 x5_1 = some r) ∧ Aside0 (kq ≤ k) ∧ Aside0 (Below w.heap.size w w'))
 case atStart => exact ⟨(a1), (0), (by first | rfl | (simp; done) | (simp [*]; done)), (by first | rfl | (simp; done) | (simp [*]; done)), H', ⟨Nat.le_refl _⟩, ⟨bq_⟩⟩
 case round =>
  clear H'
  try clear p2
  obtain ⟨x1_1, x5_1, rfl, rfl, HA, HK1, HB⟩ := hrel
  cases gk with
  | zero => exact absurd HA.out (by simp [laws_heldStringS.l0])
  | succ k1 =>
   have H := HA.out
   clear HA
   simp only [laws_heldStringS.l0] at H
   by_cases c3 : x5_1 < (l0.length : Int)
   ·rw [if_pos c3] at H
    have c3b0 : decide (x5_1 < (l0.length : Int)) = true := decide_eq_true c3
    clear c3
    by_cases c4 : 0 ≤ x5_1
    ·rw [if_pos c4] at H
     have c4b0 : decide (0 ≤ x5_1) = true := decide_eq_true c4
     clear c4
     obtain ⟨t395, A5, H⟩ := zbi H
     have HS6 := Aside0.mk H
     clear H
     try go_wp2
     replace HB := Aside0.mk (below_drew1 HB.out)
     have p394 : 0 ≤ (x5_1 : Int) := of_decide_eq_true (by first | (with_reducible assumption) | assumption)
     have q394 : x5_1 < (l0.length : Int) := of_decide_eq_true (by first | (with_reducible assumption) | assumption)
     obtain ⟨ad394, e394, hx394_0⟩ := Kd.at_string HR0.out x5_1 p394 q394
     have hw394_0 := hx394_0
     cases e394
     try replace hx394_0 := (HB.out.cell (World.block_lt_of_cell? w _ hx394_0)).trans hx394_0
     replace p394 := eq_true p394
     replace q394 := eq_true q394
     refine start_ (n := 7) (S := fun w' => w'.cell? (ad394.add (x5_1).toNat) = some (.string (rdOf ByteArray.empty l0 x5_1))) (ds := []) (zfl 7 []) (by kernel_rfl) rfl rfl (((HB.out.cell (World.block_lt_of_cell? w _ hw394_0)).trans hw394_0)) (fun hHeld => ?_)
     generalize wr.drew = w7 at HB hx394_0 hHeld ⊢
     refine pure_ (i := 0) (N := some 12) (v := ?_) (a' := ?_) #[true, false, false, false, false, false, false] rfl rfl (by kernel_rfl) (fun _ _ _ h => h) (Or.inl ⟨(by rfl), ?_⟩) ?_ ?_
     rotate_left
     ·intro w'
      go_simp
      with_reducible rfl
     rotate_left
     ·simp only [Act.put, List.setIfInBounds_toArray, List.set_cons_zero, List.set_cons_succ, i64_w, i32_w]
      rfl
     refine pure_ (i := 1) (N := some 13) (v := ?_) (a' := ?_) #[true, true, false, false, false, false, false] rfl rfl (by kernel_rfl) (fun _ _ _ h => h) (Or.inl ⟨(by rfl), ?_⟩) ?_ ?_
     rotate_left
     ·intro w'
      go_simp
      with_reducible rfl
     rotate_left
     ·simp only [Act.put, List.setIfInBounds_toArray, List.set_cons_zero, List.set_cons_succ, i64_w, i32_w]
      rfl
     refine pure_ (i := 2) (N := some 14) (v := ?_) (a' := ?_) #[true, true, true, false, false, false, false] rfl rfl (by kernel_rfl) (fun _ _ _ h => h) (Or.inl ⟨(by rfl), ?_⟩) ?_ ?_
     rotate_left
     ·intro w'
      go_simp
      with_reducible rfl
     rotate_left
     ·simp only [Act.put, List.setIfInBounds_toArray, List.set_cons_zero, List.set_cons_succ, i64_w, i32_w]
      rfl
     refine pure_ (i := 4) (N := some 16) (v := ?_) (a' := ?_) #[true, true, true, false, true, false, false] rfl rfl (by kernel_rfl) (fun _ _ _ h => h) (Or.inl ⟨(by rfl), ?_⟩) ?_ ?_
     rotate_left
     ·intro w'
      go_simp
      with_reducible rfl
     rotate_left
     ·simp only [Act.put, List.setIfInBounds_toArray, List.set_cons_zero, List.set_cons_succ, i64_w, i32_w]
      rfl
     refine take_ (i := 3) (N := some 15) (v := ?_) (a' := ?_) #[true, true, true, true, true, false, false] rfl rfl (by kernel_rfl) (fun _ _ _ h => h) (Or.inl ⟨(by rfl), ?_⟩) hHeld ?_ ?_
     rotate_left
     ·intro w' s0
      go_simp
      with_reducible rfl
     rotate_left
     ·simp only [Act.put, List.setIfInBounds_toArray, List.set_cons_zero, List.set_cons_succ, i64_w, i32_w]
      rfl
     refine one_ (i := 5) (N := some 17) #[true, true, true, true, true, true, false] rfl rfl (by kernel_rfl) (by decide) (fun K hK => ?_)
     refine goes_ Tryz.func48 (by kernel_rfl) rfl #[.int .i64 x1_1] (by rfl) rfl rfl z21_1_ ?_
     with_reducible refine (laws_markText.calls k1 x1_1 t395 _ A5.out).mono ?_
     rintro e w8 ⟨rfl, hb⟩
     refine ⟨_, rfl, ?_⟩
     replace HB := Aside0.mk (below_step (bq_) hb)
     (try clear hb)
     (try clear hb2)
     (try clear hk)
     (try clear hi)
     refine hK.out _ _ (((HB.out.cell (World.block_lt_of_cell? w _ hw394_0)).trans hw394_0)) (fun hHeld => ?_)
     clear hK K
     refine znm ?_
     refine pure_ (i := 6) (N := some 18) (v := ?_) (a' := ?_) #[true, true, true, true, true, true, true] rfl rfl (by kernel_rfl) (fun _ _ _ h => h) (Or.inl ⟨(by rfl), ?_⟩) ?_ ?_
     rotate_left
     ·intro w'
      go_simp
      with_reducible rfl
     rotate_left
     ·simp only [Act.put, List.setIfInBounds_toArray, List.set_cons_zero, List.set_cons_succ, i64_w, i32_w]
      rfl
     refine done_ (by kernel_rfl) ?_
     go_upto_if 18 with (fail)
     (try simp only [Act.put, List.setIfInBounds_toArray, List.set_cons_zero, List.set_cons_succ])
     have H := HS6.out
     clear HS6
     by_cases c9 : (rdOf ByteArray.empty l0 x5_1).toList = t395.toList
     ·rw [if_pos c9] at H
      have c9b0 : ((rdOf ByteArray.empty l0 x5_1).toList == t395.toList) = true := beq_iff_eq.mpr c9
      have c9b1 : ((rdOf ByteArray.empty l0 x5_1).toList != t395.toList) = false := bne_eq_false_iff_eq.mpr c9
      clear c9
      (first | rw [c9b0] | (simp only [i64_w, i32_w]; rw [c9b0]) | rw [c9b1] | simp only [c9b2, decide_true, decide_false] | skip)
      have H' := Aside0.mk H
      clear H
      go_wp2
      go_roundg k1
      case measure => have := HK1.out; omega
      case rel => exact ⟨(wrap64 (x1_1 + 1)), (wrap64 (x5_1 + 1)), (by first | rfl | (simp; done) | (simp [*]; done)), (by first | rfl | (simp; done) | (simp [*]; done)), H', ⟨(by have := HK1.out; omega)⟩, ⟨bq_⟩⟩
     ·rw [if_neg c9] at H
      have c9b0 : ((rdOf ByteArray.empty l0 x5_1).toList == t395.toList) = false := beq_eq_false_iff_ne.mpr c9
      have c9b1 : ((rdOf ByteArray.empty l0 x5_1).toList != t395.toList) = true := bne_iff_ne.mpr c9
      (first | rw [c9b0] | (simp only [i64_w, i32_w]; rw [c9b0]) | rw [c9b1] | simp only [c9b2, decide_true, decide_false] | skip)
      obtain rfl := Option.some.inj H
      go_wp2
      go_ret
      exact ⟨z21_0_, bq_⟩
    ·rw [if_neg c4] at H
     exact absurd H (by simp)
   ·rw [if_neg c3] at H
    have c3b0 : decide (x5_1 < (l0.length : Int)) = false := decide_eq_false c3
    clear c3
    obtain rfl := Option.some.inj H
    go_wp2
    go_ret
    exact ⟨z21_0_, bq_⟩
/-! ### laws_heldMessage: function 35 -/
def laws_heldMessage.f (k : Nat) (a0_0 : Int) (a0_1 : Int) (a0_2 : ByteArray) (l0_3 : List ByteArray) (a0_4 : ByteArray) (a1 : Int) : Option (Int) := (laws_heldStringS.f k l0_3 a1).bind fun t397 => (if t397 < 0 then (some (-1)) else (some t397))
theorem laws_heldMessage.mono : ∀ a0 a1 a2 a3 a4 a5 k, LeO (laws_heldMessage.f k a0 a1 a2 a3 a4 a5) (laws_heldMessage.f (k + 1) a0 a1 a2 a3 a4 a5) := by
 intro a0 a1 a2 a3 a4 a5 k
 unfold laws_heldMessage.f
 repeat' first
   | (with_reducible exact laws_heldStringS.mono _ _ _)
   | (with_reducible exact LeO.refl _)
   | (with_reducible exact LeO.none _)
   | (with_reducible refine LeO.ite ?_ ?_)
   | (with_reducible refine LeO.bind ?_ (fun _ => ?_))
   | exact laws_heldStringS.mono _ _ _
   | exact LeO.none _
   | refine LeO.ite ?_ ?_
   | refine LeO.bind ?_ (fun _ => ?_)
set_option maxHeartbeats 8000000 in
set_option maxRecDepth 100000 in
theorem laws_heldMessage.calls (k : Nat) (a0_0 : Int) (a0_1 : Int) (a0_2 : ByteArray) (A0_3 : Option Addr) (c0_3 : Nat) (l0_3 : List ByteArray) (a0_4 : ByteArray) (a1 : Int) (r : Int) (w : World) (hr0_3 : Kd.C Kd.string w A0_3 l0_3.length l0_3) (hc0_3 : l0_3.length ≤ c0_3) (h : laws_heldMessage.f k a0_0 a0_1 a0_2 l0_3 a0_4 a1 = some r) :
  Calls Tryz.prog 35 #[.agg #[.int .i64 a0_0, .int .i64 a0_1, .string a0_2, .slice A0_3 l0_3.length c0_3, .string a0_4], .int .i64 a1] w fun e w' => e = .returned (.int .i64 r) ∧ Below w.heap.size w w' := by
 have hu24 := Tryz.underlying24
 have HR0_3 := Aside0.mk hr0_3
 have HC0_3 := Aside0.mk hc0_3
 clear hr0_3 hc0_3
 have HB := Aside0.mk (Below.refl w.heap.size w)
 have H : ((laws_heldStringS.f k l0_3 a1).bind fun t397 => (if t397 < 0 then (some (-1)) else (some t397))) = some r := h
 clear h
 obtain ⟨t397, A3, H⟩ := zbi H
 have HS4 := Aside0.mk H
 clear H
 go_enter Tryz.func35, Tryz.ntmps35
 go_upto_if 10 with (first | ((with_reducible refine gate_dst (N := 2) rfl ?_); refine box_event (by rfl) (N := 2) (by rfl) (cs := #[.int .i64 a0_0, .int .i64 a0_1, .string a0_2, .slice A0_3 l0_3.length c0_3, .string a0_4]) (t := 24) (by first | (go_simp; done) | (go_simp; rfl)) ?_; intro gb396 hg w5 hbox hb; have BK396 := Aside0.mk (hbox); have GW396 := Aside0.mk ((by rw [hg]; exact (below_size (bq_)) : w.heap.size ≤ gb396)); have GE396 := GW396; replace HB := Aside0.mk (below_step (bq_) hb); clear hb hbox hg; obtain ⟨q6_0, q6_1, q6_2, q6_3, q6_4⟩ := zc5 BK396.out; obtain ⟨f6_0, f6_1, f6_2, f6_3, f6_4⟩ := zf5 BK396.out) | ((with_reducible refine gate_callee (f := 67) rfl ?_); refine goesL_ (some 8) rfl rfl Tryz.func67 (by kernel_rfl) rfl #[.slice A0_3 l0_3.length c0_3, .int .i64 a1] rfl z21_1_ ?_; (with_reducible refine (laws_heldStringS.calls k _ _ l0_3 a1 t397 _ ?side1 ?side2 A3.out).mono ?_); (case side1 => exact (by repeat (first | exact (Kd.C_below HR0_3.out HB.out) | (with_reducible refine Kd.C_alloc ?_ _) | (with_reducible refine Kd.C_drewN ?_ _) | (with_reducible refine Kd.C_drew ?_)))); (case side2 => exact HC0_3.out); rintro e w7 ⟨rfl, hb⟩; refine ⟨_, rfl, ?_⟩; replace BK396 := Aside0.mk (zbb BK396.out hb); replace HB := Aside0.mk (below_step (by repeat (first | (with_reducible first | exact HB.out | apply below_alloc | apply pw_below_drewN | apply below_drew1 | refine below_set ?_ GE396.out) | exact HB.out)) hb); clear hb))
 (try simp only [Act.put, List.setIfInBounds_toArray, List.set_cons_zero, List.set_cons_succ])
 have H := HS4.out
 clear HS4
 by_cases c8 : t397 < 0
 ·rw [if_pos c8] at H
  have c8b0 : decide (t397 < 0) = true := decide_eq_true c8
  clear c8
  (first | rw [c8b0] | (simp only [i64_w, i32_w]; rw [c8b0]) | rw [c8b1] | simp only [c8b2, decide_true, decide_false] | skip)
  obtain rfl := Option.some.inj H
  go_wp2
  go_ret
  exact ⟨z21_0_, (by repeat (first | (with_reducible first | exact HB.out | apply below_alloc | apply pw_below_drewN | apply below_drew1 | refine below_set ?_ GE396.out) | exact HB.out))⟩
 ·rw [if_neg c8] at H
  have c8b0 : decide (t397 < 0) = false := decide_eq_false c8
  clear c8
  (first | rw [c8b0] | (simp only [i64_w, i32_w]; rw [c8b0]) | rw [c8b1] | simp only [c8b2, decide_true, decide_false] | skip)
  obtain rfl := Option.some.inj H
  go_wp2
  go_ret
  exact ⟨z21_0_, (by repeat (first | (with_reducible first | exact HB.out | apply below_alloc | apply pw_below_drewN | apply below_drew1 | refine below_set ?_ GE396.out) | exact HB.out))⟩
/-! ### laws_heldRecord: function 10 -/
def laws_heldRecord.f (k : Nat) (a0_0 : Int) (a0_1 : Int) (a0_2 : Int) (a0_3 : ByteArray) (l0_4 : List ByteArray) (a0_5 : ByteArray) (a0_6 : Int) (a0_7 : Int) (a0_8 : Int) (a0_9 : Int) (a0_10 : ByteArray) (a0_11 : Int) (a0_12 : Int) (a1 : Int) : Option (Int) := (laws_heldMessage.f k a0_1 a0_2 a0_3 l0_4 a0_5 a1).bind fun t399 => (if t399 < 0 then (some (-1)) else (some t399))
theorem laws_heldRecord.mono : ∀ a0 a1 a2 a3 a4 a5 a6 a7 a8 a9 a10 a11 a12 a13 k, LeO (laws_heldRecord.f k a0 a1 a2 a3 a4 a5 a6 a7 a8 a9 a10 a11 a12 a13) (laws_heldRecord.f (k + 1) a0 a1 a2 a3 a4 a5 a6 a7 a8 a9 a10 a11 a12 a13) := by
 intro a0 a1 a2 a3 a4 a5 a6 a7 a8 a9 a10 a11 a12 a13 k
 unfold laws_heldRecord.f
 repeat' first
   | (with_reducible exact laws_heldMessage.mono _ _ _ _ _ _ _)
   | (with_reducible exact LeO.refl _)
   | (with_reducible exact LeO.none _)
   | (with_reducible refine LeO.ite ?_ ?_)
   | (with_reducible refine LeO.bind ?_ (fun _ => ?_))
   | exact laws_heldMessage.mono _ _ _ _ _ _ _
   | exact LeO.none _
   | refine LeO.ite ?_ ?_
   | refine LeO.bind ?_ (fun _ => ?_)
set_option maxHeartbeats 8000000 in
set_option maxRecDepth 100000 in
theorem laws_heldRecord.calls (k : Nat) (a0_0 : Int) (a0_1 : Int) (a0_2 : Int) (a0_3 : ByteArray) (A0_4 : Option Addr) (c0_4 : Nat) (l0_4 : List ByteArray) (a0_5 : ByteArray) (a0_6 : Int) (a0_7 : Int) (a0_8 : Int) (a0_9 : Int) (a0_10 : ByteArray) (a0_11 : Int) (a0_12 : Int) (a1 : Int) (r : Int) (w : World) (hr0_4 : Kd.C Kd.string w A0_4 l0_4.length l0_4) (hc0_4 : l0_4.length ≤ c0_4) (h : laws_heldRecord.f k a0_0 a0_1 a0_2 a0_3 l0_4 a0_5 a0_6 a0_7 a0_8 a0_9 a0_10 a0_11 a0_12 a1 = some r) :
  Calls Tryz.prog 10 #[.agg #[.int .i64 a0_0, .int .i64 a0_1, .int .i64 a0_2, .string a0_3, .slice A0_4 l0_4.length c0_4, .string a0_5, .int .i64 a0_6, .int .i64 a0_7, .int .i64 a0_8, .int .i64 a0_9, .string a0_10, .int .i64 a0_11, .int .i64 a0_12], .int .i64 a1] w fun e w' => e = .returned (.int .i64 r) ∧ Below w.heap.size w w' := by
 have hu28 := Tryz.underlying28
 have hu24 := Tryz.underlying24
 have HR0_4 := Aside0.mk hr0_4
 have HC0_4 := Aside0.mk hc0_4
 clear hr0_4 hc0_4
 have HB := Aside0.mk (Below.refl w.heap.size w)
 have H : ((laws_heldMessage.f k a0_1 a0_2 a0_3 l0_4 a0_5 a1).bind fun t399 => (if t399 < 0 then (some (-1)) else (some t399))) = some r := h
 clear h
 obtain ⟨t399, A3, H⟩ := zbi H
 have HS4 := Aside0.mk H
 clear H
 go_enter Tryz.func10, Tryz.ntmps10
 go_upto_if 10 with (first | ((with_reducible refine gate_dst (N := 2) rfl ?_); refine box_event (by rfl) (N := 2) (by rfl) (cs := #[.int .i64 a0_0, .int .i64 a0_1, .int .i64 a0_2, .string a0_3, .slice A0_4 l0_4.length c0_4, .string a0_5, .int .i64 a0_6, .int .i64 a0_7, .int .i64 a0_8, .int .i64 a0_9, .string a0_10, .int .i64 a0_11, .int .i64 a0_12]) (t := 28) (by first | (go_simp; done) | (go_simp; rfl)) ?_; intro gb398 hg w5 hbox hb; have BK398 := Aside0.mk (hbox); have GW398 := Aside0.mk ((by rw [hg]; exact (below_size (bq_)) : w.heap.size ≤ gb398)); have GE398 := GW398; replace HB := Aside0.mk (below_step (bq_) hb); clear hb hbox hg; obtain ⟨q6_0, q6_1, q6_2, q6_3, q6_4, q6_5, q6_6, q6_7, q6_8, q6_9, q6_10, q6_11, q6_12⟩ := zc13 BK398.out; obtain ⟨f6_0, f6_1, f6_2, f6_3, f6_4, f6_5, f6_6, f6_7, f6_8, f6_9, f6_10, f6_11, f6_12⟩ := zf13 BK398.out) | ((with_reducible refine gate_callee (f := 35) rfl ?_); refine goesL_ (some 8) rfl rfl Tryz.func35 (by kernel_rfl) rfl #[.agg #[.int .i64 a0_1, .int .i64 a0_2, .string a0_3, .slice A0_4 l0_4.length c0_4, .string a0_5], .int .i64 a1] rfl z21_1_ ?_; (with_reducible refine (laws_heldMessage.calls k a0_1 a0_2 a0_3 _ _ l0_4 a0_5 a1 t399 _ ?side1 ?side2 A3.out).mono ?_); (case side1 => exact (by repeat (first | exact (Kd.C_below HR0_4.out HB.out) | (with_reducible refine Kd.C_alloc ?_ _) | (with_reducible refine Kd.C_drewN ?_ _) | (with_reducible refine Kd.C_drew ?_)))); (case side2 => exact HC0_4.out); rintro e w7 ⟨rfl, hb⟩; refine ⟨_, rfl, ?_⟩; replace BK398 := Aside0.mk (zbb BK398.out hb); replace HB := Aside0.mk (below_step (by repeat (first | (with_reducible first | exact HB.out | apply below_alloc | apply pw_below_drewN | apply below_drew1 | refine below_set ?_ GE398.out) | exact HB.out)) hb); clear hb))
 (try simp only [Act.put, List.setIfInBounds_toArray, List.set_cons_zero, List.set_cons_succ])
 have H := HS4.out
 clear HS4
 by_cases c8 : t399 < 0
 ·rw [if_pos c8] at H
  have c8b0 : decide (t399 < 0) = true := decide_eq_true c8
  clear c8
  (first | rw [c8b0] | (simp only [i64_w, i32_w]; rw [c8b0]) | rw [c8b1] | simp only [c8b2, decide_true, decide_false] | skip)
  obtain rfl := Option.some.inj H
  go_wp2
  go_ret
  exact ⟨z21_0_, (by repeat (first | (with_reducible first | exact HB.out | apply below_alloc | apply pw_below_drewN | apply below_drew1 | refine below_set ?_ GE398.out) | exact HB.out))⟩
 ·rw [if_neg c8] at H
  have c8b0 : decide (t399 < 0) = false := decide_eq_false c8
  clear c8
  (first | rw [c8b0] | (simp only [i64_w, i32_w]; rw [c8b0]) | rw [c8b1] | simp only [c8b2, decide_true, decide_false] | skip)
  obtain rfl := Option.some.inj H
  go_wp2
  go_ret
  exact ⟨z21_0_, (by repeat (first | (with_reducible first | exact HB.out | apply below_alloc | apply pw_below_drewN | apply below_drew1 | refine below_set ?_ GE398.out) | exact HB.out))⟩
end Go.Proofs.YtnlembpmcbnpnaaGreatDoor.X
/- laws.eqVerdict, eqMessage and eqRecord at equal arguments: true. No condition on inputs. -/
namespace Go.Proofs.YtnlembpmcbnpnaaGreatDoor.X
open Go Go.RowKit Go.Proofs.YtnlembpmcbnpnaaGreatDoorW.PrintWords Go.Proofs.YtnlembpmcbnpnaaGreatDoorW.PrintLast Go.Proofs.YtnlembpmcbnpnaaGreatDoorW.PrintMore
set_option linter.unusedVariables false
set_option linter.unusedSimpArgs false
theorem zl3 {w : World} {g : Nat} {t : TypeId} {v0 v1 v2 : Value} (h : w.heap[g]? = some (.cells #[v0, v1, v2] t (0, 0))) : w.cell? ⟨g, 0, none⟩ = some v0 ∧ w.cell? ⟨g, 1, none⟩ = some v1 ∧ w.cell? ⟨g, 2, none⟩ = some v2 := ⟨(blk_cell h 0).trans rfl, (blk_cell h 1).trans rfl, (blk_cell h 2).trans rfl⟩
theorem zl5 {w : World} {g : Nat} {t : TypeId} {v0 v1 v2 v3 v4 : Value} (h : w.heap[g]? = some (.cells #[v0, v1, v2, v3, v4] t (0, 0))) : w.cell? ⟨g, 0, none⟩ = some v0 ∧ w.cell? ⟨g, 1, none⟩ = some v1 ∧ w.cell? ⟨g, 2, none⟩ = some v2 ∧ w.cell? ⟨g, 3, none⟩ = some v3 ∧ w.cell? ⟨g, 4, none⟩ = some v4 := ⟨(blk_cell h 0).trans rfl, (blk_cell h 1).trans rfl, (blk_cell h 2).trans rfl, (blk_cell h 3).trans rfl, (blk_cell h 4).trans rfl⟩
theorem zl13 {w : World} {g : Nat} {t : TypeId} {v0 v1 v2 v3 v4 v5 v6 v7 v8 v9 v10 v11 v12 : Value} (h : w.heap[g]? = some (.cells #[v0, v1, v2, v3, v4, v5, v6, v7, v8, v9, v10, v11, v12] t (0, 0))) : w.cell? ⟨g, 0, none⟩ = some v0 ∧ w.cell? ⟨g, 1, none⟩ = some v1 ∧ w.cell? ⟨g, 2, none⟩ = some v2 ∧ w.cell? ⟨g, 3, none⟩ = some v3 ∧ w.cell? ⟨g, 4, none⟩ = some v4 ∧ w.cell? ⟨g, 5, none⟩ = some v5 ∧ w.cell? ⟨g, 6, none⟩ = some v6 ∧ w.cell? ⟨g, 7, none⟩ = some v7 ∧ w.cell? ⟨g, 8, none⟩ = some v8 ∧ w.cell? ⟨g, 9, none⟩ = some v9 ∧ w.cell? ⟨g, 10, none⟩ = some v10 ∧ w.cell? ⟨g, 11, none⟩ = some v11 ∧ w.cell? ⟨g, 12, none⟩ = some v12 := ⟨(blk_cell h 0).trans rfl, (blk_cell h 1).trans rfl, (blk_cell h 2).trans rfl, (blk_cell h 3).trans rfl, (blk_cell h 4).trans rfl, (blk_cell h 5).trans rfl, (blk_cell h 6).trans rfl, (blk_cell h 7).trans rfl, (blk_cell h 8).trans rfl, (blk_cell h 9).trans rfl, (blk_cell h 10).trans rfl, (blk_cell h 11).trans rfl, (blk_cell h 12).trans rfl⟩
set_option maxHeartbeats 4000000 in
set_option maxRecDepth 100000 in
theorem eqVerdict_same (a8 a9 : Int) (a10 : ByteArray) (w : World) : Calls Tryz.prog 33 #[.agg #[.int .i64 a8, .int .i64 a9, .string a10], .agg #[.int .i64 a8, .int .i64 a9, .string a10]] w fun e w' => e = .returned (.bool true) ∧ Below w.heap.size w w' := by
  have hu := Tryz.underlying26
  go_enter Tryz.func33, Tryz.ntmps33
  go_wp2_with (first | ((with_reducible refine gate_dst (N := 2) rfl ?_); refine box_event ?hg (N := 2) ?hd (cs := #[.int .i64 a8, .int .i64 a9, .string a10]) (t := 26) ?hr ?_; (case hd => rfl); (case hg => rfl); (case hr => first | (go_simp; done) | (go_simp; rfl)); intro ga hga wa hba hbwa; have BA := Aside0.mk hba; have HA := Aside0.mk hbwa; clear hba hbwa hga) | ((with_reducible refine gate_dst (N := 3) rfl ?_); refine box_event ?hg (N := 3) ?hd (cs := #[.int .i64 a8, .int .i64 a9, .string a10]) (t := 26) ?hr ?_; (case hd => rfl); (case hg => rfl); (case hr => first | (go_simp; done) | (go_simp; rfl)); intro gb hgb wb hbb hbwb; have BB := Aside0.mk hbb; have BA2 := Aside0.mk (blk_below BA.out hbwb); have HB := Aside0.mk (HA.out.trans (hbwb.mono HA.out.size)); clear hbb hbwb hgb; obtain ⟨ca_0, ca_1, ca_2⟩ := zl3 BA2.out; obtain ⟨cb_0, cb_1, cb_2⟩ := zl3 BB.out))
  go_ret
  exact ⟨rfl, HB.out⟩
set_option maxHeartbeats 4000000 in
set_option maxRecDepth 100000 in
theorem eqMessage_same (k : Nat) (a1 a2 : Int) (a3 : ByteArray) (aA bA : Option Addr) (ac bc : Nat) (al : List ByteArray) (a5 : ByteArray) (w : World) (hr : Kd.C Kd.string w aA al.length al) (hc : al.length ≤ ac) (hs : Kd.C Kd.string w bA al.length al) (hd : al.length ≤ bc) (he : laws_eqStringS.f k al al = some true) :
    Calls Tryz.prog 32 #[.agg #[.int .i64 a1, .int .i64 a2, .string a3, .slice aA al.length ac, .string a5], .agg #[.int .i64 a1, .int .i64 a2, .string a3, .slice bA al.length bc, .string a5]] w fun e w' => e = .returned (.bool true) ∧ Below w.heap.size w w' := by
  have hu := Tryz.underlying24
  have HR := Aside0.mk hr
  have HC := Aside0.mk hc
  have HS := Aside0.mk hs
  have HD := Aside0.mk hd
  have HE := Aside0.mk he
  clear hr hc hs hd he
  go_enter Tryz.func32, Tryz.ntmps32
  go_wp2_with (first | ((with_reducible refine gate_dst (N := 2) rfl ?_); refine box_event ?hg (N := 2) ?hd (cs := #[.int .i64 a1, .int .i64 a2, .string a3, .slice aA al.length ac, .string a5]) (t := 24) ?hr ?_; (case hd => rfl); (case hg => rfl); (case hr => first | (go_simp; done) | (go_simp; rfl)); intro ga hga wa hba hbwa; have BA := Aside0.mk hba; have HA := Aside0.mk hbwa; clear hba hbwa hga) | ((with_reducible refine gate_dst (N := 3) rfl ?_); refine box_event ?hg (N := 3) ?hd (cs := #[.int .i64 a1, .int .i64 a2, .string a3, .slice bA al.length bc, .string a5]) (t := 24) ?hr ?_; (case hd => rfl); (case hg => rfl); (case hr => first | (go_simp; done) | (go_simp; rfl)); intro gb hgb wb hbb hbwb; have BB := Aside0.mk hbb; have BA2 := Aside0.mk (blk_below BA.out hbwb); have HB := Aside0.mk (HA.out.trans (hbwb.mono HA.out.size)); clear hbb hbwb hgb; obtain ⟨ca_0, ca_1, ca_2, ca_3, ca_4⟩ := zl5 BA2.out; obtain ⟨cb_0, cb_1, cb_2, cb_3, cb_4⟩ := zl5 BB.out) | (go_at_call 20; (with_reducible refine (laws_eqStringS.calls k aA ac al bA bc al true _ (Kd.C_below HR.out HB.out) HC.out (Kd.C_below HS.out HB.out) HD.out HE.out).mono ?_); rintro e w' ⟨rfl, ⟨nd, rfl⟩⟩))
  go_ret
  exact ⟨rfl, pw_below_drewN HB.out nd⟩
set_option maxHeartbeats 4000000 in
set_option maxRecDepth 100000 in
theorem eqRecord_same (k : Nat) (a0 a1 a2 : Int) (a3 : ByteArray) (aA bA : Option Addr) (ac bc : Nat) (al : List ByteArray) (a5 : ByteArray) (a6 a7 a8 a9 : Int) (a10 : ByteArray) (a11 a12 : Int) (w : World) (hr : Kd.C Kd.string w aA al.length al) (hc : al.length ≤ ac) (hs : Kd.C Kd.string w bA al.length al) (hd : al.length ≤ bc) (he : laws_eqStringS.f k al al = some true) :
    Calls Tryz.prog 8 #[.agg #[.int .i64 a0, .int .i64 a1, .int .i64 a2, .string a3, .slice aA al.length ac, .string a5, .int .i64 a6, .int .i64 a7, .int .i64 a8, .int .i64 a9, .string a10, .int .i64 a11, .int .i64 a12], .agg #[.int .i64 a0, .int .i64 a1, .int .i64 a2, .string a3, .slice bA al.length bc, .string a5, .int .i64 a6, .int .i64 a7, .int .i64 a8, .int .i64 a9, .string a10, .int .i64 a11, .int .i64 a12]] w fun e w' => e = .returned (.bool true) ∧ Below w.heap.size w w' := by
  have hu := Tryz.underlying28
  have hu24 := Tryz.underlying24
  have hu26 := Tryz.underlying26
  have HR := Aside0.mk hr
  have HC := Aside0.mk hc
  have HS := Aside0.mk hs
  have HD := Aside0.mk hd
  have HE := Aside0.mk he
  clear hr hc hs hd he
  go_enter Tryz.func8, Tryz.ntmps8
  go_wp2_with (first | ((with_reducible refine gate_dst (N := 2) rfl ?_); refine box_event ?hg (N := 2) ?hd (cs := #[.int .i64 a0, .int .i64 a1, .int .i64 a2, .string a3, .slice aA al.length ac, .string a5, .int .i64 a6, .int .i64 a7, .int .i64 a8, .int .i64 a9, .string a10, .int .i64 a11, .int .i64 a12]) (t := 28) ?hr ?_; (case hd => rfl); (case hg => rfl); (case hr => first | (go_simp; done) | (go_simp; rfl)); intro ga hga wa hba hbwa; have BA := Aside0.mk hba; have HA := Aside0.mk hbwa; clear hba hbwa hga) | ((with_reducible refine gate_dst (N := 3) rfl ?_); refine box_event ?hg (N := 3) ?hd (cs := #[.int .i64 a0, .int .i64 a1, .int .i64 a2, .string a3, .slice bA al.length bc, .string a5, .int .i64 a6, .int .i64 a7, .int .i64 a8, .int .i64 a9, .string a10, .int .i64 a11, .int .i64 a12]) (t := 28) ?hr ?_; (case hd => rfl); (case hg => rfl); (case hr => first | (go_simp; done) | (go_simp; rfl)); intro gb hgb wb hbb hbwb; have BB := Aside0.mk hbb; have BA2 := Aside0.mk (blk_below BA.out hbwb); have HB := Aside0.mk (HA.out.trans (hbwb.mono HA.out.size)); clear hbb hbwb hgb; obtain ⟨ca_0, ca_1, ca_2, ca_3, ca_4, ca_5, ca_6, ca_7, ca_8, ca_9, ca_10, ca_11, ca_12⟩ := zl13 BA2.out; obtain ⟨cb_0, cb_1, cb_2, cb_3, cb_4, cb_5, cb_6, cb_7, cb_8, cb_9, cb_10, cb_11, cb_12⟩ := zl13 BB.out) | (go_at_call 32; (with_reducible refine (eqMessage_same k a1 a2 a3 aA bA ac bc al a5 _ (Kd.C_below HR.out HB.out) HC.out (Kd.C_below HS.out HB.out) HD.out HE.out).mono ?_); rintro e w3 ⟨rfl, hb3⟩; have BA3 := Aside0.mk (blk_below BA2.out hb3); have BB3 := Aside0.mk (blk_below BB.out hb3); have HB3 := Aside0.mk (HB.out.trans (hb3.mono HB.out.size)); clear hb3; obtain ⟨cc_0, cc_1, cc_2, cc_3, cc_4, cc_5, cc_6, cc_7, cc_8, cc_9, cc_10, cc_11, cc_12⟩ := zl13 BA3.out; obtain ⟨cd_0, cd_1, cd_2, cd_3, cd_4, cd_5, cd_6, cd_7, cd_8, cd_9, cd_10, cd_11, cd_12⟩ := zl13 BB3.out) | (go_at_call 33; (with_reducible refine (eqVerdict_same a8 a9 a10 _).mono ?_); rintro e w4 ⟨rfl, hb4⟩; have BA4 := Aside0.mk (blk_below BA3.out hb4); have BB4 := Aside0.mk (blk_below BB3.out hb4); have HB4 := Aside0.mk (HB3.out.trans (hb4.mono HB3.out.size)); clear hb4; obtain ⟨ce_0, ce_1, ce_2, ce_3, ce_4, ce_5, ce_6, ce_7, ce_8, ce_9, ce_10, ce_11, ce_12⟩ := zl13 BA4.out; obtain ⟨cf_0, cf_1, cf_2, cf_3, cf_4, cf_5, cf_6, cf_7, cf_8, cf_9, cf_10, cf_11, cf_12⟩ := zl13 BB4.out))
  go_ret
  exact ⟨rfl, HB4.out⟩
end Go.Proofs.YtnlembpmcbnpnaaGreatDoor.X
/- The law of UnpackRecord: its walk where both sides answer the same. Condition: none beyond what the parts' contracts ask. -/
namespace Go.Proofs.YtnlembpmcbnpnaaGreatDoor.X
open Go Go.RowKit Go.Proofs.YtnlembpmcbnpnaaGreatDoorW.PrintWords Go.Proofs.YtnlembpmcbnpnaaGreatDoorW.PrintLast Go.Proofs.YtnlembpmcbnpnaaGreatDoorW.PrintMore
set_option linter.unusedVariables false
set_option linter.unusedSimpArgs false
open Classical in
noncomputable def laws_FnExactUnpackRecord.f (k : Nat) (a0 : ByteArray) : Option Bool :=
  if (a0.size : Int) > 1048576 then some true else
  match spec_UnpackRecord.f k a0 with
  | some (u0, u1, u2, u3, ul, u5, u6, u7, u8, u9, u10, u11, u12, b) => if impl_UnpackRecord.f k a0 = some (u0, u1, u2, u3, ul, u5, u6, u7, u8, u9, u10, u11, u12, b) then
      (match laws_markRecord.f k u0 u1 u2 u3 ul u5 u6 u7 u8 u9 u10 u11 u12 1 with
        | some (n, ms) => if laws_heldRecord.f k u0 u1 u2 u3 ms u5 u6 u7 u8 u9 u10 u11 u12 1 = some n ∧ laws_eqStringS.f k ul ul = some true ∧ 0 ≤ n then some true else none
        | none => none) else none
  | none => none
set_option maxHeartbeats 4000000 in
set_option maxRecDepth 100000 in
theorem law_walk (k : Nat) (a0 : ByteArray) (u0 u1 u2 : Int) (u3 : ByteArray) (ul : List ByteArray) (u5 : ByteArray) (u6 u7 u8 u9 : Int) (u10 : ByteArray) (u11 u12 : Int) (b : Bool) (n : Int) (ms : List ByteArray) (w : World) (hGE : GlE w) (hGI : GlI w) (hGM : GlM w)
    (h0 : ¬ (a0.size : Int) > 1048576) (hS : spec_UnpackRecord.f k a0 = some (u0, u1, u2, u3, ul, u5, u6, u7, u8, u9, u10, u11, u12, b)) (hI : impl_UnpackRecord.f k a0 = some (u0, u1, u2, u3, ul, u5, u6, u7, u8, u9, u10, u11, u12, b)) (hM : laws_markRecord.f k u0 u1 u2 u3 ul u5 u6 u7 u8 u9 u10 u11 u12 1 = some (n, ms)) (hH : laws_heldRecord.f k u0 u1 u2 u3 ms u5 u6 u7 u8 u9 u10 u11 u12 1 = some n) (hE : laws_eqStringS.f k ul ul = some true) (hn : 0 ≤ n) :
    Calls Tryz.prog 3 #[.string a0] w fun e w' => e = .returned (.bool true) ∧ Below w.heap.size w w' := by
  have hu28 := Tryz.underlying28
  have c0 : decide (1048576 < (a0.size : Int)) = false := decide_eq_false h0
  have c0b : decide (1048576 < a0.size) = false := decide_eq_false (by omega)
  have cn : decide (n < 0) = false := decide_eq_false (by omega)
  have GE := Aside0.mk hGE
  have GI := Aside0.mk hGI
  have GM := Aside0.mk hGM
  have HS := Aside0.mk hS
  have HI := Aside0.mk hI
  have HM := Aside0.mk hM
  have HH := Aside0.mk hH
  have HE := Aside0.mk hE
  clear hGE hGI hGM h0 hS hI hM hH hE hn
  go_enter Tryz.func3, Tryz.ntmps3
  go_upto_region 4 with (first | (go_at_call 6; (with_reducible refine (spec_UnpackRecord.calls k a0 u0 u1 u2 u3 ul u5 u6 u7 u8 u9 u10 u11 u12 b _ HS.out).mono ?_); rintro e w1 ⟨v, rfl, hR, hb1⟩; obtain ⟨A, c, rfl, hc, hC⟩ := Kd.R_reads hR; have HC1 := Aside0.mk hc; have HR1 := Aside0.mk hC; have HB1 := Aside0.mk hb1; clear hR hc hC hb1) | ((with_reducible refine gate_dst (N := 3) rfl ?_); refine box_event ?hg (N := 3) ?hd (cs := #[.int .i64 0, .int .i64 0, .int .i64 0, .string (⟨#[]⟩ : ByteArray), .slice none 0 0, .string (⟨#[]⟩ : ByteArray), .int .i64 0, .int .i64 0, .int .i64 0, .int .i64 0, .string (⟨#[]⟩ : ByteArray), .int .i64 0, .int .i64 0]) (t := 28) ?hr ?_; (case hd => rfl); (case hg => rfl); (case hr => first | (go_simp; done) | (go_simp; rfl)); intro gc hgc w2 hbc hb2; have BC := Aside0.mk hbc; have GC1 := Aside0.mk (show w1.heap.size ≤ gc by rw [hgc]; exact Nat.le_refl _); have GC := Aside0.mk (show w.heap.size ≤ gc by rw [hgc]; exact HB1.out.size); have HBB := Aside0.mk hb2; have HB2 := Aside0.mk (HB1.out.trans (hb2.mono HB1.out.size)); clear hbc hb2 hgc; obtain ⟨cc_0, cc_1, cc_2, cc_3, cc_4, cc_5, cc_6, cc_7, cc_8, cc_9, cc_10, cc_11, cc_12⟩ := zl13 BC.out; obtain ⟨fc_0, fc_1, fc_2, fc_3, fc_4, fc_5, fc_6, fc_7, fc_8, fc_9, fc_10, fc_11, fc_12⟩ := zkf13 BC.out))
  have n1 := Aside0.mk (puts13 (.int .i64 u0) (.int .i64 u1) (.int .i64 u2) (.string u3) (.slice A ul.length c) (.string u5) (.int .i64 u6) (.int .i64 u7) (.int .i64 u8) (.int .i64 u9) (.string u10) (.int .i64 u11) (.int .i64 u12) BC.out)
  have n2 : Aside0 (Below w.heap.size w (((((((((((((w2.setCell ⟨gc, 0, none⟩ (.int .i64 u0)).setCell ⟨gc, 1, none⟩ (.int .i64 u1)).setCell ⟨gc, 2, none⟩ (.int .i64 u2)).setCell ⟨gc, 3, none⟩ (.string u3)).setCell ⟨gc, 4, none⟩ (.slice A ul.length c)).setCell ⟨gc, 5, none⟩ (.string u5)).setCell ⟨gc, 6, none⟩ (.int .i64 u6)).setCell ⟨gc, 7, none⟩ (.int .i64 u7)).setCell ⟨gc, 8, none⟩ (.int .i64 u8)).setCell ⟨gc, 9, none⟩ (.int .i64 u9)).setCell ⟨gc, 10, none⟩ (.string u10)).setCell ⟨gc, 11, none⟩ (.int .i64 u11)).setCell ⟨gc, 12, none⟩ (.int .i64 u12))) := ⟨(below_set (below_set (below_set (below_set (below_set (below_set (below_set (below_set (below_set (below_set (below_set (below_set (below_set HB2.out GC.out) GC.out) GC.out) GC.out) GC.out) GC.out) GC.out) GC.out) GC.out) GC.out) GC.out) GC.out) GC.out)⟩
  have n3 : Aside0 (Kd.C Kd.string (((((((((((((w2.setCell ⟨gc, 0, none⟩ (.int .i64 u0)).setCell ⟨gc, 1, none⟩ (.int .i64 u1)).setCell ⟨gc, 2, none⟩ (.int .i64 u2)).setCell ⟨gc, 3, none⟩ (.string u3)).setCell ⟨gc, 4, none⟩ (.slice A ul.length c)).setCell ⟨gc, 5, none⟩ (.string u5)).setCell ⟨gc, 6, none⟩ (.int .i64 u6)).setCell ⟨gc, 7, none⟩ (.int .i64 u7)).setCell ⟨gc, 8, none⟩ (.int .i64 u8)).setCell ⟨gc, 9, none⟩ (.int .i64 u9)).setCell ⟨gc, 10, none⟩ (.string u10)).setCell ⟨gc, 11, none⟩ (.int .i64 u11)).setCell ⟨gc, 12, none⟩ (.int .i64 u12)) A ul.length ul) := ⟨Kd.C_below HR1.out (below_set (below_set (below_set (below_set (below_set (below_set (below_set (below_set (below_set (below_set (below_set (below_set (below_set HBB.out GC1.out) GC1.out) GC1.out) GC1.out) GC1.out) GC1.out) GC1.out) GC1.out) GC1.out) GC1.out) GC1.out) GC1.out) GC1.out)⟩
  generalize (((((((((((((w2.setCell ⟨gc, 0, none⟩ (.int .i64 u0)).setCell ⟨gc, 1, none⟩ (.int .i64 u1)).setCell ⟨gc, 2, none⟩ (.int .i64 u2)).setCell ⟨gc, 3, none⟩ (.string u3)).setCell ⟨gc, 4, none⟩ (.slice A ul.length c)).setCell ⟨gc, 5, none⟩ (.string u5)).setCell ⟨gc, 6, none⟩ (.int .i64 u6)).setCell ⟨gc, 7, none⟩ (.int .i64 u7)).setCell ⟨gc, 8, none⟩ (.int .i64 u8)).setCell ⟨gc, 9, none⟩ (.int .i64 u9)).setCell ⟨gc, 10, none⟩ (.string u10)).setCell ⟨gc, 11, none⟩ (.int .i64 u11)).setCell ⟨gc, 12, none⟩ (.int .i64 u12)) = w3 at n1 n2 n3 ⊢
  have BC3 := n1
  have HB3 := n2
  have HR3 := n3
  clear n1 n2 n3 BC HBB HB2 HB1 HR1 GC1 GC
  go_upto_region 5 with (first | (go_at_call 7; (with_reducible refine (impl_UnpackRecord.calls k a0 u0 u1 u2 u3 ul u5 u6 u7 u8 u9 u10 u11 u12 b _ (GE.out.below HB3.out) (GI.out.below HB3.out) (GM.out.below HB3.out) HI.out).mono ?_); rintro e w4 ⟨v, rfl, hR, hb4⟩; obtain ⟨A5, c5, rfl, hc5, hC5⟩ := Kd.R_reads hR; have HC5 := Aside0.mk hc5; have HR4 := Aside0.mk hR; have HB4 := Aside0.mk hb4; clear hR hc5 hC5 hb4) | ((with_reducible refine gate_dst (N := 5) rfl ?_); refine box_event ?hg (N := 5) ?hd (cs := #[.int .i64 0, .int .i64 0, .int .i64 0, .string (⟨#[]⟩ : ByteArray), .slice none 0 0, .string (⟨#[]⟩ : ByteArray), .int .i64 0, .int .i64 0, .int .i64 0, .int .i64 0, .string (⟨#[]⟩ : ByteArray), .int .i64 0, .int .i64 0]) (t := 28) ?hr ?_; (case hd => rfl); (case hg => rfl); (case hr => first | (go_simp; done) | (go_simp; rfl)); intro gd hgd wd hbd hb5; have BD := Aside0.mk hbd; have GD := Aside0.mk (show w3.heap.size ≤ gd by rw [hgd]; exact HB4.out.size); have HRD := Aside0.mk (Kd.R_types (Kd.R_below HR4.out hb5) hbd (by intro q hq; simp only [List.mem_cons, List.mem_nil_iff] at hq; rcases hq with rfl | hq; decide; cases hq)); have HBD := Aside0.mk (HB4.out.trans (hb5.mono HB4.out.size)); clear hbd hb5 hgd; obtain ⟨cd_0, cd_1, cd_2, cd_3, cd_4, cd_5, cd_6, cd_7, cd_8, cd_9, cd_10, cd_11, cd_12⟩ := zl13 BD.out; obtain ⟨fd_0, fd_1, fd_2, fd_3, fd_4, fd_5, fd_6, fd_7, fd_8, fd_9, fd_10, fd_11, fd_12⟩ := zkf13 BD.out))
  have n1 := Aside0.mk (puts13 (.int .i64 u0) (.int .i64 u1) (.int .i64 u2) (.string u3) (.slice A5 ul.length c5) (.string u5) (.int .i64 u6) (.int .i64 u7) (.int .i64 u8) (.int .i64 u9) (.string u10) (.int .i64 u11) (.int .i64 u12) BD.out)
  have n2 : Aside0 (Below w3.heap.size w3 (((((((((((((wd.setCell ⟨gd, 0, none⟩ (.int .i64 u0)).setCell ⟨gd, 1, none⟩ (.int .i64 u1)).setCell ⟨gd, 2, none⟩ (.int .i64 u2)).setCell ⟨gd, 3, none⟩ (.string u3)).setCell ⟨gd, 4, none⟩ (.slice A5 ul.length c5)).setCell ⟨gd, 5, none⟩ (.string u5)).setCell ⟨gd, 6, none⟩ (.int .i64 u6)).setCell ⟨gd, 7, none⟩ (.int .i64 u7)).setCell ⟨gd, 8, none⟩ (.int .i64 u8)).setCell ⟨gd, 9, none⟩ (.int .i64 u9)).setCell ⟨gd, 10, none⟩ (.string u10)).setCell ⟨gd, 11, none⟩ (.int .i64 u11)).setCell ⟨gd, 12, none⟩ (.int .i64 u12))) := ⟨(below_set (below_set (below_set (below_set (below_set (below_set (below_set (below_set (below_set (below_set (below_set (below_set (below_set HBD.out GD.out) GD.out) GD.out) GD.out) GD.out) GD.out) GD.out) GD.out) GD.out) GD.out) GD.out) GD.out) GD.out)⟩
  have n3 : Aside0 (Kd.R Kd.string 9 (((((((((((((wd.setCell ⟨gd, 0, none⟩ (.int .i64 u0)).setCell ⟨gd, 1, none⟩ (.int .i64 u1)).setCell ⟨gd, 2, none⟩ (.int .i64 u2)).setCell ⟨gd, 3, none⟩ (.string u3)).setCell ⟨gd, 4, none⟩ (.slice A5 ul.length c5)).setCell ⟨gd, 5, none⟩ (.string u5)).setCell ⟨gd, 6, none⟩ (.int .i64 u6)).setCell ⟨gd, 7, none⟩ (.int .i64 u7)).setCell ⟨gd, 8, none⟩ (.int .i64 u8)).setCell ⟨gd, 9, none⟩ (.int .i64 u9)).setCell ⟨gd, 10, none⟩ (.string u10)).setCell ⟨gd, 11, none⟩ (.int .i64 u11)).setCell ⟨gd, 12, none⟩ (.int .i64 u12)) w3.heap.size (fun k => True ∧ k ≠ gd) (.slice A5 ul.length c5) ul) := ⟨(Kd.R_far (p := ⟨gd, 12, none⟩) (Kd.R_far (p := ⟨gd, 11, none⟩) (Kd.R_far (p := ⟨gd, 10, none⟩) (Kd.R_far (p := ⟨gd, 9, none⟩) (Kd.R_far (p := ⟨gd, 8, none⟩) (Kd.R_far (p := ⟨gd, 7, none⟩) (Kd.R_far (p := ⟨gd, 6, none⟩) (Kd.R_far (p := ⟨gd, 5, none⟩) (Kd.R_far (p := ⟨gd, 4, none⟩) (Kd.R_far (p := ⟨gd, 3, none⟩) (Kd.R_far (p := ⟨gd, 2, none⟩) (Kd.R_far (p := ⟨gd, 1, none⟩) (Kd.R_far (p := ⟨gd, 0, none⟩) HRD.out (fun _ hk => hk.2) (.int .i64 u0)) (fun _ hk => hk.2) (.int .i64 u1)) (fun _ hk => hk.2) (.int .i64 u2)) (fun _ hk => hk.2) (.string u3)) (fun _ hk => hk.2) (.slice A5 ul.length c5)) (fun _ hk => hk.2) (.string u5)) (fun _ hk => hk.2) (.int .i64 u6)) (fun _ hk => hk.2) (.int .i64 u7)) (fun _ hk => hk.2) (.int .i64 u8)) (fun _ hk => hk.2) (.int .i64 u9)) (fun _ hk => hk.2) (.string u10)) (fun _ hk => hk.2) (.int .i64 u11)) (fun _ hk => hk.2) (.int .i64 u12))⟩
  generalize (((((((((((((wd.setCell ⟨gd, 0, none⟩ (.int .i64 u0)).setCell ⟨gd, 1, none⟩ (.int .i64 u1)).setCell ⟨gd, 2, none⟩ (.int .i64 u2)).setCell ⟨gd, 3, none⟩ (.string u3)).setCell ⟨gd, 4, none⟩ (.slice A5 ul.length c5)).setCell ⟨gd, 5, none⟩ (.string u5)).setCell ⟨gd, 6, none⟩ (.int .i64 u6)).setCell ⟨gd, 7, none⟩ (.int .i64 u7)).setCell ⟨gd, 8, none⟩ (.int .i64 u8)).setCell ⟨gd, 9, none⟩ (.int .i64 u9)).setCell ⟨gd, 10, none⟩ (.string u10)).setCell ⟨gd, 11, none⟩ (.int .i64 u11)).setCell ⟨gd, 12, none⟩ (.int .i64 u12)) = w5 at n1 n2 n3 ⊢
  have BD5 := n1
  have HB5 := n2
  have HR5 := n3
  clear n1 n2 n3 BD HBD HRD HB4 HR4
  have BC5 := Aside0.mk (blk_below BC3.out HB5.out)
  have HR3b := Aside0.mk (Kd.C_below HR3.out HB5.out)
  have HC5R := Aside0.mk (Kd.R_reads' HR5.out).2.2
  have HBW5 := Aside0.mk (HB3.out.trans (HB5.out.mono HB3.out.size))
  obtain ⟨ce_0, ce_1, ce_2, ce_3, ce_4, ce_5, ce_6, ce_7, ce_8, ce_9, ce_10, ce_11, ce_12⟩ := zl13 BC5.out
  obtain ⟨cf_0, cf_1, cf_2, cf_3, cf_4, cf_5, cf_6, cf_7, cf_8, cf_9, cf_10, cf_11, cf_12⟩ := zl13 BD5.out
  go_upto_region 8 with (first | (go_at_call 8; (with_reducible refine (eqRecord_same k u0 u1 u2 u3 A5 A c5 c ul u5 u6 u7 u8 u9 u10 u11 u12 _ HC5R.out HC5.out HR3b.out HC1.out HE.out).mono ?_); rintro e w6 ⟨rfl, hb6⟩; have HB6 := Aside0.mk hb6; clear hb6))
  have BD6 := Aside0.mk (blk_below BD5.out HB6.out)
  have HR6 := Aside0.mk (Kd.R_below HR5.out HB6.out)
  have HB36 := Aside0.mk (HB5.out.trans (HB6.out.mono HB5.out.size))
  clear HB6 BC5 HR3b HC5R HBW5 BD5 HR5 HB5
  obtain ⟨cg_0, cg_1, cg_2, cg_3, cg_4, cg_5, cg_6, cg_7, cg_8, cg_9, cg_10, cg_11, cg_12⟩ := zl13 BD6.out
  go_upto_region 10 with (first | (go_at_call 9; (with_reducible refine (laws_markRecord.calls k u0 u1 u2 u3 (fun k => True ∧ k ≠ gd) (.slice A5 ul.length c5) ul u5 u6 u7 u8 u9 u10 u11 u12 1 n ms w3 _ HB36.out HR6.out HM.out).mono ?_); rintro e w7 ⟨rfl, hr7, hb7, hk7⟩; have HR7 := Aside0.mk hr7; have HB7 := Aside0.mk hb7; have BD7 := Aside0.mk ((hk7.2 gd (blk_lt BD6.out) (fun hh => hh.2 rfl)).trans BD6.out); clear hr7 hb7 hk7))
  have hx := Kd.R_reads' HR7.out
  have HX := Aside0.mk hx
  clear hx
  have HHW : ∀ w8, Below w7.heap.size w7 w8 → Calls Tryz.prog 10 #[.agg #[.int .i64 u0, .int .i64 u1, .int .i64 u2, .string u3, .slice A5 ul.length c5, .string u5, .int .i64 u6, .int .i64 u7, .int .i64 u8, .int .i64 u9, .string u10, .int .i64 u11, .int .i64 u12], .int .i64 1] w8 fun e w' => e = .returned (.int .i64 n) ∧ Below w8.heap.size w8 w' := fun w8 hb8 => by
    have := laws_heldRecord.calls k u0 u1 u2 u3 A5 c5 ms u5 u6 u7 u8 u9 u10 u11 u12 1 n w8 (Kd.C_below HX.out.2.2 hb8) (by rw [← HX.out.1]; exact HX.out.2.1) HH.out
    rw [← HX.out.1] at this
    exact this
  have HHA := Aside0.mk HHW
  clear HHW
  obtain ⟨ch_0, ch_1, ch_2, ch_3, ch_4, ch_5, ch_6, ch_7, ch_8, ch_9, ch_10, ch_11, ch_12⟩ := zl13 BD7.out
  go_upto_region 15 with (first | (go_at_call 10; (with_reducible refine (HHA.out _ (Below.refl _ _)).mono ?_); rintro e w8 ⟨rfl, hb8⟩; have HB8 := Aside0.mk (HB7.out.trans (hb8.mono HB7.out.size)); clear hb8))
  have HBW8 := Aside0.mk (HB3.out.trans (HB8.out.mono HB3.out.size))
  have BC8 := Aside0.mk (blk_below BC3.out HB8.out)
  have HR8 := Aside0.mk (Kd.C_below HR3.out HB8.out)
  go_upto_region 16 with (first | (go_at_call 7; (with_reducible refine (impl_UnpackRecord.calls k a0 u0 u1 u2 u3 ul u5 u6 u7 u8 u9 u10 u11 u12 b _ (GE.out.below HBW8.out) (GI.out.below HBW8.out) (GM.out.below HBW8.out) HI.out).mono ?_); rintro e w9 ⟨v, rfl, hR, hb9⟩; obtain ⟨A9, c9, rfl, hc9, hC9⟩ := Kd.R_reads hR; have HC9 := Aside0.mk hc9; have HR9 := Aside0.mk hC9; have HB9 := Aside0.mk hb9; clear hR hc9 hC9 hb9) | ((with_reducible refine gate_dst (N := 9) rfl ?_); refine box_event ?hg (N := 9) ?hd (cs := #[.int .i64 0, .int .i64 0, .int .i64 0, .string (⟨#[]⟩ : ByteArray), .slice none 0 0, .string (⟨#[]⟩ : ByteArray), .int .i64 0, .int .i64 0, .int .i64 0, .int .i64 0, .string (⟨#[]⟩ : ByteArray), .int .i64 0, .int .i64 0]) (t := 28) ?hr ?_; (case hd => rfl); (case hg => rfl); (case hr => first | (go_simp; done) | (go_simp; rfl)); intro ge hge we hbe hbb; have BE := Aside0.mk hbe; have GEE := Aside0.mk (show w9.heap.size ≤ ge by rw [hge]; exact Nat.le_refl _); have GE8 := Aside0.mk (show w8.heap.size ≤ ge by rw [hge]; exact HB9.out.size); have HBE := Aside0.mk hbb; have HBE8 := Aside0.mk (HB9.out.trans (hbb.mono HB9.out.size)); clear hbe hbb hge; obtain ⟨ci_0, ci_1, ci_2, ci_3, ci_4, ci_5, ci_6, ci_7, ci_8, ci_9, ci_10, ci_11, ci_12⟩ := zl13 BE.out; obtain ⟨fi_0, fi_1, fi_2, fi_3, fi_4, fi_5, fi_6, fi_7, fi_8, fi_9, fi_10, fi_11, fi_12⟩ := zkf13 BE.out))
  have n1 := Aside0.mk (puts13 (.int .i64 u0) (.int .i64 u1) (.int .i64 u2) (.string u3) (.slice A9 ul.length c9) (.string u5) (.int .i64 u6) (.int .i64 u7) (.int .i64 u8) (.int .i64 u9) (.string u10) (.int .i64 u11) (.int .i64 u12) BE.out)
  have n2 : Aside0 (Below w8.heap.size w8 (((((((((((((we.setCell ⟨ge, 0, none⟩ (.int .i64 u0)).setCell ⟨ge, 1, none⟩ (.int .i64 u1)).setCell ⟨ge, 2, none⟩ (.int .i64 u2)).setCell ⟨ge, 3, none⟩ (.string u3)).setCell ⟨ge, 4, none⟩ (.slice A9 ul.length c9)).setCell ⟨ge, 5, none⟩ (.string u5)).setCell ⟨ge, 6, none⟩ (.int .i64 u6)).setCell ⟨ge, 7, none⟩ (.int .i64 u7)).setCell ⟨ge, 8, none⟩ (.int .i64 u8)).setCell ⟨ge, 9, none⟩ (.int .i64 u9)).setCell ⟨ge, 10, none⟩ (.string u10)).setCell ⟨ge, 11, none⟩ (.int .i64 u11)).setCell ⟨ge, 12, none⟩ (.int .i64 u12))) := ⟨(below_set (below_set (below_set (below_set (below_set (below_set (below_set (below_set (below_set (below_set (below_set (below_set (below_set HBE8.out GE8.out) GE8.out) GE8.out) GE8.out) GE8.out) GE8.out) GE8.out) GE8.out) GE8.out) GE8.out) GE8.out) GE8.out) GE8.out)⟩
  have n3 : Aside0 (Kd.C Kd.string (((((((((((((we.setCell ⟨ge, 0, none⟩ (.int .i64 u0)).setCell ⟨ge, 1, none⟩ (.int .i64 u1)).setCell ⟨ge, 2, none⟩ (.int .i64 u2)).setCell ⟨ge, 3, none⟩ (.string u3)).setCell ⟨ge, 4, none⟩ (.slice A9 ul.length c9)).setCell ⟨ge, 5, none⟩ (.string u5)).setCell ⟨ge, 6, none⟩ (.int .i64 u6)).setCell ⟨ge, 7, none⟩ (.int .i64 u7)).setCell ⟨ge, 8, none⟩ (.int .i64 u8)).setCell ⟨ge, 9, none⟩ (.int .i64 u9)).setCell ⟨ge, 10, none⟩ (.string u10)).setCell ⟨ge, 11, none⟩ (.int .i64 u11)).setCell ⟨ge, 12, none⟩ (.int .i64 u12)) A9 ul.length ul) := ⟨Kd.C_below HR9.out (below_set (below_set (below_set (below_set (below_set (below_set (below_set (below_set (below_set (below_set (below_set (below_set (below_set HBE.out GEE.out) GEE.out) GEE.out) GEE.out) GEE.out) GEE.out) GEE.out) GEE.out) GEE.out) GEE.out) GEE.out) GEE.out) GEE.out)⟩
  generalize (((((((((((((we.setCell ⟨ge, 0, none⟩ (.int .i64 u0)).setCell ⟨ge, 1, none⟩ (.int .i64 u1)).setCell ⟨ge, 2, none⟩ (.int .i64 u2)).setCell ⟨ge, 3, none⟩ (.string u3)).setCell ⟨ge, 4, none⟩ (.slice A9 ul.length c9)).setCell ⟨ge, 5, none⟩ (.string u5)).setCell ⟨ge, 6, none⟩ (.int .i64 u6)).setCell ⟨ge, 7, none⟩ (.int .i64 u7)).setCell ⟨ge, 8, none⟩ (.int .i64 u8)).setCell ⟨ge, 9, none⟩ (.int .i64 u9)).setCell ⟨ge, 10, none⟩ (.string u10)).setCell ⟨ge, 11, none⟩ (.int .i64 u11)).setCell ⟨ge, 12, none⟩ (.int .i64 u12)) = w10 at n1 n2 n3 ⊢
  have BE10 := n1
  have HB10 := n2
  have HR10 := n3
  clear n1 n2 n3
  have BC10 := Aside0.mk (blk_below BC8.out HB10.out)
  have HRA := Aside0.mk (Kd.C_below HR8.out HB10.out)
  have HBW10 := Aside0.mk (HBW8.out.trans (HB10.out.mono HBW8.out.size))
  obtain ⟨cj_0, cj_1, cj_2, cj_3, cj_4, cj_5, cj_6, cj_7, cj_8, cj_9, cj_10, cj_11, cj_12⟩ := zl13 BC10.out
  obtain ⟨ck_0, ck_1, ck_2, ck_3, ck_4, ck_5, ck_6, ck_7, ck_8, ck_9, ck_10, ck_11, ck_12⟩ := zl13 BE10.out
  go_wp2_with (first | (go_at_call 8; (with_reducible refine (eqRecord_same k u0 u1 u2 u3 A9 A c9 c ul u5 u6 u7 u8 u9 u10 u11 u12 _ HR10.out HC9.out HRA.out HC1.out HE.out).mono ?_); rintro e w11 ⟨rfl, hb11⟩; have HB11 := Aside0.mk (HBW10.out.trans (hb11.mono HBW10.out.size)); clear hb11))
  go_ret
  exact ⟨rfl, HB11.out⟩
theorem laws_FnExactUnpackRecord.calls (k : Nat) (a0 : ByteArray) (r : Bool) (w : World) (hGE : GlE w) (hGI : GlI w) (hGM : GlM w) (h : laws_FnExactUnpackRecord.f k a0 = some r) :
    Calls Tryz.prog 3 #[.string a0] w fun e w' => e = .returned (.bool r) ∧ Below w.heap.size w w' := by
  unfold laws_FnExactUnpackRecord.f at h
  by_cases h0 : (a0.size : Int) > 1048576
  · rw [if_pos h0] at h
    obtain rfl := Option.some.inj h
    have c0 : decide (1048576 < (a0.size : Int)) = true := decide_eq_true h0
    have c0b : decide (1048576 < a0.size) = true := decide_eq_true (by omega)
    clear h0 h
    go_enter Tryz.func3, Tryz.ntmps3
    go_wp2
    go_ret
    exact ⟨rfl, Below.refl _ _⟩
  rw [if_neg h0] at h
  split at h
  · rename_i u0 u1 u2 u3 ul u5 u6 u7 u8 u9 u10 u11 u12 b hS
    split at h
    · rename_i hI
      split at h
      · rename_i n ms hM
        split at h
        · rename_i hh
          obtain rfl := Option.some.inj h
          exact law_walk k a0 u0 u1 u2 u3 ul u5 u6 u7 u8 u9 u10 u11 u12 b n ms w hGE hGI hGM h0 hS hI hM hh.1 hh.2.1 hh.2.2
        · cases h
      · cases h
    · cases h
  · cases h
end Go.Proofs.YtnlembpmcbnpnaaGreatDoor.X
/- What UnpackRecord answers, impl's and the reference's: a right record at its text, nothing at any other text. Plain Lean. -/
namespace Go.Proofs.YtnlembpmcbnpnaaGreatDoor.Pure
open Go Go.RowKit Go.Proofs.YtnlembpmcbnpnaaGreatDoorW.PrintWords
set_option linter.unusedVariables false
set_option linter.unusedSimpArgs false
abbrev RT := Int × Int × Int × ByteArray × List ByteArray × ByteArray × Int × Int × Int × Int × ByteArray × Int × Int × Bool
def yes (q : Rc) : RT := (q.k, q.a, q.b, q.fr, q.xs, q.bd, q.i, q.r, q.vk, q.vc, q.vt, q.tr, q.du, true)
def no : RT := (0, 0, 0, ⟨#[]⟩, [], ⟨#[]⟩, 0, 0, 0, 0, ⟨#[]⟩, 0, 0, false)
open Classical in
noncomputable def fin (s : ByteArray) (q : Rc) : RT := if s.toList = [] then no else if (packV q).toList = s.toList then yes q else no
theorem fin_ok (q : Rc) (h : okR q) : fin (B (packL q)) q = yes q := by
  have hne : (B (packL q)).toList ≠ [] := by
    rw [Lib.toList_data, B_data]
    unfold packL
    split
    · simp
    · split
      · simp
      · split <;> simp
  unfold fin
  rw [if_neg hne, packV_yes h, if_pos rfl]
theorem fin_no (l : List UInt8) (q : Rc) (h : ∀ q', okR q' → l ≠ packL q') : fin (B l) q = no := by
  unfold fin
  by_cases h0 : (B l).toList = []
  · rw [if_pos h0]
  rw [if_neg h0]
  by_cases ho : okR q
  · rw [packV_yes ho, if_neg (fun e => h q ho (by rw [Lib.toList_data, Lib.toList_data, B_data, B_data] at e; exact e.symm))]
  · rw [packV_no ho, if_neg (fun e => h0 (by rw [← e, Lib.toList_data]; rfl))]
def qM (a b : Int) (fr : ByteArray) (xs : List ByteArray) (bd : ByteArray) : Rc := ⟨1, a, b, fr, xs, bd, 0, 0, 0, 0, ⟨#[]⟩, 0, 0⟩
def qV (i r vk vc : Int) (vt : ByteArray) : Rc := ⟨2, 0, 0, ⟨#[]⟩, [], ⟨#[]⟩, i, r, vk, vc, vt, 0, 0⟩
def qT (i tr du : Int) : Rc := ⟨3, 0, 0, ⟨#[]⟩, [], ⟨#[]⟩, i, 0, 0, 0, ⟨#[]⟩, tr, du⟩
def qK (k i : Int) : Rc := ⟨k, 0, 0, ⟨#[]⟩, [], ⟨#[]⟩, i, 0, 0, 0, ⟨#[]⟩, 0, 0⟩
theorem e_size : (⟨#[]⟩ : ByteArray).size ≤ 1048576 := by decide
theorem fits_M (a b : Int) (fr : ByteArray) (xs : List ByteArray) (bd : ByteArray) (h1 : fr.size ≤ 1048576) (h2 : xs.length ≤ 1048576) (h3 : ∀ x ∈ xs, x.size ≤ 1048576) (h4 : bd.size ≤ 1048576) : Fits (qM a b fr xs bd) := ⟨h1, h4, e_size, h2, h3⟩
theorem fits_V (i r vk vc : Int) (vt : ByteArray) (h : vt.size ≤ 1048576) : Fits (qV i r vk vc vt) := ⟨e_size, e_size, h, Nat.zero_le _, fun x hx => by cases hx⟩
theorem fits_T (i tr du : Int) : Fits (qT i tr du) := ⟨e_size, e_size, e_size, Nat.zero_le _, fun x hx => by cases hx⟩
theorem fits_K (k i : Int) : Fits (qK k i) := ⟨e_size, e_size, e_size, Nat.zero_le _, fun x hx => by cases hx⟩
theorem eta_nil (b : ByteArray) (h : b.toList = []) : b = ⟨#[]⟩ := by
  rw [Lib.toList_data] at h
  rw [← B_eta b, h]; rfl
theorem okR_form (q : Rc) (h : okR q) : (q = qM q.a q.b q.fr q.xs q.bd ∧ okM q) ∨ (q = qV q.i q.r q.vk q.vc q.vt ∧ okVd q) ∨ (q = qT q.i q.tr q.du ∧ okT q) ∨ (q = qK q.k q.i ∧ okK q) := by
  obtain ⟨k, a, b, fr, xs, bd, i, r, vk, vc, vt, tr, du⟩ := q
  rcases h with h | h | h | h
  · refine .inl ⟨?_, h⟩
    obtain ⟨hk, _, _, _, hi, hr, ⟨h1, h2, h3⟩, h4, h5⟩ := h
    dsimp only at hk hi hr h1 h2 h3 h4 h5
    rw [eta_nil vt h3, hk, hi, hr, h1, h2, h4, h5]; rfl
  · refine .inr (.inl ⟨?_, h⟩)
    obtain ⟨hk, ⟨m1, m2, m3, m4, m5⟩, _, _, _, _, _, h4, h5⟩ := h
    dsimp only at hk m1 m2 m3 m4 m5 h4 h5
    rw [eta_nil fr m3, eta_nil bd m5, hk, m1, m2, m4, h4, h5]; rfl
  · refine .inr (.inr (.inl ⟨?_, h⟩))
    obtain ⟨hk, ⟨m1, m2, m3, m4, m5⟩, _, hr, ⟨h1, h2, h3⟩, _⟩ := h
    dsimp only at hk m1 m2 m3 m4 m5 hr h1 h2 h3
    rw [eta_nil fr m3, eta_nil bd m5, eta_nil vt h3, hk, m1, m2, m4, hr, h1, h2]; rfl
  · refine .inr (.inr (.inr ⟨?_, h⟩))
    obtain ⟨_, ⟨m1, m2, m3, m4, m5⟩, hr, ⟨h1, h2, h3⟩, h4, h5⟩ := h
    dsimp only at m1 m2 m3 m4 m5 hr h1 h2 h3 h4 h5
    rw [eta_nil fr m3, eta_nil bd m5, eta_nil vt h3, m1, m2, m4, hr, h1, h2, h4, h5]; rfl
def restT : List ByteArray → ByteArray → List UInt8
  | [], bd => cT bd ++ jt []
  | y :: ys, bd => cT y ++ jt (ys.map cT ++ [cT bd])
theorem jt_rest : ∀ (ys : List ByteArray) (bd : ByteArray), jt (ys.map cT ++ [cT bd]) = 32 :: restT ys bd
  | [], _ => rfl
  | _ :: _, _ => rfl
theorem tagne (c : UInt8) (d : UInt8) (h : c ≠ d) : ¬ (B [c]).toList = [d] := by rw [Lib.toList_data, B_data]; simpa using h
theorem tageq (c : UInt8) : (B [c]).toList = [c] := by rw [Lib.toList_data, B_data]
theorem cT_fits (y : ByteArray) (k : Nat) (t : List UInt8) (h : (cT y ++ t).length ≤ 1048576) : y.size ≤ 1048576 ∧ t.length ≤ 1048576 := by
  rw [List.length_append, cT_len] at h; omega
theorem j1I (s : ByteArray) (q : Rc) (h : Fits q) : Ev (fun k => X.impl_UnpackRecord.j1 k s q.k q.a q.b q.fr q.xs q.bd q.i q.r q.vk q.vc q.vt q.tr q.du) (fin s q) := by
  refine Ev.step (fun k => by rw [X.impl_UnpackRecord.j1]) ?_
  unfold fin
  refine evIte (fun h1 => ?_) (fun h1 => ?_)
  · rw [if_pos h1]; exact Ev.now _
  rw [if_neg h1]
  refine Ev.bind (packI_f q h) (evIte (fun h2 => ?_) (fun h2 => ?_))
  · rw [if_pos h2]; exact Ev.now _
  · rw [if_neg h2]; exact Ev.now _
theorem endI (s : ByteArray) (a b : Int) (fr : ByteArray) (xs : List ByteArray) (rest : List UInt8) (hx : xs.length ≤ 1048576) (hxs : ∀ x ∈ xs, x.size ≤ 1048576) (hr : rest.length ≤ 1048576) (hf : fr.size ≤ 1048576) :
    ∃ q, Fits q ∧ Ev (fun k => (X.impl_parts_str.f (B rest)).bind fun bt => X.impl_UnpackRecord.j1 k s 1 a b fr xs bt.1 0 0 0 0 ⟨#[]⟩ 0 0) (fin s q) := by
  obtain ⟨x, r, e, h1, h2⟩ := istr_f rest hr
  have hq := fits_M a b fr xs (B x) hf hx hxs (by rw [B_size]; omega)
  exact ⟨_, hq, evSome e (j1I s _ hq)⟩
theorem loopI_any (s : ByteArray) (a b : Int) (fr : ByteArray) (hf : fr.size ≤ 1048576) : ∀ (m : Nat) (n : Int) (xs : List ByteArray) (rest : List UInt8), 20 - xs.length = m → xs.length ≤ 20 → (∀ x ∈ xs, x.size ≤ 1048576) → rest.length ≤ 1048576 →
    ∃ q, Fits q ∧ Ev (fun k => X.impl_UnpackRecord.l0 k s n (B rest) 1 a b fr xs ⟨#[]⟩ 0 0 0 0 ⟨#[]⟩ 0 0) (fin s q) := by
  intro m
  induction m with
  | zero =>
    intro n xs rest hm hx hxs hr
    obtain ⟨q, hq, he⟩ := endI s a b fr xs rest (by omega) hxs hr hf
    refine ⟨q, hq, Ev.step (fun k => by rw [X.impl_UnpackRecord.l0]) (evIte (fun h1 => evIte (fun h2 => ?_) (fun h2 => he)) (fun h1 => he))⟩
    omega
  | succ m ih =>
    intro n xs rest hm hx hxs hr
    by_cases h1 : n > 0
    · obtain ⟨x, r, e, hx1, hr1⟩ := istr_f rest hr
      obtain ⟨q, hq, he⟩ := ih (wrap64 (n - 1)) (xs ++ [B x]) r (by rw [List.length_append, List.length_singleton]; omega) (by rw [List.length_append, List.length_singleton]; omega) (fun y hy => by
        rcases List.mem_append.1 hy with hy | hy
        · exact hxs y hy
        · rw [List.mem_singleton.1 hy, B_size]; omega) (by omega)
      refine ⟨q, hq, ?_⟩
      refine Ev.step (fun k => by rw [X.impl_UnpackRecord.l0, if_pos h1, if_pos (by omega)]) ?_
      exact evSome e (Ev.congr (fun k => if_pos (show xs.length < 8796093022208 by omega)) he)
    · obtain ⟨q, hq, he⟩ := endI s a b fr xs rest (by omega) hxs hr hf
      exact ⟨q, hq, Ev.step (fun k => by rw [X.impl_UnpackRecord.l0, if_neg h1]) he⟩
theorem loopI_at (s : ByteArray) (a b : Int) (fr bd : ByteArray) (hf : fr.size ≤ 1048576) (hbs : bd.size ≤ 3000) : ∀ (ys xs : List ByteArray), xs.length + ys.length ≤ 20 → (∀ x ∈ xs, x.size ≤ 1048576) → (∀ y ∈ ys, y.size ≤ 160) → (restT ys bd).length ≤ 1048576 →
    Ev (fun k => X.impl_UnpackRecord.l0 k s (ys.length : Int) (B (restT ys bd)) 1 a b fr xs ⟨#[]⟩ 0 0 0 0 ⟨#[]⟩ 0 0) (fin s (qM a b fr (xs ++ ys) bd))
  | [], xs, hl, hx, hy, hr => by
    rw [List.append_nil]
    have e := istr_at bd.data.toList (jt []) [] (.inr ⟨rfl, rfl⟩) hr
    rw [B_eta] at e
    refine Ev.step (fun k => by rw [X.impl_UnpackRecord.l0, if_neg (by simp)]) ?_
    exact evSome e (j1I s (qM a b fr xs bd) (fits_M a b fr xs bd hf (by rw [List.length_nil] at hl; omega) hx (by omega)))
  | y :: ys, xs, hl, hx, hy, hr => by
    have hy0 := hy y List.mem_cons_self
    rw [List.length_cons] at hl
    have e := istr_at y.data.toList (jt (ys.map cT ++ [cT bd])) (restT ys bd) (.inl (jt_rest ys bd)) hr
    rw [B_eta] at e
    have hr2 : (restT ys bd).length ≤ 1048576 := by
      have := (cT_fits y 0 _ hr).2
      rw [jt_rest, List.length_cons] at this; omega
    have hI := loopI_at s a b fr bd hf hbs ys (xs ++ [y]) (by rw [List.length_append, List.length_singleton]; omega) (fun z hz => by
      rcases List.mem_append.1 hz with hz | hz
      · exact hx z hz
      · rw [List.mem_singleton.1 hz]; omega) (fun z hz => hy z (List.mem_cons_of_mem _ hz)) hr2
    rw [List.append_assoc, List.singleton_append] at hI
    have ew : wrap64 (((y :: ys).length : Int) - 1) = (ys.length : Int) := by rw [List.length_cons, wrap_id _ (by omega) (by omega)]; omega
    refine Ev.step (fun k => by rw [X.impl_UnpackRecord.l0, if_pos (by rw [List.length_cons]; omega), if_pos (by omega), ew]) ?_
    exact evSome e (Ev.congr (fun k => if_pos (show xs.length < 8796093022208 by omega)) hI)
theorem anyI (l : List UInt8) (hl : l.length ≤ 1048576) : ∃ q, Ev (fun k => X.impl_UnpackRecord.f k (B l)) (fin (B l) q) := by
  have h0_ : ((Lib.cut l [32]).2.1).length ≤ 1048576 := by have := (cut_len l [32]).2; omega
  have h1_ : ((Lib.cut ((Lib.cut l [32]).2.1) [32]).2.1).length ≤ 1048576 := by have := (cut_len ((Lib.cut l [32]).2.1) [32]).2; omega
  have h2_ : ((Lib.cut ((Lib.cut ((Lib.cut l [32]).2.1) [32]).2.1) [32]).2.1).length ≤ 1048576 := by have := (cut_len ((Lib.cut ((Lib.cut l [32]).2.1) [32]).2.1) [32]).2; omega
  have h3_ : ((Lib.cut ((Lib.cut ((Lib.cut ((Lib.cut l [32]).2.1) [32]).2.1) [32]).2.1) [32]).2.1).length ≤ 1048576 := by have := (cut_len ((Lib.cut ((Lib.cut ((Lib.cut l [32]).2.1) [32]).2.1) [32]).2.1) [32]).2; omega
  have h4_ : ((Lib.cut ((Lib.cut ((Lib.cut ((Lib.cut ((Lib.cut l [32]).2.1) [32]).2.1) [32]).2.1) [32]).2.1) [32]).2.1).length ≤ 1048576 := by have := (cut_len ((Lib.cut ((Lib.cut ((Lib.cut ((Lib.cut l [32]).2.1) [32]).2.1) [32]).2.1) [32]).2.1) [32]).2; omega
  unfold X.impl_UnpackRecord.f
  by_cases t1 : (B (Lib.cut l [32]).1).toList = [77]
  · obtain ⟨x, r, e, hx, hr⟩ := istr_f ((Lib.cut ((Lib.cut ((Lib.cut ((Lib.cut l [32]).2.1) [32]).2.1) [32]).2.1) [32]).2.1) h3_
    obtain ⟨q, _, he⟩ := loopI_any (B l) (X.piV (B (Lib.cut ((Lib.cut l [32]).2.1) [32]).1)) (X.piV (B (Lib.cut ((Lib.cut ((Lib.cut l [32]).2.1) [32]).2.1) [32]).1)) (B x) (by rw [B_size]; omega) 20 (X.piV (B (Lib.cut ((Lib.cut ((Lib.cut ((Lib.cut l [32]).2.1) [32]).2.1) [32]).2.1) [32]).1)) [] r rfl (by decide) (fun y hy => by cases hy) (by omega)
    exact ⟨q, evSome (word_f l hl) ((Ev.congr (fun k => if_pos t1) (evSome (inum_f _ h0_) (evSome (inum_f _ h1_) (evSome (inum_f _ h2_) (evSome e he))))))⟩
  by_cases t2 : (B (Lib.cut l [32]).1).toList = [86]
  · obtain ⟨x, r, e, hx, hr⟩ := istr_f ((Lib.cut ((Lib.cut ((Lib.cut ((Lib.cut ((Lib.cut l [32]).2.1) [32]).2.1) [32]).2.1) [32]).2.1) [32]).2.1) h4_
    exact ⟨_, evSome (word_f l hl) ((Ev.congr (fun k => if_neg t1) (Ev.congr (fun k => if_pos t2) (evSome (inum_f _ h0_) (evSome (inum_f _ h1_) (evSome (inum_f _ h2_) (evSome (inum_f _ h3_) (evSome e (j1I _ (qV _ _ _ _ (B x)) (fits_V _ _ _ _ _ (by rw [B_size]; omega)))))))))))⟩
  by_cases t3 : (B (Lib.cut l [32]).1).toList = [84]
  · exact ⟨_, evSome (word_f l hl) ((Ev.congr (fun k => if_neg t1) (Ev.congr (fun k => if_neg t2) (Ev.congr (fun k => if_pos t3) (evSome (inum_f _ h0_) (evSome (inum_f _ h1_) (evSome (inum_f _ h2_) (j1I _ (qT _ _ _) (fits_T _ _ _)))))))))⟩
  by_cases t4 : (B (Lib.cut l [32]).1).toList = [66]
  · exact ⟨_, evSome (word_f l hl) ((Ev.congr (fun k => if_neg t1) (Ev.congr (fun k => if_neg t2) (Ev.congr (fun k => if_neg t3) (Ev.congr (fun k => if_pos t4) (evSome (inum_f _ h0_) (j1I _ (qK 4 _) (fits_K _ _))))))))⟩
  by_cases t5 : (B (Lib.cut l [32]).1).toList = [68]
  · exact ⟨_, evSome (word_f l hl) ((Ev.congr (fun k => if_neg t1) (Ev.congr (fun k => if_neg t2) (Ev.congr (fun k => if_neg t3) (Ev.congr (fun k => if_neg t4) (Ev.congr (fun k => if_pos t5) (evSome (inum_f _ h0_) (j1I _ (qK 5 _) (fits_K _ _)))))))))⟩
  by_cases t6 : (B (Lib.cut l [32]).1).toList = [78]
  · exact ⟨_, evSome (word_f l hl) ((Ev.congr (fun k => if_neg t1) (Ev.congr (fun k => if_neg t2) (Ev.congr (fun k => if_neg t3) (Ev.congr (fun k => if_neg t4) (Ev.congr (fun k => if_neg t5) (Ev.congr (fun k => if_pos t6) (evSome (inum_f _ h0_) (j1I _ (qK 6 _) (fits_K _ _))))))))))⟩
  exact ⟨_, evSome (word_f l hl) ((Ev.congr (fun k => if_neg t1) (Ev.congr (fun k => if_neg t2) (Ev.congr (fun k => if_neg t3) (Ev.congr (fun k => if_neg t4) (Ev.congr (fun k => if_neg t5) (Ev.congr (fun k => if_neg t6) (j1I _ (qK 0 0) (fits_K _ _)))))))))⟩
theorem atI_M (q : Rc) (h : okM q) (hq : q = qM q.a q.b q.fr q.xs q.bd) : Ev (fun k => X.impl_UnpackRecord.f k (B (packL q))) (fin (B (packL q)) q) := by
  have hlen := packL_len q (.inl h)
  obtain ⟨hf, hx, hxs, hb⟩ := okM_parts q h
  obtain ⟨hk, ha, hbo, _⟩ := h
  generalize hs : packL q = s at hlen ⊢
  rw [packL_M q hk] at hs
  rw [hq]
  simp only [qM]
  have e : s = 77 :: 32 :: (nT q.a.toNat ++ 32 :: (nT q.b.toNat ++ 32 :: (nT q.xs.length ++ 32 :: (cT q.fr ++ 32 :: restT q.xs q.bd)))) := by
    rw [← hs, jt_append, jt_rest]; simp [jt]
  have hl2 := congrArg List.length e
  simp only [List.length_cons, List.length_append] at hl2
  have ea : (q.a.toNat : Int) = q.a := by omega
  have eb : (q.b.toNat : Int) = q.b := by omega
  have da := nT_len 6 q.a.toNat (show _ < 10000000 by omega)
  have db := nT_len 7 q.b.toNat (show _ < 100000000 by omega)
  have dx := nT_len 1 q.xs.length (show _ < 100 by omega)
  have hz : (77 :: 32 :: (nT q.a.toNat ++ 32 :: (nT q.b.toNat ++ 32 :: (nT q.xs.length ++ 32 :: (cT q.fr ++ 32 :: restT q.xs q.bd))))).length ≤ 1048576 := by rw [← e]; omega
  have hS := istr_at q.fr.data.toList (32 :: restT q.xs q.bd) (restT q.xs q.bd) (.inl rfl) (by rw [List.length_append, List.length_cons]; show (cT q.fr).length + _ ≤ _; omega)
  rw [B_eta] at hS
  have hL := loopI_at (B s) q.a q.b q.fr q.bd (by omega) hb q.xs [] (by simpa using hx) (fun y hy => by cases hy) hxs (by omega)
  rw [List.nil_append] at hL
  have h1 := inum_at (q.a.toNat) (32 :: (nT q.b.toNat ++ 32 :: (nT q.xs.length ++ 32 :: (cT q.fr ++ 32 :: restT q.xs q.bd)))) (nT q.b.toNat ++ 32 :: (nT q.xs.length ++ 32 :: (cT q.fr ++ 32 :: restT q.xs q.bd))) (by omega) (.inl rfl) (by rw [List.length_append, List.length_cons]; simp only [List.length_append, List.length_cons]; omega)
  have h2 := inum_at (q.b.toNat) (32 :: (nT q.xs.length ++ 32 :: (cT q.fr ++ 32 :: restT q.xs q.bd))) (nT q.xs.length ++ 32 :: (cT q.fr ++ 32 :: restT q.xs q.bd)) (by omega) (.inl rfl) (by rw [List.length_append, List.length_cons]; simp only [List.length_append, List.length_cons]; omega)
  have h3 := inum_at (q.xs.length) (32 :: (cT q.fr ++ 32 :: restT q.xs q.bd)) (cT q.fr ++ 32 :: restT q.xs q.bd) (by omega) (.inl rfl) (by rw [List.length_append, List.length_cons]; simp only [List.length_append, List.length_cons]; omega)
  rw [ea] at h1
  rw [eb] at h2
  unfold X.impl_UnpackRecord.f
  rw [show B s = _ from congrArg B e]
  rw [show B s = _ from congrArg B e] at hL
  exact evSome (word_at 77 _ (by decide) hz) ((Ev.congr (fun k => if_pos (tageq 77)) (evSome h1 (evSome h2 (evSome h3 (evSome hS hL))))))
theorem atI_V (q : Rc) (h : okVd q) (hk : q.k = 2) (hq : q = qV q.i q.r q.vk q.vc q.vt) : Ev (fun k => X.impl_UnpackRecord.f k (B (packL q))) (fin (B (packL q)) q) := by
  have hlen := packL_len q (.inr (.inl h))
  obtain ⟨_, _, hi, hr, hv, hc, ht, _⟩ := h
  generalize hs : packL q = s at hlen ⊢
  rw [packL_V q hk] at hs
  rw [hq]
  simp only [qV]
  have e : s = 86 :: 32 :: (nT q.i.toNat ++ 32 :: (nT q.r.toNat ++ 32 :: (nT q.vk.toNat ++ 32 :: (nT q.vc.toNat ++ 32 :: (cT q.vt))))) := by rw [← hs]; simp [jt]
  have hl2 := congrArg List.length e
  simp only [List.length_cons, List.length_append] at hl2
  have e0 : (q.i.toNat : Int) = q.i := by omega
  have d0 := nT_len 7 q.i.toNat (show _ < 100000000 by omega)
  have e1 : (q.r.toNat : Int) = q.r := by omega
  have d1 := nT_len 7 q.r.toNat (show _ < 100000000 by omega)
  have e2 : (q.vk.toNat : Int) = q.vk := by omega
  have d2 := nT_len 7 q.vk.toNat (show _ < 100000000 by omega)
  have e3 : (q.vc.toNat : Int) = q.vc := by omega
  have d3 := nT_len 7 q.vc.toNat (show _ < 100000000 by omega)
  have hz : (86 :: 32 :: (nT q.i.toNat ++ 32 :: (nT q.r.toNat ++ 32 :: (nT q.vk.toNat ++ 32 :: (nT q.vc.toNat ++ 32 :: (cT q.vt)))))).length ≤ 1048576 := by rw [← e]; omega
  have h0 := inum_at (q.i.toNat) (32 :: (nT q.r.toNat ++ 32 :: (nT q.vk.toNat ++ 32 :: (nT q.vc.toNat ++ 32 :: (cT q.vt))))) (nT q.r.toNat ++ 32 :: (nT q.vk.toNat ++ 32 :: (nT q.vc.toNat ++ 32 :: (cT q.vt)))) (by omega) (.inl rfl) (by rw [List.length_append]; simp only [List.length_append, List.length_cons, List.length_nil]; omega)
  rw [e0] at h0
  have h1 := inum_at (q.r.toNat) (32 :: (nT q.vk.toNat ++ 32 :: (nT q.vc.toNat ++ 32 :: (cT q.vt)))) (nT q.vk.toNat ++ 32 :: (nT q.vc.toNat ++ 32 :: (cT q.vt))) (by omega) (.inl rfl) (by rw [List.length_append]; simp only [List.length_append, List.length_cons, List.length_nil]; omega)
  rw [e1] at h1
  have h2 := inum_at (q.vk.toNat) (32 :: (nT q.vc.toNat ++ 32 :: (cT q.vt))) (nT q.vc.toNat ++ 32 :: (cT q.vt)) (by omega) (.inl rfl) (by rw [List.length_append]; simp only [List.length_append, List.length_cons, List.length_nil]; omega)
  rw [e2] at h2
  have h3 := inum_at (q.vc.toNat) (32 :: (cT q.vt)) (cT q.vt) (by omega) (.inl rfl) (by rw [List.length_append]; simp only [List.length_append, List.length_cons, List.length_nil]; omega)
  rw [e3] at h3
  have hS := istr_at q.vt.data.toList [] [] (.inr ⟨rfl, rfl⟩) (by rw [List.append_nil]; show (cT q.vt).length ≤ _; omega)
  rw [B_eta, List.append_nil] at hS
  have hJ := j1I (B s) (qV q.i q.r q.vk q.vc q.vt) (fits_V _ _ _ _ _ (by omega))
  unfold X.impl_UnpackRecord.f
  rw [show B s = _ from congrArg B e]
  rw [show B s = _ from congrArg B e] at hJ
  exact evSome (word_at 86 _ (by decide) hz) (Ev.congr (fun k => if_neg (tagne 86 77 (by decide))) (Ev.congr (fun k => if_pos (tageq 86)) (evSome h0 (evSome h1 (evSome h2 (evSome h3 (evSome hS hJ)))))))
theorem atI_T (q : Rc) (h : okT q) (hk : q.k = 3) (hq : q = qT q.i q.tr q.du) : Ev (fun k => X.impl_UnpackRecord.f k (B (packL q))) (fin (B (packL q)) q) := by
  have hlen := packL_len q (.inr (.inr (.inl h)))
  obtain ⟨_, _, hi, _, _, ht, hd⟩ := h
  generalize hs : packL q = s at hlen ⊢
  rw [packL_T q hk] at hs
  rw [hq]
  simp only [qT]
  have e : s = 84 :: 32 :: (nT q.i.toNat ++ 32 :: (nT q.tr.toNat ++ 32 :: (nT q.du.toNat))) := by rw [← hs]; simp [jt]
  have hl2 := congrArg List.length e
  simp only [List.length_cons, List.length_append] at hl2
  have e0 : (q.i.toNat : Int) = q.i := by omega
  have d0 := nT_len 7 q.i.toNat (show _ < 100000000 by omega)
  have e1 : (q.tr.toNat : Int) = q.tr := by omega
  have d1 := nT_len 7 q.tr.toNat (show _ < 100000000 by omega)
  have e2 : (q.du.toNat : Int) = q.du := by omega
  have d2 := nT_len 7 q.du.toNat (show _ < 100000000 by omega)
  have hz : (84 :: 32 :: (nT q.i.toNat ++ 32 :: (nT q.tr.toNat ++ 32 :: (nT q.du.toNat)))).length ≤ 1048576 := by rw [← e]; omega
  have h0 := inum_at (q.i.toNat) (32 :: (nT q.tr.toNat ++ 32 :: (nT q.du.toNat))) (nT q.tr.toNat ++ 32 :: (nT q.du.toNat)) (by omega) (.inl rfl) (by rw [List.length_append]; simp only [List.length_append, List.length_cons, List.length_nil]; omega)
  rw [e0] at h0
  have h1 := inum_at (q.tr.toNat) (32 :: (nT q.du.toNat)) (nT q.du.toNat) (by omega) (.inl rfl) (by rw [List.length_append]; simp only [List.length_append, List.length_cons, List.length_nil]; omega)
  rw [e1] at h1
  have h2 := inum_at (q.du.toNat) [] [] (by omega) (.inr ⟨rfl, rfl⟩) (by rw [List.length_append]; simp only [List.length_append, List.length_cons, List.length_nil]; omega)
  rw [e2, List.append_nil] at h2
  have hJ := j1I (B s) (qT q.i q.tr q.du) (fits_T _ _ _)
  unfold X.impl_UnpackRecord.f
  rw [show B s = _ from congrArg B e]
  rw [show B s = _ from congrArg B e] at hJ
  exact evSome (word_at 84 _ (by decide) hz) (Ev.congr (fun k => if_neg (tagne 84 77 (by decide))) (Ev.congr (fun k => if_neg (tagne 84 86 (by decide))) (Ev.congr (fun k => if_pos (tageq 84)) (evSome h0 (evSome h1 (evSome h2 hJ))))))
theorem atI_B (q : Rc) (h : okK q) (hk : q.k = 4) (hq : q = qK 4 q.i) : Ev (fun k => X.impl_UnpackRecord.f k (B (packL q))) (fin (B (packL q)) q) := by
  have hlen := packL_len q (.inr (.inr (.inr h)))
  obtain ⟨hi, _⟩ := h
  generalize hs : packL q = s at hlen ⊢
  rw [packL_B q hk] at hs
  rw [hq]
  simp only [qK]
  have e : s = 66 :: 32 :: (nT q.i.toNat) := by rw [← hs]; simp [jt]
  have hl2 := congrArg List.length e
  simp only [List.length_cons, List.length_append] at hl2
  have e0 : (q.i.toNat : Int) = q.i := by omega
  have d0 := nT_len 7 q.i.toNat (show _ < 100000000 by omega)
  have hz : (66 :: 32 :: (nT q.i.toNat)).length ≤ 1048576 := by rw [← e]; omega
  have h0 := inum_at (q.i.toNat) [] [] (by omega) (.inr ⟨rfl, rfl⟩) (by rw [List.length_append]; simp only [List.length_append, List.length_cons, List.length_nil]; omega)
  rw [e0, List.append_nil] at h0
  have hJ := j1I (B s) (qK 4 q.i) (fits_K _ _)
  unfold X.impl_UnpackRecord.f
  rw [show B s = _ from congrArg B e]
  rw [show B s = _ from congrArg B e] at hJ
  exact evSome (word_at 66 _ (by decide) hz) (Ev.congr (fun k => if_neg (tagne 66 77 (by decide))) (Ev.congr (fun k => if_neg (tagne 66 86 (by decide))) (Ev.congr (fun k => if_neg (tagne 66 84 (by decide))) (Ev.congr (fun k => if_pos (tageq 66)) (evSome h0 hJ)))))
theorem atI_D (q : Rc) (h : okK q) (hk : q.k = 5) (hq : q = qK 5 q.i) : Ev (fun k => X.impl_UnpackRecord.f k (B (packL q))) (fin (B (packL q)) q) := by
  have hlen := packL_len q (.inr (.inr (.inr h)))
  obtain ⟨hi, _⟩ := h
  generalize hs : packL q = s at hlen ⊢
  rw [packL_D q hk] at hs
  rw [hq]
  simp only [qK]
  have e : s = 68 :: 32 :: (nT q.i.toNat) := by rw [← hs]; simp [jt]
  have hl2 := congrArg List.length e
  simp only [List.length_cons, List.length_append] at hl2
  have e0 : (q.i.toNat : Int) = q.i := by omega
  have d0 := nT_len 7 q.i.toNat (show _ < 100000000 by omega)
  have hz : (68 :: 32 :: (nT q.i.toNat)).length ≤ 1048576 := by rw [← e]; omega
  have h0 := inum_at (q.i.toNat) [] [] (by omega) (.inr ⟨rfl, rfl⟩) (by rw [List.length_append]; simp only [List.length_append, List.length_cons, List.length_nil]; omega)
  rw [e0, List.append_nil] at h0
  have hJ := j1I (B s) (qK 5 q.i) (fits_K _ _)
  unfold X.impl_UnpackRecord.f
  rw [show B s = _ from congrArg B e]
  rw [show B s = _ from congrArg B e] at hJ
  exact evSome (word_at 68 _ (by decide) hz) (Ev.congr (fun k => if_neg (tagne 68 77 (by decide))) (Ev.congr (fun k => if_neg (tagne 68 86 (by decide))) (Ev.congr (fun k => if_neg (tagne 68 84 (by decide))) (Ev.congr (fun k => if_neg (tagne 68 66 (by decide))) (Ev.congr (fun k => if_pos (tageq 68)) (evSome h0 hJ))))))
theorem atI_N (q : Rc) (h : okK q) (hk : q.k = 6) (hq : q = qK 6 q.i) : Ev (fun k => X.impl_UnpackRecord.f k (B (packL q))) (fin (B (packL q)) q) := by
  have hlen := packL_len q (.inr (.inr (.inr h)))
  obtain ⟨hi, _⟩ := h
  generalize hs : packL q = s at hlen ⊢
  rw [packL_N q hk] at hs
  rw [hq]
  simp only [qK]
  have e : s = 78 :: 32 :: (nT q.i.toNat) := by rw [← hs]; simp [jt]
  have hl2 := congrArg List.length e
  simp only [List.length_cons, List.length_append] at hl2
  have e0 : (q.i.toNat : Int) = q.i := by omega
  have d0 := nT_len 7 q.i.toNat (show _ < 100000000 by omega)
  have hz : (78 :: 32 :: (nT q.i.toNat)).length ≤ 1048576 := by rw [← e]; omega
  have h0 := inum_at (q.i.toNat) [] [] (by omega) (.inr ⟨rfl, rfl⟩) (by rw [List.length_append]; simp only [List.length_append, List.length_cons, List.length_nil]; omega)
  rw [e0, List.append_nil] at h0
  have hJ := j1I (B s) (qK 6 q.i) (fits_K _ _)
  unfold X.impl_UnpackRecord.f
  rw [show B s = _ from congrArg B e]
  rw [show B s = _ from congrArg B e] at hJ
  exact evSome (word_at 78 _ (by decide) hz) (Ev.congr (fun k => if_neg (tagne 78 77 (by decide))) (Ev.congr (fun k => if_neg (tagne 78 86 (by decide))) (Ev.congr (fun k => if_neg (tagne 78 84 (by decide))) (Ev.congr (fun k => if_neg (tagne 78 66 (by decide))) (Ev.congr (fun k => if_neg (tagne 78 68 (by decide))) (Ev.congr (fun k => if_pos (tageq 78)) (evSome h0 hJ)))))))
theorem atI (q : Rc) (h : okR q) : Ev (fun k => X.impl_UnpackRecord.f k (B (packL q))) (yes q) := by
  rw [← fin_ok q h]
  rcases okR_form q h with ⟨e, o⟩ | ⟨e, o⟩ | ⟨e, o⟩ | ⟨e, o⟩
  · exact atI_M q o e
  · exact atI_V q o o.1 e
  · exact atI_T q o o.1 e
  · have hk := o.1
    rcases hk with ⟨hk | hk, _⟩ | ⟨hk, _⟩
    · exact atI_B q o hk (by rw [← hk]; exact e)
    · exact atI_D q o hk (by rw [← hk]; exact e)
    · exact atI_N q o hk (by rw [← hk]; exact e)
theorem j1S (s : ByteArray) (q : Rc) (h : Fits q) : Ev (fun k => X.spec_UnpackRecord.j1 k s q.k q.a q.b q.fr q.xs q.bd q.i q.r q.vk q.vc q.vt q.tr q.du) (fin s q) := by
  refine Ev.step (fun k => by rw [X.spec_UnpackRecord.j1]) ?_
  unfold fin
  refine evIte (fun h1 => ?_) (fun h1 => ?_)
  · rw [if_pos h1]; exact Ev.now _
  rw [if_neg h1]
  refine Ev.bind (packS_f q h) (evIte (fun h2 => ?_) (fun h2 => ?_))
  · rw [if_pos h2]; exact Ev.now _
  · rw [if_neg h2]; exact Ev.now _
theorem endS (s : ByteArray) (a b : Int) (fr : ByteArray) (xs : List ByteArray) (rest : List UInt8) (hx : xs.length ≤ 1048576) (hxs : ∀ x ∈ xs, x.size ≤ 1048576) (hr : rest.length ≤ 1048576) (hf : fr.size ≤ 1048576) :
    ∃ q, Fits q ∧ Ev (fun k => (X.spec_l6rd_str.f k (B rest)).bind fun bt => X.spec_UnpackRecord.j1 k s 1 a b fr xs bt.1 0 0 0 0 ⟨#[]⟩ 0 0) (fin s q) := by
  obtain ⟨x, r, e, h1, h2⟩ := sstr_f rest hr
  have hq := fits_M a b fr xs (B x) hf hx hxs (by rw [B_size]; omega)
  exact ⟨_, hq, Ev.bind e (j1S s _ hq)⟩
theorem loopS_any (s : ByteArray) (a b : Int) (fr : ByteArray) (hf : fr.size ≤ 1048576) : ∀ (m : Nat) (n : Int) (xs : List ByteArray) (rest : List UInt8), n.toNat = m → xs.length ≤ 1000000 - (min m 21) → (∀ x ∈ xs, x.size ≤ 1048576) → rest.length ≤ 1048576 →
    ∃ q, Fits q ∧ Ev (fun k => X.spec_UnpackRecord.l0 k s n 1 a b fr xs ⟨#[]⟩ 0 0 0 0 ⟨#[]⟩ 0 0 (B rest)) (fin s q) := by
  intro m
  induction m with
  | zero =>
    intro n xs rest hm hx hxs hr
    obtain ⟨q, hq, he⟩ := endS s a b fr xs rest (by omega) hxs hr hf
    exact ⟨q, hq, Ev.step (fun k => by rw [X.spec_UnpackRecord.l0, if_neg (by omega)]) he⟩
  | succ m ih =>
    intro n xs rest hm hx hxs hr
    by_cases h2 : n ≤ 20
    · obtain ⟨x, r, e, hx1, hr1⟩ := sstr_f rest hr
      have ew : wrap64 (n - 1) = n - 1 := wrap_id _ (by omega) (by omega)
      obtain ⟨q, hq, he⟩ := ih (n - 1) (xs ++ [B x]) r (by omega) (by rw [List.length_append, List.length_singleton]; omega) (fun y hy => by
        rcases List.mem_append.1 hy with hy | hy
        · exact hxs y hy
        · rw [List.mem_singleton.1 hy, B_size]; omega) (by omega)
      refine ⟨q, hq, ?_⟩
      refine Ev.step (fun k => by rw [X.spec_UnpackRecord.l0, if_pos (by omega), if_pos h2, ew]) ?_
      exact Ev.bind e (Ev.congr (fun k => if_pos (show xs.length < 8796093022208 by omega)) he)
    · obtain ⟨q, hq, he⟩ := endS s a b fr xs rest (by omega) hxs hr hf
      exact ⟨q, hq, Ev.step (fun k => by rw [X.spec_UnpackRecord.l0, if_pos (by omega), if_neg h2]) he⟩
theorem loopS_at (s : ByteArray) (a b : Int) (fr bd : ByteArray) (hf : fr.size ≤ 1048576) (hbs : bd.size ≤ 3000) : ∀ (ys xs : List ByteArray), xs.length + ys.length ≤ 20 → (∀ x ∈ xs, x.size ≤ 1048576) → (∀ y ∈ ys, y.size ≤ 160) → (restT ys bd).length ≤ 1048576 →
    Ev (fun k => X.spec_UnpackRecord.l0 k s (ys.length : Int) 1 a b fr xs ⟨#[]⟩ 0 0 0 0 ⟨#[]⟩ 0 0 (B (restT ys bd))) (fin s (qM a b fr (xs ++ ys) bd))
  | [], xs, hl, hx, hy, hr => by
    rw [List.append_nil]
    have e := sstr_at bd.data.toList (jt []) [] (by have := nT_len 3 bd.data.toList.length (by rw [← Lib.size_eq]; omega); omega) (.inr ⟨rfl, rfl⟩) hr
    rw [B_eta] at e
    refine Ev.step (fun k => by rw [X.spec_UnpackRecord.l0, if_neg (by simp)]) ?_
    exact Ev.bind e (j1S s (qM a b fr xs bd) (fits_M a b fr xs bd hf (by rw [List.length_nil] at hl; omega) hx (by omega)))
  | y :: ys, xs, hl, hx, hy, hr => by
    have hy0 := hy y List.mem_cons_self
    rw [List.length_cons] at hl
    have e := sstr_at y.data.toList (jt (ys.map cT ++ [cT bd])) (restT ys bd) (by have := nT_len 2 y.data.toList.length (by rw [← Lib.size_eq]; omega); omega) (.inl (jt_rest ys bd)) hr
    rw [B_eta] at e
    have hr2 : (restT ys bd).length ≤ 1048576 := by
      have := (cT_fits y 0 _ hr).2
      rw [jt_rest, List.length_cons] at this; omega
    have hI := loopS_at s a b fr bd hf hbs ys (xs ++ [y]) (by rw [List.length_append, List.length_singleton]; omega) (fun z hz => by
      rcases List.mem_append.1 hz with hz | hz
      · exact hx z hz
      · rw [List.mem_singleton.1 hz]; omega) (fun z hz => hy z (List.mem_cons_of_mem _ hz)) hr2
    rw [List.append_assoc, List.singleton_append] at hI
    have ew : wrap64 (((y :: ys).length : Int) - 1) = (ys.length : Int) := by rw [List.length_cons, wrap_id _ (by omega) (by omega)]; omega
    refine Ev.step (fun k => by rw [X.spec_UnpackRecord.l0, if_pos (by rw [List.length_cons]; omega), if_pos (by rw [List.length_cons]; omega), ew]) ?_
    exact Ev.bind e (Ev.congr (fun k => if_pos (show xs.length < 8796093022208 by omega)) hI)
theorem anyS (l : List UInt8) (hl8 : l.length ≤ 8000) : ∃ q, Ev (fun k => X.spec_UnpackRecord.f k (B l)) (fin (B l) q) := by
  have hl : l.length ≤ 1048576 := by omega
  have h0_ : ((upL 32 l).2).length ≤ 1048576 := by have := (upL_len 32 l).2; omega
  have h1_ : ((upL 32 ((upL 32 l).2)).2).length ≤ 1048576 := by have := (upL_len 32 ((upL 32 l).2)).2; omega
  have h2_ : ((upL 32 ((upL 32 ((upL 32 l).2)).2)).2).length ≤ 1048576 := by have := (upL_len 32 ((upL 32 ((upL 32 l).2)).2)).2; omega
  have h3_ : ((upL 32 ((upL 32 ((upL 32 ((upL 32 l).2)).2)).2)).2).length ≤ 1048576 := by have := (upL_len 32 ((upL 32 ((upL 32 ((upL 32 l).2)).2)).2)).2; omega
  have h4_ : ((upL 32 ((upL 32 ((upL 32 ((upL 32 ((upL 32 l).2)).2)).2)).2)).2).length ≤ 1048576 := by have := (upL_len 32 ((upL 32 ((upL 32 ((upL 32 ((upL 32 l).2)).2)).2)).2)).2; omega
  unfold X.spec_UnpackRecord.f
  by_cases t1 : (B (upL 32 l).1).toList = [77]
  · obtain ⟨x, r, e, hx, hr⟩ := sstr_f ((upL 32 ((upL 32 ((upL 32 ((upL 32 l).2)).2)).2)).2) h3_
    obtain ⟨q, _, he⟩ := loopS_any (B l) (numV 12 (upL 32 ((upL 32 l).2)).1).1 (numV 12 (upL 32 ((upL 32 ((upL 32 l).2)).2)).1).1 (B x) (by rw [B_size]; omega) (numV 12 (upL 32 ((upL 32 ((upL 32 ((upL 32 l).2)).2)).2)).1).1.toNat (numV 12 (upL 32 ((upL 32 ((upL 32 ((upL 32 l).2)).2)).2)).1).1 [] r rfl (by rw [List.length_nil]; omega) (fun y hy => by cases hy) (by omega)
    exact ⟨q, Ev.congr (fun k => if_neg (by rw [B_size]; omega)) (Ev.bind (up_f 32 l hl) ((Ev.congr (fun k => if_pos t1) (Ev.bind (snum_f _ h0_) (Ev.bind (snum_f _ h1_) (Ev.bind (snum_f _ h2_) (Ev.bind e he)))))))⟩
  by_cases t2 : (B (upL 32 l).1).toList = [86]
  · obtain ⟨x, r, e, hx, hr⟩ := sstr_f ((upL 32 ((upL 32 ((upL 32 ((upL 32 ((upL 32 l).2)).2)).2)).2)).2) h4_
    exact ⟨_, Ev.congr (fun k => if_neg (by rw [B_size]; omega)) (Ev.bind (up_f 32 l hl) ((Ev.congr (fun k => if_neg t1) (Ev.congr (fun k => if_pos t2) (Ev.bind (snum_f _ h0_) (Ev.bind (snum_f _ h1_) (Ev.bind (snum_f _ h2_) (Ev.bind (snum_f _ h3_) (Ev.bind e (j1S _ (qV _ _ _ _ (B x)) (fits_V _ _ _ _ _ (by rw [B_size]; omega))))))))))))⟩
  by_cases t3 : (B (upL 32 l).1).toList = [84]
  · exact ⟨_, Ev.congr (fun k => if_neg (by rw [B_size]; omega)) (Ev.bind (up_f 32 l hl) ((Ev.congr (fun k => if_neg t1) (Ev.congr (fun k => if_neg t2) (Ev.congr (fun k => if_pos t3) (Ev.bind (snum_f _ h0_) (Ev.bind (snum_f _ h1_) (Ev.bind (snum_f _ h2_) (j1S _ (qT _ _ _) (fits_T _ _ _))))))))))⟩
  by_cases t4 : (B (upL 32 l).1).toList = [66]
  · exact ⟨_, Ev.congr (fun k => if_neg (by rw [B_size]; omega)) (Ev.bind (up_f 32 l hl) ((Ev.congr (fun k => if_neg t1) (Ev.congr (fun k => if_neg t2) (Ev.congr (fun k => if_neg t3) (Ev.congr (fun k => if_pos t4) (Ev.bind (snum_f _ h0_) (j1S _ (qK 4 _) (fits_K _ _)))))))))⟩
  by_cases t5 : (B (upL 32 l).1).toList = [68]
  · exact ⟨_, Ev.congr (fun k => if_neg (by rw [B_size]; omega)) (Ev.bind (up_f 32 l hl) ((Ev.congr (fun k => if_neg t1) (Ev.congr (fun k => if_neg t2) (Ev.congr (fun k => if_neg t3) (Ev.congr (fun k => if_neg t4) (Ev.congr (fun k => if_pos t5) (Ev.bind (snum_f _ h0_) (j1S _ (qK 5 _) (fits_K _ _))))))))))⟩
  by_cases t6 : (B (upL 32 l).1).toList = [78]
  · exact ⟨_, Ev.congr (fun k => if_neg (by rw [B_size]; omega)) (Ev.bind (up_f 32 l hl) ((Ev.congr (fun k => if_neg t1) (Ev.congr (fun k => if_neg t2) (Ev.congr (fun k => if_neg t3) (Ev.congr (fun k => if_neg t4) (Ev.congr (fun k => if_neg t5) (Ev.congr (fun k => if_pos t6) (Ev.bind (snum_f _ h0_) (j1S _ (qK 6 _) (fits_K _ _)))))))))))⟩
  exact ⟨_, Ev.congr (fun k => if_neg (by rw [B_size]; omega)) (Ev.bind (up_f 32 l hl) ((Ev.congr (fun k => if_neg t1) (Ev.congr (fun k => if_neg t2) (Ev.congr (fun k => if_neg t3) (Ev.congr (fun k => if_neg t4) (Ev.congr (fun k => if_neg t5) (Ev.congr (fun k => if_neg t6) (j1S _ (qK 0 0) (fits_K _ _))))))))))⟩
theorem atS_M (q : Rc) (h : okM q) (hq : q = qM q.a q.b q.fr q.xs q.bd) : Ev (fun k => X.spec_UnpackRecord.f k (B (packL q))) (fin (B (packL q)) q) := by
  have hlen := packL_len q (.inl h)
  obtain ⟨hf, hx, hxs, hb⟩ := okM_parts q h
  obtain ⟨hk, ha, hbo, _⟩ := h
  generalize hs : packL q = s at hlen ⊢
  rw [packL_M q hk] at hs
  rw [hq]
  simp only [qM]
  have e : s = 77 :: 32 :: (nT q.a.toNat ++ 32 :: (nT q.b.toNat ++ 32 :: (nT q.xs.length ++ 32 :: (cT q.fr ++ 32 :: restT q.xs q.bd)))) := by
    rw [← hs, jt_append, jt_rest]; simp [jt]
  have hl2 := congrArg List.length e
  simp only [List.length_cons, List.length_append] at hl2
  have ea : (q.a.toNat : Int) = q.a := by omega
  have eb : (q.b.toNat : Int) = q.b := by omega
  have da := nT_len 6 q.a.toNat (show _ < 10000000 by omega)
  have db := nT_len 7 q.b.toNat (show _ < 100000000 by omega)
  have dx := nT_len 1 q.xs.length (show _ < 100 by omega)
  have hz : (77 :: 32 :: (nT q.a.toNat ++ 32 :: (nT q.b.toNat ++ 32 :: (nT q.xs.length ++ 32 :: (cT q.fr ++ 32 :: restT q.xs q.bd))))).length ≤ 1048576 := by rw [← e]; omega
  have hS := sstr_at q.fr.data.toList (32 :: restT q.xs q.bd) (restT q.xs q.bd) (by have := nT_len 2 q.fr.data.toList.length (by rw [← Lib.size_eq]; omega); omega) (.inl rfl) (by rw [List.length_append, List.length_cons]; show (cT q.fr).length + _ ≤ _; omega)
  rw [B_eta] at hS
  have hL := loopS_at (B s) q.a q.b q.fr q.bd (by omega) hb q.xs [] (by simpa using hx) (fun y hy => by cases hy) hxs (by omega)
  rw [List.nil_append] at hL
  have h1 := snum_at (q.a.toNat) (32 :: (nT q.b.toNat ++ 32 :: (nT q.xs.length ++ 32 :: (cT q.fr ++ 32 :: restT q.xs q.bd)))) (nT q.b.toNat ++ 32 :: (nT q.xs.length ++ 32 :: (cT q.fr ++ 32 :: restT q.xs q.bd))) (by omega) (.inl rfl) (by rw [List.length_append, List.length_cons]; simp only [List.length_append, List.length_cons]; omega)
  have h2 := snum_at (q.b.toNat) (32 :: (nT q.xs.length ++ 32 :: (cT q.fr ++ 32 :: restT q.xs q.bd))) (nT q.xs.length ++ 32 :: (cT q.fr ++ 32 :: restT q.xs q.bd)) (by omega) (.inl rfl) (by rw [List.length_append, List.length_cons]; simp only [List.length_append, List.length_cons]; omega)
  have h3 := snum_at (q.xs.length) (32 :: (cT q.fr ++ 32 :: restT q.xs q.bd)) (cT q.fr ++ 32 :: restT q.xs q.bd) (by omega) (.inl rfl) (by rw [List.length_append, List.length_cons]; simp only [List.length_append, List.length_cons]; omega)
  rw [ea] at h1
  rw [eb] at h2
  unfold X.spec_UnpackRecord.f
  refine Ev.congr (fun k => if_neg (by rw [B_size]; omega)) ?_
  rw [show B s = _ from congrArg B e]
  rw [show B s = _ from congrArg B e] at hL
  exact Ev.bind (tag_at 77 _ (by decide) hz) ((Ev.congr (fun k => if_pos (tageq 77)) (Ev.bind h1 (Ev.bind h2 (Ev.bind h3 (Ev.bind hS hL))))))
theorem atS_V (q : Rc) (h : okVd q) (hk : q.k = 2) (hq : q = qV q.i q.r q.vk q.vc q.vt) : Ev (fun k => X.spec_UnpackRecord.f k (B (packL q))) (fin (B (packL q)) q) := by
  have hlen := packL_len q (.inr (.inl h))
  obtain ⟨_, _, hi, hr, hv, hc, ht, _⟩ := h
  generalize hs : packL q = s at hlen ⊢
  rw [packL_V q hk] at hs
  rw [hq]
  simp only [qV]
  have e : s = 86 :: 32 :: (nT q.i.toNat ++ 32 :: (nT q.r.toNat ++ 32 :: (nT q.vk.toNat ++ 32 :: (nT q.vc.toNat ++ 32 :: (cT q.vt))))) := by rw [← hs]; simp [jt]
  have hl2 := congrArg List.length e
  simp only [List.length_cons, List.length_append] at hl2
  have e0 : (q.i.toNat : Int) = q.i := by omega
  have d0 := nT_len 7 q.i.toNat (show _ < 100000000 by omega)
  have e1 : (q.r.toNat : Int) = q.r := by omega
  have d1 := nT_len 7 q.r.toNat (show _ < 100000000 by omega)
  have e2 : (q.vk.toNat : Int) = q.vk := by omega
  have d2 := nT_len 7 q.vk.toNat (show _ < 100000000 by omega)
  have e3 : (q.vc.toNat : Int) = q.vc := by omega
  have d3 := nT_len 7 q.vc.toNat (show _ < 100000000 by omega)
  have hz : (86 :: 32 :: (nT q.i.toNat ++ 32 :: (nT q.r.toNat ++ 32 :: (nT q.vk.toNat ++ 32 :: (nT q.vc.toNat ++ 32 :: (cT q.vt)))))).length ≤ 1048576 := by rw [← e]; omega
  have h0 := snum_at (q.i.toNat) (32 :: (nT q.r.toNat ++ 32 :: (nT q.vk.toNat ++ 32 :: (nT q.vc.toNat ++ 32 :: (cT q.vt))))) (nT q.r.toNat ++ 32 :: (nT q.vk.toNat ++ 32 :: (nT q.vc.toNat ++ 32 :: (cT q.vt)))) (by omega) (.inl rfl) (by rw [List.length_append]; simp only [List.length_append, List.length_cons, List.length_nil]; omega)
  rw [e0] at h0
  have h1 := snum_at (q.r.toNat) (32 :: (nT q.vk.toNat ++ 32 :: (nT q.vc.toNat ++ 32 :: (cT q.vt)))) (nT q.vk.toNat ++ 32 :: (nT q.vc.toNat ++ 32 :: (cT q.vt))) (by omega) (.inl rfl) (by rw [List.length_append]; simp only [List.length_append, List.length_cons, List.length_nil]; omega)
  rw [e1] at h1
  have h2 := snum_at (q.vk.toNat) (32 :: (nT q.vc.toNat ++ 32 :: (cT q.vt))) (nT q.vc.toNat ++ 32 :: (cT q.vt)) (by omega) (.inl rfl) (by rw [List.length_append]; simp only [List.length_append, List.length_cons, List.length_nil]; omega)
  rw [e2] at h2
  have h3 := snum_at (q.vc.toNat) (32 :: (cT q.vt)) (cT q.vt) (by omega) (.inl rfl) (by rw [List.length_append]; simp only [List.length_append, List.length_cons, List.length_nil]; omega)
  rw [e3] at h3
  have hS := sstr_at q.vt.data.toList [] [] (by have := nT_len 2 q.vt.data.toList.length (by rw [← Lib.size_eq]; omega); omega) (.inr ⟨rfl, rfl⟩) (by rw [List.append_nil]; show (cT q.vt).length ≤ _; omega)
  rw [B_eta, List.append_nil] at hS
  have hJ := j1S (B s) (qV q.i q.r q.vk q.vc q.vt) (fits_V _ _ _ _ _ (by omega))
  unfold X.spec_UnpackRecord.f
  refine Ev.congr (fun k => if_neg (by rw [B_size]; omega)) ?_
  rw [show B s = _ from congrArg B e]
  rw [show B s = _ from congrArg B e] at hJ
  exact Ev.bind (tag_at 86 _ (by decide) hz) (Ev.congr (fun k => if_neg (tagne 86 77 (by decide))) (Ev.congr (fun k => if_pos (tageq 86)) (Ev.bind h0 (Ev.bind h1 (Ev.bind h2 (Ev.bind h3 (Ev.bind hS hJ)))))))
theorem atS_T (q : Rc) (h : okT q) (hk : q.k = 3) (hq : q = qT q.i q.tr q.du) : Ev (fun k => X.spec_UnpackRecord.f k (B (packL q))) (fin (B (packL q)) q) := by
  have hlen := packL_len q (.inr (.inr (.inl h)))
  obtain ⟨_, _, hi, _, _, ht, hd⟩ := h
  generalize hs : packL q = s at hlen ⊢
  rw [packL_T q hk] at hs
  rw [hq]
  simp only [qT]
  have e : s = 84 :: 32 :: (nT q.i.toNat ++ 32 :: (nT q.tr.toNat ++ 32 :: (nT q.du.toNat))) := by rw [← hs]; simp [jt]
  have hl2 := congrArg List.length e
  simp only [List.length_cons, List.length_append] at hl2
  have e0 : (q.i.toNat : Int) = q.i := by omega
  have d0 := nT_len 7 q.i.toNat (show _ < 100000000 by omega)
  have e1 : (q.tr.toNat : Int) = q.tr := by omega
  have d1 := nT_len 7 q.tr.toNat (show _ < 100000000 by omega)
  have e2 : (q.du.toNat : Int) = q.du := by omega
  have d2 := nT_len 7 q.du.toNat (show _ < 100000000 by omega)
  have hz : (84 :: 32 :: (nT q.i.toNat ++ 32 :: (nT q.tr.toNat ++ 32 :: (nT q.du.toNat)))).length ≤ 1048576 := by rw [← e]; omega
  have h0 := snum_at (q.i.toNat) (32 :: (nT q.tr.toNat ++ 32 :: (nT q.du.toNat))) (nT q.tr.toNat ++ 32 :: (nT q.du.toNat)) (by omega) (.inl rfl) (by rw [List.length_append]; simp only [List.length_append, List.length_cons, List.length_nil]; omega)
  rw [e0] at h0
  have h1 := snum_at (q.tr.toNat) (32 :: (nT q.du.toNat)) (nT q.du.toNat) (by omega) (.inl rfl) (by rw [List.length_append]; simp only [List.length_append, List.length_cons, List.length_nil]; omega)
  rw [e1] at h1
  have h2 := snum_at (q.du.toNat) [] [] (by omega) (.inr ⟨rfl, rfl⟩) (by rw [List.length_append]; simp only [List.length_append, List.length_cons, List.length_nil]; omega)
  rw [e2, List.append_nil] at h2
  have hJ := j1S (B s) (qT q.i q.tr q.du) (fits_T _ _ _)
  unfold X.spec_UnpackRecord.f
  refine Ev.congr (fun k => if_neg (by rw [B_size]; omega)) ?_
  rw [show B s = _ from congrArg B e]
  rw [show B s = _ from congrArg B e] at hJ
  exact Ev.bind (tag_at 84 _ (by decide) hz) (Ev.congr (fun k => if_neg (tagne 84 77 (by decide))) (Ev.congr (fun k => if_neg (tagne 84 86 (by decide))) (Ev.congr (fun k => if_pos (tageq 84)) (Ev.bind h0 (Ev.bind h1 (Ev.bind h2 hJ))))))
theorem atS_B (q : Rc) (h : okK q) (hk : q.k = 4) (hq : q = qK 4 q.i) : Ev (fun k => X.spec_UnpackRecord.f k (B (packL q))) (fin (B (packL q)) q) := by
  have hlen := packL_len q (.inr (.inr (.inr h)))
  obtain ⟨hi, _⟩ := h
  generalize hs : packL q = s at hlen ⊢
  rw [packL_B q hk] at hs
  rw [hq]
  simp only [qK]
  have e : s = 66 :: 32 :: (nT q.i.toNat) := by rw [← hs]; simp [jt]
  have hl2 := congrArg List.length e
  simp only [List.length_cons, List.length_append] at hl2
  have e0 : (q.i.toNat : Int) = q.i := by omega
  have d0 := nT_len 7 q.i.toNat (show _ < 100000000 by omega)
  have hz : (66 :: 32 :: (nT q.i.toNat)).length ≤ 1048576 := by rw [← e]; omega
  have h0 := snum_at (q.i.toNat) [] [] (by omega) (.inr ⟨rfl, rfl⟩) (by rw [List.length_append]; simp only [List.length_append, List.length_cons, List.length_nil]; omega)
  rw [e0, List.append_nil] at h0
  have hJ := j1S (B s) (qK 4 q.i) (fits_K _ _)
  unfold X.spec_UnpackRecord.f
  refine Ev.congr (fun k => if_neg (by rw [B_size]; omega)) ?_
  rw [show B s = _ from congrArg B e]
  rw [show B s = _ from congrArg B e] at hJ
  exact Ev.bind (tag_at 66 _ (by decide) hz) (Ev.congr (fun k => if_neg (tagne 66 77 (by decide))) (Ev.congr (fun k => if_neg (tagne 66 86 (by decide))) (Ev.congr (fun k => if_neg (tagne 66 84 (by decide))) (Ev.congr (fun k => if_pos (tageq 66)) (Ev.bind h0 hJ)))))
theorem atS_D (q : Rc) (h : okK q) (hk : q.k = 5) (hq : q = qK 5 q.i) : Ev (fun k => X.spec_UnpackRecord.f k (B (packL q))) (fin (B (packL q)) q) := by
  have hlen := packL_len q (.inr (.inr (.inr h)))
  obtain ⟨hi, _⟩ := h
  generalize hs : packL q = s at hlen ⊢
  rw [packL_D q hk] at hs
  rw [hq]
  simp only [qK]
  have e : s = 68 :: 32 :: (nT q.i.toNat) := by rw [← hs]; simp [jt]
  have hl2 := congrArg List.length e
  simp only [List.length_cons, List.length_append] at hl2
  have e0 : (q.i.toNat : Int) = q.i := by omega
  have d0 := nT_len 7 q.i.toNat (show _ < 100000000 by omega)
  have hz : (68 :: 32 :: (nT q.i.toNat)).length ≤ 1048576 := by rw [← e]; omega
  have h0 := snum_at (q.i.toNat) [] [] (by omega) (.inr ⟨rfl, rfl⟩) (by rw [List.length_append]; simp only [List.length_append, List.length_cons, List.length_nil]; omega)
  rw [e0, List.append_nil] at h0
  have hJ := j1S (B s) (qK 5 q.i) (fits_K _ _)
  unfold X.spec_UnpackRecord.f
  refine Ev.congr (fun k => if_neg (by rw [B_size]; omega)) ?_
  rw [show B s = _ from congrArg B e]
  rw [show B s = _ from congrArg B e] at hJ
  exact Ev.bind (tag_at 68 _ (by decide) hz) (Ev.congr (fun k => if_neg (tagne 68 77 (by decide))) (Ev.congr (fun k => if_neg (tagne 68 86 (by decide))) (Ev.congr (fun k => if_neg (tagne 68 84 (by decide))) (Ev.congr (fun k => if_neg (tagne 68 66 (by decide))) (Ev.congr (fun k => if_pos (tageq 68)) (Ev.bind h0 hJ))))))
theorem atS_N (q : Rc) (h : okK q) (hk : q.k = 6) (hq : q = qK 6 q.i) : Ev (fun k => X.spec_UnpackRecord.f k (B (packL q))) (fin (B (packL q)) q) := by
  have hlen := packL_len q (.inr (.inr (.inr h)))
  obtain ⟨hi, _⟩ := h
  generalize hs : packL q = s at hlen ⊢
  rw [packL_N q hk] at hs
  rw [hq]
  simp only [qK]
  have e : s = 78 :: 32 :: (nT q.i.toNat) := by rw [← hs]; simp [jt]
  have hl2 := congrArg List.length e
  simp only [List.length_cons, List.length_append] at hl2
  have e0 : (q.i.toNat : Int) = q.i := by omega
  have d0 := nT_len 7 q.i.toNat (show _ < 100000000 by omega)
  have hz : (78 :: 32 :: (nT q.i.toNat)).length ≤ 1048576 := by rw [← e]; omega
  have h0 := snum_at (q.i.toNat) [] [] (by omega) (.inr ⟨rfl, rfl⟩) (by rw [List.length_append]; simp only [List.length_append, List.length_cons, List.length_nil]; omega)
  rw [e0, List.append_nil] at h0
  have hJ := j1S (B s) (qK 6 q.i) (fits_K _ _)
  unfold X.spec_UnpackRecord.f
  refine Ev.congr (fun k => if_neg (by rw [B_size]; omega)) ?_
  rw [show B s = _ from congrArg B e]
  rw [show B s = _ from congrArg B e] at hJ
  exact Ev.bind (tag_at 78 _ (by decide) hz) (Ev.congr (fun k => if_neg (tagne 78 77 (by decide))) (Ev.congr (fun k => if_neg (tagne 78 86 (by decide))) (Ev.congr (fun k => if_neg (tagne 78 84 (by decide))) (Ev.congr (fun k => if_neg (tagne 78 66 (by decide))) (Ev.congr (fun k => if_neg (tagne 78 68 (by decide))) (Ev.congr (fun k => if_pos (tageq 78)) (Ev.bind h0 hJ)))))))
theorem atS (q : Rc) (h : okR q) : Ev (fun k => X.spec_UnpackRecord.f k (B (packL q))) (yes q) := by
  rw [← fin_ok q h]
  rcases okR_form q h with ⟨e, o⟩ | ⟨e, o⟩ | ⟨e, o⟩ | ⟨e, o⟩
  · exact atS_M q o e
  · exact atS_V q o o.1 e
  · exact atS_T q o o.1 e
  · have hk := o.1
    rcases hk with ⟨hk | hk, _⟩ | ⟨hk, _⟩
    · exact atS_B q o hk (by rw [← hk]; exact e)
    · exact atS_D q o hk (by rw [← hk]; exact e)
    · exact atS_N q o hk (by rw [← hk]; exact e)
theorem unpack_both (l : List UInt8) (hl : l.length ≤ 1048576) : ∃ v : RT, Ev (fun k => X.impl_UnpackRecord.f k (B l)) v ∧ Ev (fun k => X.spec_UnpackRecord.f k (B l)) v ∧ v.2.2.2.2.1.length ≤ 20 := by
  by_cases h : ∃ q, okR q ∧ l = packL q
  · obtain ⟨q, ho, rfl⟩ := h
    refine ⟨yes q, atI q ho, atS q ho, ?_⟩
    show q.xs.length ≤ 20
    rcases okR_form q ho with ⟨_, o⟩ | ⟨e, _⟩ | ⟨e, _⟩ | ⟨e, _⟩
    · exact (okM_parts q o).2.1
    all_goals (rw [e]; exact Nat.zero_le _)
  · have hn : ∀ q', okR q' → l ≠ packL q' := fun q' ho e => h ⟨q', ho, e⟩
    obtain ⟨q, hI⟩ := anyI l hl
    rw [fin_no l q hn] at hI
    refine ⟨no, hI, ?_, Nat.zero_le _⟩
    by_cases h8 : l.length ≤ 8000
    · obtain ⟨q', hS⟩ := anyS l h8
      rw [fin_no l q' hn] at hS
      exact hS
    · unfold X.spec_UnpackRecord.f
      exact Ev.congr (fun k => if_pos (by rw [B_size]; omega)) (Ev.now _)
end Go.Proofs.YtnlembpmcbnpnaaGreatDoor.Pure
/- What markText, markStringS, heldStringS answer: a row that was marked holds its marks. Plain Lean. -/
namespace Go.Proofs.YtnlembpmcbnpnaaGreatDoor.Pure
open Go Go.RowKit Go.Proofs.YtnlembpmcbnpnaaGreatDoorW.PrintWords
set_option linter.unusedVariables false
set_option linter.unusedSimpArgs false
theorem one_num (x : Int) : (strOfNums [x]).size = 1 := rfl
theorem markText_l0 : ∀ (n : Nat) (x : Int) (t : ByteArray), x.toNat ≤ n → t.size + x.toNat ≤ 4000000000 → ∃ r, Ev (fun k => X.laws_markText.l0 k x t) r := by
  intro n
  induction n with
  | zero =>
    intro x t hx ht
    exact ⟨_, Ev.step (f := fun _ => some ((⟨#[109]⟩ : ByteArray) ++ t)) (fun k => by rw [X.laws_markText.l0, if_neg (by omega), if_pos (by omega)]) (Ev.now _)⟩
  | succ n ih =>
    intro x t hx ht
    by_cases h0 : x > 0
    · have hq : Int.tdiv x 10 = x / 10 := Int.tdiv_eq_ediv_of_nonneg (by omega)
      have ew : wrap64 (Int.tdiv x 10) = x / 10 := by rw [hq]; exact wrap_id _ (by omega) (by omega)
      have hs : (strOfNums [(wrap64 (48 + (Int.tmod x 10))) % 256] ++ t).size = t.size + 1 := by rw [ByteArray.size_append, one_num]; omega
      obtain ⟨r, hr⟩ := ih (x / 10) (strOfNums [(wrap64 (48 + (Int.tmod x 10))) % 256] ++ t) (by omega) (by rw [hs]; omega)
      refine ⟨r, Ev.step (fun k => ?_) hr⟩
      rw [X.laws_markText.l0, if_pos h0, Option.bind_some, if_pos (by rw [one_num]; omega), ew]
    · exact ⟨_, Ev.step (f := fun _ => some ((⟨#[109]⟩ : ByteArray) ++ t)) (fun k => by rw [X.laws_markText.l0, if_neg h0, if_pos (by omega)]) (Ev.now _)⟩
theorem markText_ex (x : Int) (hx : x ≤ 1000000000) : ∃ r, Ev (fun k => X.laws_markText.f k x) r := by
  by_cases h : x ≤ 0
  · exact ⟨_, Ev.congr (f := fun _ => some (⟨#[109, 48]⟩ : ByteArray)) (fun k => by unfold X.laws_markText.f; rw [if_pos h]) (Ev.now _)⟩
  · obtain ⟨r, hr⟩ := markText_l0 x.toNat x ⟨#[]⟩ (Nat.le_refl _) (by show 0 + x.toNat ≤ _; omega)
    exact ⟨r, Ev.congr (fun k => by unfold X.laws_markText.f; rw [if_neg h]) hr⟩
open Classical in
noncomputable def mtx (x : Int) : ByteArray := if h : ∃ r, Ev (fun k => X.laws_markText.f k x) r then Classical.choose h else ⟨#[]⟩
theorem mtx_f (x : Int) (hx : x ≤ 1000000000) : Ev (fun k => X.laws_markText.f k x) (mtx x) := by
  have h := markText_ex x hx
  unfold mtx; rw [dif_pos h]; exact Classical.choose_spec h
noncomputable def mks (a : Int) : Nat → List ByteArray
  | 0 => []
  | n + 1 => mtx a :: mks (a + 1) n
theorem mks_len (n : Nat) : ∀ a, (mks a n).length = n := by
  induction n with
  | zero => intro a; rfl
  | succ n ih => intro a; unfold mks; rw [List.length_cons, ih]
theorem mks_get (n : Nat) : ∀ (a : Int) (i : Nat) (h : i < (mks a n).length), (mks a n)[i] = mtx (a + i) := by
  induction n with
  | zero => intro a i h; simp [mks] at h
  | succ n ih =>
    intro a i h
    cases i with
    | zero => simp [mks]
    | succ i =>
      simp only [mks, List.getElem_cons_succ]
      rw [ih]; congr 1; omega
theorem markS_l0 (a : Int) (h0 : 0 ≤ a) (h1 : a ≤ 10000000) : ∀ (n i : Nat) (xs : List ByteArray), xs.length - i = n → i ≤ xs.length → xs.length ≤ 2000000 → xs.take i = (mks a xs.length).take i →
    Ev (fun k => X.laws_markStringS.l0 k xs (a + i) (i : Int)) (a + xs.length, mks a xs.length) := by
  intro n
  induction n with
  | zero =>
    intro i xs hn hi hl ht
    obtain rfl : i = xs.length := by omega
    have : xs = mks a xs.length := by
      rw [List.take_of_length_le (Nat.le_refl _), List.take_of_length_le (by rw [mks_len]; exact Nat.le_refl _)] at ht; exact ht
    refine Ev.step (f := fun _ => some (a + xs.length, xs)) (fun k => ?_) (by rw [← this]; exact Ev.now _)
    rw [X.laws_markStringS.l0, if_neg (by omega)]
  | succ n ih =>
    intro i xs hn hi hl ht
    have hi' : i < xs.length := by omega
    have e1 : wrap64 (a + (i : Int) + 1) = a + ((i + 1 : Nat) : Int) := by rw [wrap_id _ (by omega) (by omega)]; omega
    have e2 : wrap64 ((i : Int) + 1) = ((i + 1 : Nat) : Int) := by rw [wrap_id _ (by omega) (by omega)]; omega
    have hm := mtx_f (a + i) (by omega)
    have hk := ih (i + 1) (xs.set i (mtx (a + i))) (by rw [List.length_set]; omega) (by rw [List.length_set]; omega) (by rw [List.length_set]; exact hl) (by
      rw [List.length_set, List.take_succ_eq_append_getElem (by rw [List.length_set]; omega), List.take_succ_eq_append_getElem (by rw [mks_len]; exact hi'), List.getElem_set_self, List.take_set, List.set_eq_of_length_le (by rw [List.length_take]; omega), ht, mks_get])
    rw [List.length_set] at hk
    refine Ev.step (f := fun k => (X.laws_markText.f k (a + i)).bind fun t => X.laws_markStringS.l0 k (xs.set i t) (a + ((i + 1 : Nat) : Int)) ((i + 1 : Nat) : Int)) (fun k => ?_) (Ev.bind hm hk)
    rw [X.laws_markStringS.l0, if_pos (by omega)]
    simp only [if_pos (show (0 : Int) ≤ (i : Int) by omega), Int.toNat_natCast, e1, e2]
theorem markS_f (xs : List ByteArray) (hl : xs.length ≤ 2000000) (a : Int) (h0 : 0 ≤ a) (h1 : a ≤ 10000000) : Ev (fun k => X.laws_markStringS.f k xs a) (a + xs.length, mks a xs.length) := by
  have := markS_l0 a h0 h1 xs.length 0 xs (by omega) (by omega) hl (by simp)
  rw [show a + ((0 : Nat) : Int) = a by omega] at this
  exact Ev.congr (fun k => rfl) this
theorem heldS_l0 (a : Int) (h0 : 0 ≤ a) (h1 : a ≤ 10000000) (m : Nat) (hl : m ≤ 2000000) : ∀ (n i : Nat), m - i = n → i ≤ m → Ev (fun k => X.laws_heldStringS.l0 k (mks a m) (a + i) (i : Int)) (a + m) := by
  intro n
  have hml := mks_len m a
  induction n with
  | zero =>
    intro i hn hi
    obtain rfl : i = m := by omega
    exact Ev.step (f := fun _ => some (a + i)) (fun k => by rw [X.laws_heldStringS.l0, if_neg (by omega)]) (Ev.now _)
  | succ n ih =>
    intro i hn hi
    have e1 : wrap64 (a + (i : Int) + 1) = a + ((i + 1 : Nat) : Int) := by rw [wrap_id _ (by omega) (by omega)]; omega
    have e2 : wrap64 ((i : Int) + 1) = ((i + 1 : Nat) : Int) := by rw [wrap_id _ (by omega) (by omega)]; omega
    have hr : rdOf ByteArray.empty (mks a m) (i : Int) = mtx (a + i) := by rw [rd_get _ _ (by omega), mks_get]
    refine Ev.step (f := fun k => (X.laws_markText.f k (a + i)).bind fun t => if (mtx (a + i)).toList = t.toList then X.laws_heldStringS.l0 k (mks a m) (a + ((i + 1 : Nat) : Int)) ((i + 1 : Nat) : Int) else some (-1)) (fun k => ?_) (Ev.bind (mtx_f (a + i) (by omega)) (Ev.congr (fun k => if_pos rfl) (ih (i + 1) (by omega) (by omega))))
    rw [X.laws_heldStringS.l0, if_pos (by omega), if_pos (by omega)]
    simp only [hr, e1, e2]
theorem heldS_f (m : Nat) (hl : m ≤ 2000000) (a : Int) (h0 : 0 ≤ a) (h1 : a ≤ 10000000) : Ev (fun k => X.laws_heldStringS.f k (mks a m) a) (a + m) := by
  have := heldS_l0 a h0 h1 m hl m 0 (by omega) (by omega)
  rw [show a + ((0 : Nat) : Int) = a by omega] at this
  exact Ev.congr (fun k => rfl) this
end Go.Proofs.YtnlembpmcbnpnaaGreatDoor.Pure
/- What eqStringS answers at equal rows. Plain Lean. -/
namespace Go.Proofs.YtnlembpmcbnpnaaGreatDoor.Pure
open Go Go.RowKit Go.Proofs.YtnlembpmcbnpnaaGreatDoorW.PrintWords
set_option linter.unusedVariables false
set_option linter.unusedSimpArgs false
theorem eqString_l0 (xs : List ByteArray) (hl : xs.length ≤ 1048576) : ∀ (n i : Nat), xs.length - i = n → i ≤ xs.length → Ev (fun k => X.laws_eqStringS.l0 k xs xs (i : Int)) true := by
  intro n
  induction n with
  | zero =>
    intro i hn hi
    refine Ev.step (f := fun _ => some true) (fun k => ?_) (Ev.now _)
    rw [X.laws_eqStringS.l0, if_neg (by omega)]
  | succ n ih =>
    intro i hn hi
    have e2 : wrap64 ((i : Int) + 1) = ((i + 1 : Nat) : Int) := by rw [wrap_id _ (by omega) (by omega)]; omega
    refine Ev.step (f := fun k => X.laws_eqStringS.l0 k xs xs ((i + 1 : Nat) : Int)) (fun k => ?_) (ih (i + 1) (by omega) (by omega))
    rw [X.laws_eqStringS.l0, if_pos (by omega), if_pos (by omega), if_pos (by omega), if_pos rfl, e2]
theorem eqString_f (xs : List ByteArray) (hl : xs.length ≤ 1048576) : Ev (fun k => X.laws_eqStringS.f k xs xs) true := by
  refine Ev.congr (f := fun k => X.laws_eqStringS.l0 k xs xs 0) (fun k => ?_) (eqString_l0 xs hl xs.length 0 (by omega) (by omega))
  unfold X.laws_eqStringS.f
  rw [if_pos rfl]
end Go.Proofs.YtnlembpmcbnpnaaGreatDoor.Pure
/- The pure statement of FnExactUnpackRecord. Plain Lean. -/
namespace Go.Proofs.YtnlembpmcbnpnaaGreatDoor.Pure
open Go Go.RowKit Go.Proofs.YtnlembpmcbnpnaaGreatDoorW.PrintWords
set_option linter.unusedVariables false
set_option linter.unusedSimpArgs false
theorem FnExactUnpackRecord (a0 : ByteArray) (w0 : a0.size ≤ maxLen) : ∃ k, X.laws_FnExactUnpackRecord.f k a0 = some true := by
  by_cases h0 : (a0.size : Int) > 1048576
  · exact ⟨0, by unfold X.laws_FnExactUnpackRecord.f; rw [if_pos h0]⟩
  obtain ⟨v, ⟨K1, e1⟩, ⟨K2, e2⟩, hl⟩ := unpack_both a0.data.toList (by rw [← Lib.size_eq]; omega)
  rw [B_eta] at e1 e2
  obtain ⟨u0, u1, u2, u3, ul, u5, u6, u7, u8, u9, u10, u11, u12, b⟩ := v
  dsimp only at hl
  obtain ⟨K3, e3⟩ := eqString_f ul (by omega)
  obtain ⟨K4, e4⟩ := markS_f ul (by omega) 1 (by decide) (by decide)
  obtain ⟨K5, e5⟩ := heldS_f ul.length (by omega) 1 (by decide) (by decide)
  dsimp only at e1 e2 e3 e4 e5
  refine ⟨K1 + K2 + K3 + K4 + K5, ?_⟩
  have m4 : X.laws_markRecord.f (K1 + K2 + K3 + K4 + K5) u0 u1 u2 u3 ul u5 u6 u7 u8 u9 u10 u11 u12 1 = some (1 + (ul.length : Int), mks 1 ul.length) := by
    unfold X.laws_markRecord.f X.laws_markMessage.f
    rw [e4 _ (by omega)]; rfl
  have m5 : X.laws_heldRecord.f (K1 + K2 + K3 + K4 + K5) u0 u1 u2 u3 (mks 1 ul.length) u5 u6 u7 u8 u9 u10 u11 u12 1 = some (1 + (ul.length : Int)) := by
    unfold X.laws_heldRecord.f X.laws_heldMessage.f
    rw [e5 _ (by omega), Option.bind_some, if_neg (by omega), Option.bind_some, if_neg (by omega)]
  unfold X.laws_FnExactUnpackRecord.f
  rw [if_neg h0, e2 _ (by omega)]
  dsimp only
  rw [if_pos (e1 _ (by omega)), m4]
  dsimp only
  rw [if_pos ⟨m5, e3 _ (by omega), by omega⟩]
end Go.Proofs.YtnlembpmcbnpnaaGreatDoor.Pure
/- Arguments of any plain type, opened: what reads as data at a type has cells of the printed kind, and its numbers are well formed, its texts within the model's bound. No condition: lemmas for the rows of this seat. -/
namespace Go.Proofs.YtnlembpmcbnpnaaGreatDoor.Opn
open Go.RowKit Go.ChangeShapes Go.WideShapes Go.Proofs.YtnlembpmcbnpnaaGreatDoorW.PrintWords
theorem handed_shaped {H : Type} {enc : TypeId × Value → H} {a : Assume} {C : Checked} {os : Os} {f : FuncId} {fn : Func} {s : ChangeSpec} {conds : List PathCond} {apart fresh handsOn again : Bool} {X : World → Array Value → Prop}
    (hX : ∀ (w w' : World) (args : Array Value), w.heap = w'.heap → X w args → X w' args)
    (own : ownKnob C.prog.godebug = none) (started : os.Started) (noInit : C.prog.inits.idxOf? f = none) (hfn : C.prog.funcs[f]? = some fn)
    (witness : ∃ (w : World) (tape : Tape) (i : Input), w.os = os ∧ (w.forCall tape i).Shaped C.prog ∧ i.vars = [] ∧ Input.okWide C.prog (w.forCall tape i) .any w.heap.size f i ∧
      ((s.pre enc C.prog fn conds apart (w.forCall tape i).memory i.args ∧ X (w.forCall tape i).memory i.args) ∧ sizedMet enc C.prog fn (OpenSpec.ofChange s) apart (w.forCall tape i).memory i.args) ∧ a.holds C.prog (lone (Frame.enter C.prog f i.args .normal) [] (w.forCall tape i)))
    (contract : ∀ (W : World) (base : Nat) (args : Array Value) (ds gs : List (DataW H)) (before : List MemPlace),
      (∀ (j : Nat) t v, fn.params[j]? = some t → args[j]? = some v → Value.okWide C.prog W .any base t v) →
      DataW.Whole enc C.prog fn.params.toList s.vars apart W args.toList ds gs before →
      conds.all (PathCond.test C.prog ⟨fn.params.toList, ds, s.plain.varTypes C.prog, gs⟩) = true →
      W.ShapedOpen C.prog → X W args →
      Calls C.prog f args W fun e W' => ∃ v, e = .returned v ∧ s.post enc C.prog fn apart fresh handsOn again W args v W') :
    ReturnsInHanded a C os f .any (fun w args => (s.pre enc C.prog fn conds apart w args ∧ X w args) ∧ sizedMet enc C.prog fn (OpenSpec.ofChange s) apart w args) (s.post enc C.prog fn apart fresh handsOn again) := by
  refine returnsInHanded_of_calls own started noInit witness ?_
  intro w tape i _ hsh _ hok hpre _
  obtain ⟨_, _, _, fn', hfn', _, _, _, _, hval⟩ := hok
  have e : fn' = fn := Option.some.inj (hfn'.symm.trans hfn)
  subst e
  obtain ⟨⟨⟨ds, gs, before, hw, hc⟩, hx⟩, _⟩ := hpre
  have hw' := DataW.Whole.of_heap (w' := w.forCall tape i) (by rfl) hw
  refine (contract (w.forCall tape i) w.heap.size i.args ds gs before hval hw' hc hsh (hX _ _ _ (by rfl) hx)).mono fun e W' ⟨v, he, hp⟩ => ?_
  subst he
  exact ChangeSpec.post_blind hp
end Go.Proofs.YtnlembpmcbnpnaaGreatDoor.Opn
/- What a row's own hypotheses give of the package-level variables: that internal/bytealg.MaxLen holds some int follows from the world's shape. -/
namespace Go.Proofs.YtnlembpmcbnpnaaGreatDoor.GlobIn
open Go.RowKit Go.Proofs.YtnlembpmcbnpnaaGreatDoorW.PrintWords
theorem glM {w : World} (h : w.ShapedOpen Tryz.prog) : X.GlM w :=
  Go.Proofs.cell_of_shapedOpen_int (zero := #[.int .i64 0]) (t := 3) h (of_decide_eq_true (by kernel_rfl)) (by kernel_rfl) rfl (by kernel_rfl) (by kernel_rfl) Tryz.underlying3
end Go.Proofs.YtnlembpmcbnpnaaGreatDoor.GlobIn
/- What a row's own hypotheses give of the table of the powers of ten: GlI, from the row's laid list. -/
namespace Go.Proofs.YtnlembpmcbnpnaaGreatDoor.GlobIn
open Go Go.RowKit Go.Proofs.YtnlembpmcbnpnaaGreatDoorW.PrintWords
theorem glI {w : World} {l : List (String × DataW Unit)} (_h0 : w.ShapedOpen Tryz.prog) (h : laidMetH Tryz.prog l w) (ha : l.filter (fun p => p.1 == "internal/strconv.uint64pow10") = [("internal/strconv.uint64pow10", Rows.laid_internal_strconv_uint64pow10)] := by kernel_rfl) : X.GlI w := by
  have h1 := h.filter (fun p => p.1 == "internal/strconv.uint64pow10")
  rw [ha, MakeChecks.laidMetH_plain _ _ _ (by kernel_rfl)] at h1
  have h2 : laidMet Tryz.prog (("internal/strconv.uint64pow10", Lib.tabData .u64 Lib.pow10Tab) :: []) w := h1
  exact Lib.tabIs_of_head X.pow10_at (t := 150) (e := 123) (n := 20) (by kernel_rfl) Tryz.underlying150 Tryz.underlying123 (by kernel_rfl) (by kernel_rfl) h2
end Go.Proofs.YtnlembpmcbnpnaaGreatDoor.GlobIn
/- What a row's own hypotheses give of strconv.ErrSyntax and strconv.ErrRange: GlE, from the row's laid list. -/
namespace Go.Proofs.YtnlembpmcbnpnaaGreatDoor.GlobIn
open Go Go.RowKit Go.Proofs.YtnlembpmcbnpnaaGreatDoorW.PrintWords
theorem star_ : "*" ++ "errors.errorString" = "*errors.errorString" := by decide
theorem es_row (u : TypeId) (h : Tryz.prog.typeName? 3 u = some "*errors.errorString") : u = 140 :=
  typeName_ptr_named (nm := "errors.errorString") (by rw [star_]; kernel_rfl) (by kernel_rfl) (by decide) u (by rw [star_]; exact h)
theorem es_at : Tryz.prog.globalNamed "strconv.ErrSyntax" = some 1 := by kernel_rfl
theorem er_at : Tryz.prog.globalNamed "strconv.ErrRange" = some 2 := by kernel_rfl
theorem es_type : (Tryz.prog.globals[1]?).map (·.type) = some 90 := by kernel_rfl
theorem er_type : (Tryz.prog.globals[2]?).map (·.type) = some 90 := by kernel_rfl
theorem es_cells : Tryz.prog.cellsOf 142 = 1 := by kernel_rfl
theorem str_cells : Tryz.prog.cellsOf 9 = 1 := by kernel_rfl
theorem glE {w : World} {l : List (String × DataW Unit)} (_h0 : w.ShapedOpen Tryz.prog) (h : laidMetH Tryz.prog l w) (ha : l.filter (fun p => p.1 == "strconv.ErrSyntax" || p.1 == "strconv.ErrRange") = [("strconv.ErrRange", Rows.laid_strconv_ErrRange), ("strconv.ErrSyntax", Rows.laid_strconv_ErrSyntax)] := by kernel_rfl) : X.GlE w := by
  have h1 := h.filter (fun p => p.1 == "strconv.ErrSyntax" || p.1 == "strconv.ErrRange")
  rw [ha, MakeChecks.laidMetH_plain _ _ _ (by kernel_rfl)] at h1
  have h2 : laidMet Tryz.prog (("strconv.ErrRange", .iface "*errors.errorString" (.ptr (.agg [.lit (.string [118, 97, 108, 117, 101, 32, 111, 117, 116, 32, 111, 102, 32, 114, 97, 110, 103, 101])]))) :: ("strconv.ErrSyntax", .iface "*errors.errorString" (.ptr (.agg [.lit (.string [105, 110, 118, 97, 108, 105, 100, 32, 115, 121, 110, 116, 97, 120])]))) :: []) w := h1
  obtain ⟨a0, s0, hv0, -, -, -⟩ := laid_sentinel h2 er_at er_type Tryz.underlying90 es_row Tryz.underlying140 Tryz.underlying142 rfl rfl Tryz.underlying9 es_cells str_cells
  obtain ⟨a1, s1, hv1, -, -, -⟩ := laid_sentinel h2.tail es_at es_type Tryz.underlying90 es_row Tryz.underlying140 Tryz.underlying142 rfl rfl Tryz.underlying9 es_cells str_cells
  exact ⟨⟨_, _, by have q := World.var?_cell es_at hv1 0; simpa using q⟩, ⟨_, _, by have q := World.var?_cell er_at hv0 0; simpa using q⟩⟩
end Go.Proofs.YtnlembpmcbnpnaaGreatDoor.GlobIn
