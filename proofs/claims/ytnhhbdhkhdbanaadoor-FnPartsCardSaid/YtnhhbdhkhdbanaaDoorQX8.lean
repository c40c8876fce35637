-- Written by a program of this session (wip/tools/xprint.py, over the kit's printer) out of the translation.
import Derived.Test.YtnhhbdhkhdbanaaDoorQX0
import Derived.Test.YtnhhbdhkhdbanaaDoorQX6
import Derived.Test.YtnhhbdhkhdbanaaDoorQX7
namespace Go.Proofs.YtnhhbdhkhdbanaaDoor.X
open Go.RowKit Go.Proofs.YtnhhbdhkhdbanaaDoorW.PrintWords Go.Proofs.YtnhhbdhkhdbanaaDoorW.PrintLast Go.Proofs.YtnhhbdhkhdbanaaDoorW.PrintMore
attribute [local go_sem] max2_int min2_int max_two min_two max_three min_three max_four min_four   -- for this text's walks alone
set_option linter.unusedVariables false
set_option linter.unusedSimpArgs false

/-! ### spec_l1rd_l2reply: function 84 -/
def spec_l1rd_l2reply.l0 : Nat → ByteArray → ByteArray → Int → List Int → Int → Option (ByteArray × Int)
  | 0, _, _, _, _, _ => none
  | k + 1, x4, x5, x6, x1000, x1001 => if x6 > 0 then ((spec_l1rd_next.f x1000 x1001).bind fun bt174 => (if x4.size + 1 ≤ 9223372036854775807 then ((some (([(⟨#[111, 110, 101, 46, 101, 120, 97, 109, 112, 108, 101]⟩ : ByteArray), (⟨#[83, 73, 90, 69, 32, 49, 48, 48]⟩ : ByteArray), (⟨#[115, 105, 122, 101, 32, 50, 48, 48, 48, 48, 48, 48]⟩ : ByteArray), (⟨#[83, 73, 90, 69]⟩ : ByteArray), (⟨#[83, 73, 90, 69, 32, 49, 50, 120]⟩ : ByteArray), (⟨#[56, 66, 73, 84, 77, 73, 77, 69]⟩ : ByteArray), (⟨#[]⟩ : ByteArray), (⟨#[83, 105, 122, 101, 32, 48]⟩ : ByteArray)] : List ByteArray) : List ByteArray)).bind fun y176 => (if 0 ≤ (Int.tmod bt174.1 8) then (if (Int.tmod bt174.1 8) < (y176.length : Int) then (if (x4 ++ (⟨#[45]⟩ : ByteArray)).size + (rdOf ByteArray.empty y176 (Int.tmod bt174.1 8)).size ≤ 9223372036854775807 then (if ((x4 ++ (⟨#[45]⟩ : ByteArray)) ++ (rdOf ByteArray.empty y176 (Int.tmod bt174.1 8))).size + 2 ≤ 9223372036854775807 then (if x5.size + (((x4 ++ (⟨#[45]⟩ : ByteArray)) ++ (rdOf ByteArray.empty y176 (Int.tmod bt174.1 8))) ++ (⟨#[13, 10]⟩ : ByteArray)).size ≤ 9223372036854775807 then (spec_l1rd_l2reply.l0 k x4 (x5 ++ (((x4 ++ (⟨#[45]⟩ : ByteArray)) ++ (rdOf ByteArray.empty y176 (Int.tmod bt174.1 8))) ++ (⟨#[13, 10]⟩ : ByteArray))) (wrap64 (x6 - 1)) x1000 bt174.2) else (none)) else (none)) else (none)) else (none)) else (none))) else (none))) else ((spec_l1rd_next.f x1000 x1001).bind fun bt180 => (if x5.size + x4.size ≤ 9223372036854775807 then ((some (([(⟨#[32, 111, 107]⟩ : ByteArray), (⟨#[]⟩ : ByteArray), (⟨#[32]⟩ : ByteArray), (⟨#[32, 110, 111, 32, 115, 117, 99, 104, 32, 117, 115, 101, 114, 32, 104, 101, 114, 101]⟩ : ByteArray), (⟨#[32, 255, 32, 111, 100, 100, 32, 1]⟩ : ByteArray)] : List ByteArray) : List ByteArray)).bind fun y182 => (if 0 ≤ (Int.tmod bt180.1 5) then (if (Int.tmod bt180.1 5) < (y182.length : Int) then (if (x5 ++ x4).size + (rdOf ByteArray.empty y182 (Int.tmod bt180.1 5)).size ≤ 9223372036854775807 then (if ((x5 ++ x4) ++ (rdOf ByteArray.empty y182 (Int.tmod bt180.1 5))).size + 2 ≤ 9223372036854775807 then (some (((x5 ++ x4) ++ (rdOf ByteArray.empty y182 (Int.tmod bt180.1 5))) ++ (⟨#[13, 10]⟩ : ByteArray), bt180.2)) else (none)) else (none)) else (none)) else (none))) else (none)))
def spec_l1rd_l2reply.f (k : Nat) (s0_0 : List Int) (s0_1 : Int) : Option (ByteArray × Int) := (spec_l1rd_next.f s0_0 s0_1).bind fun bt168 => ((some (([(⟨#[50, 53, 48]⟩ : ByteArray), (⟨#[50, 50, 48]⟩ : ByteArray), (⟨#[51, 53, 52]⟩ : ByteArray), (⟨#[52, 53, 49]⟩ : ByteArray), (⟨#[53, 53, 48]⟩ : ByteArray), (⟨#[52, 50, 49]⟩ : ByteArray), (⟨#[50, 53, 49]⟩ : ByteArray), (⟨#[50, 50, 49]⟩ : ByteArray)] : List ByteArray) : List ByteArray)).bind fun y170 => (if 0 ≤ (Int.tmod bt168.1 8) then (if (Int.tmod bt168.1 8) < (y170.length : Int) then (spec_l1rd_l2reply.l0 k (rdOf ByteArray.empty y170 (Int.tmod bt168.1 8)) (⟨#[]⟩ : ByteArray) (Int.tmod (wrap64 (Int.tdiv bt168.1 8)) 4) s0_0 bt168.2) else (none)) else (none)))
theorem spec_l1rd_l2reply.mono_l : ∀ k, (∀ y0 y1 y2 y3 y4, LeO (spec_l1rd_l2reply.l0 k y0 y1 y2 y3 y4) (spec_l1rd_l2reply.l0 (k + 1) y0 y1 y2 y3 y4))
  | 0 => fun _ _ _ _ _ r h => by simp [spec_l1rd_l2reply.l0] at h
  | k + 1 => by
    have ih0 := spec_l1rd_l2reply.mono_l k
    · intro y0 y1 y2 y3 y4
      unfold spec_l1rd_l2reply.l0
      repeat' first
      | (with_reducible exact ih0 _ _ _ _ _)
      | (with_reducible exact LeO.refl _)
      | (with_reducible exact LeO.none _)
      | (with_reducible refine LeO.ite ?_ ?_)
      | (with_reducible refine LeO.bind ?_ (fun _ => ?_))
      | exact ih0 _ _ _ _ _
      | exact LeO.none _
      | refine LeO.ite ?_ ?_
      | refine LeO.bind ?_ (fun _ => ?_)
theorem spec_l1rd_l2reply.mono : ∀ a0 a1 k, LeO (spec_l1rd_l2reply.f k a0 a1) (spec_l1rd_l2reply.f (k + 1) a0 a1) := by
  intro a0 a1 k
  have ih0 := spec_l1rd_l2reply.mono_l k
  unfold spec_l1rd_l2reply.f
  repeat' first
      | (with_reducible exact ih0 _ _ _ _ _)
      | (with_reducible exact LeO.refl _)
      | (with_reducible exact LeO.none _)
      | (with_reducible refine LeO.ite ?_ ?_)
      | (with_reducible refine LeO.bind ?_ (fun _ => ?_))
      | exact ih0 _ _ _ _ _
      | exact LeO.none _
      | refine LeO.ite ?_ ?_
      | refine LeO.bind ?_ (fun _ => ?_)
set_option maxHeartbeats 8000000 in
set_option maxRecDepth 100000 in
theorem spec_l1rd_l2reply.calls (k : Nat) (g : Nat) (s0_0 : List Int) (s0_1 : Int) (r1 : ByteArray) (r2 : Int) (w0 w : World) (hI : IsS72 w0 w g s0_0 s0_1) (hB : Below w0.heap.size w0 w) (h : spec_l1rd_l2reply.f k s0_0 s0_1 = some (r1, r2)) :
    Calls Tryd.prog 84 #[.pointer (some ⟨g, 0, none⟩)] w fun e w' => e = .returned (.string r1) ∧ IsS72 w0 w' g s0_0 r2 ∧ Below w0.heap.size w0 w' ∧ KeepBut w w' g none := by
  have HI0 := Aside0.mk hI
  have HK := Aside0.mk (KeepBut.refl w g none)
  have HL := Aside0.mk hB.size
  clear hI
  have HW0 := Aside0.mk hB.size
  have HB := Aside0.mk hB
  clear hB
  have H : ((spec_l1rd_next.f s0_0 s0_1).bind fun bt168 => ((some (([(⟨#[50, 53, 48]⟩ : ByteArray), (⟨#[50, 50, 48]⟩ : ByteArray), (⟨#[51, 53, 52]⟩ : ByteArray), (⟨#[52, 53, 49]⟩ : ByteArray), (⟨#[53, 53, 48]⟩ : ByteArray), (⟨#[52, 50, 49]⟩ : ByteArray), (⟨#[50, 53, 49]⟩ : ByteArray), (⟨#[50, 50, 49]⟩ : ByteArray)] : List ByteArray) : List ByteArray)).bind fun y170 => (if 0 ≤ (Int.tmod bt168.1 8) then (if (Int.tmod bt168.1 8) < (y170.length : Int) then (spec_l1rd_l2reply.l0 k (rdOf ByteArray.empty y170 (Int.tmod bt168.1 8)) (⟨#[]⟩ : ByteArray) (Int.tmod (wrap64 (Int.tdiv bt168.1 8)) 4) s0_0 bt168.2) else (none)) else (none)))) = some (r1, r2) := h
  clear h
  replace H := Option.bind_eq_some_iff.mp H
  obtain ⟨⟨t168, t169⟩, A20, H⟩ := H
  replace H : ((some (([(⟨#[50, 53, 48]⟩ : ByteArray), (⟨#[50, 50, 48]⟩ : ByteArray), (⟨#[51, 53, 52]⟩ : ByteArray), (⟨#[52, 53, 49]⟩ : ByteArray), (⟨#[53, 53, 48]⟩ : ByteArray), (⟨#[52, 50, 49]⟩ : ByteArray), (⟨#[50, 53, 49]⟩ : ByteArray), (⟨#[50, 50, 49]⟩ : ByteArray)] : List ByteArray) : List ByteArray)).bind fun y170 => (if 0 ≤ (Int.tmod t168 8) then (if (Int.tmod t168 8) < (y170.length : Int) then (spec_l1rd_l2reply.l0 k (rdOf ByteArray.empty y170 (Int.tmod t168 8)) (⟨#[]⟩ : ByteArray) (Int.tmod (wrap64 (Int.tdiv t168 8)) 4) s0_0 t169) else (none)) else (none))) = some (r1, r2) := H
  have A2 := Aside0.mk A20
  clear A20
  obtain ⟨y170, hy170⟩ : ∃ y_ : List ByteArray, y_ = (([(⟨#[50, 53, 48]⟩ : ByteArray), (⟨#[50, 50, 48]⟩ : ByteArray), (⟨#[51, 53, 52]⟩ : ByteArray), (⟨#[52, 53, 49]⟩ : ByteArray), (⟨#[53, 53, 48]⟩ : ByteArray), (⟨#[52, 50, 49]⟩ : ByteArray), (⟨#[50, 53, 49]⟩ : ByteArray), (⟨#[50, 50, 49]⟩ : ByteArray)] : List ByteArray)) := ⟨_, rfl⟩
  replace H : (if 0 ≤ (Int.tmod t168 8) then (if (Int.tmod t168 8) < (y170.length : Int) then (spec_l1rd_l2reply.l0 k (rdOf ByteArray.empty y170 (Int.tmod t168 8)) (⟨#[]⟩ : ByteArray) (Int.tmod (wrap64 (Int.tdiv t168 8)) 4) s0_0 t169) else (none)) else (none)) = some (r1, r2) := by first | (rw [hy170]; with_reducible exact H) | (have H2_ := (Option.bind_some _ _).symm.trans H; rw [hy170]; with_reducible exact H2_) | (have H2_ := (Option.bind_some _ _).symm.trans H; with_reducible exact H2_) | with_reducible exact H | (rw [hy170]; exact H) | exact H
  have Ny170 := Aside0.mk hy170
  clear hy170
  obtain ⟨ji3, hji3⟩ : ∃ j_ : Int, (Int.tmod t168 8) = j_ := ⟨_, rfl⟩
  replace H : (if 0 ≤ (ji3) then (if (ji3) < (y170.length : Int) then (spec_l1rd_l2reply.l0 k (rdOf ByteArray.empty y170 (ji3)) (⟨#[]⟩ : ByteArray) (Int.tmod (wrap64 (Int.tdiv t168 8)) 4) s0_0 t169) else (none)) else (none)) = some (r1, r2) := by first | (rw [hji3] at H; exact H) | (simp only [hji3] at H ⊢; exact H)
  (try rw [hji3] at A2)
  by_cases c4 : 0 ≤ (ji3)
  · rw [if_pos c4] at H
    have c4b0 : decide (0 ≤ (ji3)) = true := decide_eq_true c4
    clear c4
    by_cases c5 : (ji3) < (y170.length : Int)
    · rw [if_pos c5] at H
      have c5b0 : decide ((ji3) < (y170.length : Int)) = true := decide_eq_true c5
      clear c5
      have H' := Aside0.mk H
      clear H
      go_enter Tryd.func84, Tryd.ntmps84
      go_wp2_with (first | ((with_reducible refine gate_callee (f := 45) rfl ?_); refine goesL_ (some 10) rfl rfl Tryd.func45 (by kernel_rfl) rfl #[.pointer (some ⟨g, 0, none⟩)] rfl (by (try simp only [List.map_toArray, List.map_cons, List.map_nil]); first | done | rfl | (simp only [List.length_drop, List.length_take]; rfl)) ?_; (with_reducible refine (spec_l1rd_next.calls g s0_0 s0_1 t168 t169 w0 _ ?side1 ?side2 A2.out).mono ?_); (case side1 => repeat (first | (with_reducible first | exact HI0.out | apply IsS72.alloc | apply IsS72.drewN | apply IsS72.drew | apply IsS72.set_1) | exact HI0.out)); (case side2 => repeat (first | (with_reducible first | exact HB.out | apply below_alloc | apply pw_below_drewN | apply below_drew1 | refine below_set ?_ (IsS72.ge HI0.out)) | exact HB.out)); rintro e w6 ⟨rfl, hi, hb, hk⟩; refine ⟨_, rfl, ?_⟩; have n0_ := Aside0.mk (KeepBut.trans (by repeat (first | (with_reducible first | exact HK.out | apply KeepBut.set_ | apply keep_drewN | apply keep_drew | apply keep_alloc) | exact HK.out)) hk (.inl rfl)); have n1_ := Aside0.mk (hb); have n2_ := Aside0.mk (hi); clear HK; clear HB; clear HI0; have HK := n0_; have HB := n1_; have HI0 := n2_; clear n0_ n1_ n2_; (try clear hb); (try clear hb2); (try clear hk); (try clear hi)) | ((with_reducible refine gate_dst (N := 11) rfl ?_); refine Kd.R_lit Kd.string _ 9 ?hg (N := 11) ?hd (xs := ([(⟨#[50, 53, 48]⟩ : ByteArray), (⟨#[50, 50, 48]⟩ : ByteArray), (⟨#[51, 53, 52]⟩ : ByteArray), (⟨#[52, 53, 49]⟩ : ByteArray), (⟨#[53, 53, 48]⟩ : ByteArray), (⟨#[52, 50, 49]⟩ : ByteArray), (⟨#[50, 53, 49]⟩ : ByteArray), (⟨#[50, 50, 49]⟩ : ByteArray)] : List ByteArray)) (inner := [.string (⟨#[50, 53, 48]⟩ : ByteArray), .string (⟨#[50, 50, 48]⟩ : ByteArray), .string (⟨#[51, 53, 52]⟩ : ByteArray), .string (⟨#[52, 53, 49]⟩ : ByteArray), .string (⟨#[53, 53, 48]⟩ : ByteArray), .string (⟨#[52, 50, 49]⟩ : ByteArray), .string (⟨#[50, 53, 49]⟩ : ByteArray), .string (⟨#[50, 50, 49]⟩ : ByteArray)]) (ok := fun _ => True) (okp := fun _ => True) ?hr ?hp (fun _ hk => hk) trivial (Below.refl _ _) (Nat.le_refl _) (by simp) ?_; (case hd => rfl); (case hg => rfl); (case hr => first | (go_simp; done) | (go_simp; rfl)); (case hp => exact (Reps.one (show Kd.M Kd.string _ _ _ (⟨#[50, 53, 48]⟩ : ByteArray) [.string (⟨#[50, 53, 48]⟩ : ByteArray)] from rfl) (Reps.one (show Kd.M Kd.string _ _ _ (⟨#[50, 50, 48]⟩ : ByteArray) [.string (⟨#[50, 50, 48]⟩ : ByteArray)] from rfl) (Reps.one (show Kd.M Kd.string _ _ _ (⟨#[51, 53, 52]⟩ : ByteArray) [.string (⟨#[51, 53, 52]⟩ : ByteArray)] from rfl) (Reps.one (show Kd.M Kd.string _ _ _ (⟨#[52, 53, 49]⟩ : ByteArray) [.string (⟨#[52, 53, 49]⟩ : ByteArray)] from rfl) (Reps.one (show Kd.M Kd.string _ _ _ (⟨#[53, 53, 48]⟩ : ByteArray) [.string (⟨#[53, 53, 48]⟩ : ByteArray)] from rfl) (Reps.one (show Kd.M Kd.string _ _ _ (⟨#[52, 50, 49]⟩ : ByteArray) [.string (⟨#[52, 50, 49]⟩ : ByteArray)] from rfl) (Reps.one (show Kd.M Kd.string _ _ _ (⟨#[50, 53, 49]⟩ : ByteArray) [.string (⟨#[50, 53, 49]⟩ : ByteArray)] from rfl) (Reps.one (show Kd.M Kd.string _ _ _ (⟨#[50, 50, 49]⟩ : ByteArray) [.string (⟨#[50, 50, 49]⟩ : ByteArray)] from rfl) (Reps.none _ _)))))))))); intro v171 w7 ho8 hb hg_ hnew_; clear hg_ hnew_; (first | rw [← Ny170.out] at ho8 | (simp only [Int.reduceToNat] at ho8; rw [← Ny170.out] at ho8)); have n0_ := Aside0.mk (Kd.R_lower ho8 (keep_size (w := w) (g := g) (row := none) (by repeat (first | (with_reducible first | exact HK.out | apply KeepBut.set_ | apply keep_drewN | apply keep_drew | apply keep_alloc) | exact HK.out)))); have n1_ := Aside0.mk (IsS72.below (by repeat (first | (with_reducible first | exact HI0.out | apply IsS72.alloc | apply IsS72.drewN | apply IsS72.drew | apply IsS72.set_1) | exact HI0.out)) hb); have n2_ := Aside0.mk (KeepBut.trans (by repeat (first | (with_reducible first | exact HK.out | apply KeepBut.set_ | apply keep_drewN | apply keep_drew | apply keep_alloc) | exact HK.out)) (KeepBut.of_below hb g none) (.inl rfl)); have n3_ := Aside0.mk (below_step (by repeat (first | (with_reducible first | exact HB.out | apply below_alloc | apply pw_below_drewN | apply below_drew1 | refine below_set ?_ (IsS72.ge HI0.out)) | exact HB.out)) hb); clear HI0; clear HK; clear HB; have HO172 := n0_; have HI0 := n1_; have HK := n2_; have HB := n3_; clear n0_ n1_ n2_ n3_; clear hb ho8; obtain ⟨Ao9, co9, eo9⟩ := Kd.R_slice HO172.out; subst eo9; have p173 : 0 ≤ ((ji3) : Int) := of_decide_eq_true (by first | (with_reducible assumption) | assumption); have q173 : (ji3) < (y170.length : Int) := of_decide_eq_true (by first | (with_reducible assumption) | assumption); obtain ⟨ad173, e173, hx173_0⟩ := Kd.at_string (Kd.R_reads' HO172.out).2.2 (ji3) p173 q173; cases e173; replace p173 := eq_true p173; replace q173 := eq_true q173))
      go_loopg [5, 6] k (fun kq v5 v6 w' => ∃ (x5_1 : ByteArray) (x6_1 : Int) (x1001_1 : Int), v5 = .string x5_1 ∧ v6 = .int .i64 x6_1 ∧ Aside0 (spec_l1rd_l2reply.l0 kq (rdOf ByteArray.empty y170 (ji3)) x5_1 x6_1 s0_0 x1001_1 = some (r1, r2)) ∧ Aside0 (kq ≤ k) ∧ Aside0 (IsS72 w0 w' g s0_0 x1001_1) ∧ Aside0 (KeepBut w w' g none) ∧ Aside0 (Below w0.heap.size w0 w'))
      case atStart => exact ⟨((⟨#[]⟩ : ByteArray)), (Int.tmod (wrap64 (Int.tdiv t168 8)) 4), (t169), (by first | rfl | (simp; done) | (simp [*]; done)), (by first | rfl | (simp; done) | (simp [*]; done)), H', ⟨Nat.le_refl _⟩, ⟨by repeat (first | (with_reducible first | exact HI0.out | apply IsS72.alloc | apply IsS72.drewN | apply IsS72.drew | apply IsS72.set_1) | exact HI0.out)⟩, ⟨by repeat (first | (with_reducible first | exact HK.out | apply KeepBut.set_ | apply keep_drewN | apply keep_drew | apply keep_alloc) | exact HK.out)⟩, ⟨by repeat (first | (with_reducible first | exact HB.out | apply below_alloc | apply pw_below_drewN | apply below_drew1 | refine below_set ?_ (IsS72.ge HI0.out)) | exact HB.out)⟩⟩
      case round =>
        clear H'
        try clear p1
        try clear q1
        try clear hx1
        try clear p2
        try clear c4
        try clear c4b0
        try clear c5
        try clear c5b0
        try clear p6
        try clear c8
        try clear hx173_0
        try clear p173
        try clear q173
        obtain ⟨x5_1, x6_1, x1001_1, rfl, rfl, HA, HK1, HI0, HK, HB⟩ := hrel
        cases gk with
        | zero => exact absurd HA.out (by simp [spec_l1rd_l2reply.l0])
        | succ k1 =>
          have H := HA.out
          clear HA
          simp only [spec_l1rd_l2reply.l0] at H
          by_cases c10 : x6_1 > 0
          · rw [if_pos c10] at H
            have c10b0 : decide (0 < x6_1) = true := decide_eq_true c10
            clear c10
            replace H := Option.bind_eq_some_iff.mp H
            obtain ⟨⟨t174, t175⟩, A110, H⟩ := H
            replace H : (if (rdOf ByteArray.empty y170 (ji3)).size + 1 ≤ 9223372036854775807 then ((some (([(⟨#[111, 110, 101, 46, 101, 120, 97, 109, 112, 108, 101]⟩ : ByteArray), (⟨#[83, 73, 90, 69, 32, 49, 48, 48]⟩ : ByteArray), (⟨#[115, 105, 122, 101, 32, 50, 48, 48, 48, 48, 48, 48]⟩ : ByteArray), (⟨#[83, 73, 90, 69]⟩ : ByteArray), (⟨#[83, 73, 90, 69, 32, 49, 50, 120]⟩ : ByteArray), (⟨#[56, 66, 73, 84, 77, 73, 77, 69]⟩ : ByteArray), (⟨#[]⟩ : ByteArray), (⟨#[83, 105, 122, 101, 32, 48]⟩ : ByteArray)] : List ByteArray) : List ByteArray)).bind fun y176 => (if 0 ≤ (Int.tmod t174 8) then (if (Int.tmod t174 8) < (y176.length : Int) then (if ((rdOf ByteArray.empty y170 (ji3)) ++ (⟨#[45]⟩ : ByteArray)).size + (rdOf ByteArray.empty y176 (Int.tmod t174 8)).size ≤ 9223372036854775807 then (if (((rdOf ByteArray.empty y170 (ji3)) ++ (⟨#[45]⟩ : ByteArray)) ++ (rdOf ByteArray.empty y176 (Int.tmod t174 8))).size + 2 ≤ 9223372036854775807 then (if x5_1.size + ((((rdOf ByteArray.empty y170 (ji3)) ++ (⟨#[45]⟩ : ByteArray)) ++ (rdOf ByteArray.empty y176 (Int.tmod t174 8))) ++ (⟨#[13, 10]⟩ : ByteArray)).size ≤ 9223372036854775807 then (spec_l1rd_l2reply.l0 k1 (rdOf ByteArray.empty y170 (ji3)) (x5_1 ++ ((((rdOf ByteArray.empty y170 (ji3)) ++ (⟨#[45]⟩ : ByteArray)) ++ (rdOf ByteArray.empty y176 (Int.tmod t174 8))) ++ (⟨#[13, 10]⟩ : ByteArray))) (wrap64 (x6_1 - 1)) s0_0 t175) else (none)) else (none)) else (none)) else (none)) else (none))) else (none)) = some (r1, r2) := H
            have A11 := Aside0.mk A110
            clear A110
            by_cases c12 : (rdOf ByteArray.empty y170 (ji3)).size + 1 ≤ 9223372036854775807
            · rw [if_pos c12] at H
              have c12b0 := eq_true c12
              have c12b1 : decide ((rdOf ByteArray.empty y170 (ji3)).size + 1 ≤ 9223372036854775807) = true := decide_eq_true c12
              try have c12b2 : (9223372036854775807 < (rdOf ByteArray.empty y170 (ji3)).size + 1) = False := eq_false (Nat.not_lt.2 c12)
              obtain ⟨y176, hy176⟩ : ∃ y_ : List ByteArray, y_ = (([(⟨#[111, 110, 101, 46, 101, 120, 97, 109, 112, 108, 101]⟩ : ByteArray), (⟨#[83, 73, 90, 69, 32, 49, 48, 48]⟩ : ByteArray), (⟨#[115, 105, 122, 101, 32, 50, 48, 48, 48, 48, 48, 48]⟩ : ByteArray), (⟨#[83, 73, 90, 69]⟩ : ByteArray), (⟨#[83, 73, 90, 69, 32, 49, 50, 120]⟩ : ByteArray), (⟨#[56, 66, 73, 84, 77, 73, 77, 69]⟩ : ByteArray), (⟨#[]⟩ : ByteArray), (⟨#[83, 105, 122, 101, 32, 48]⟩ : ByteArray)] : List ByteArray)) := ⟨_, rfl⟩
              replace H : (if 0 ≤ (Int.tmod t174 8) then (if (Int.tmod t174 8) < (y176.length : Int) then (if ((rdOf ByteArray.empty y170 (ji3)) ++ (⟨#[45]⟩ : ByteArray)).size + (rdOf ByteArray.empty y176 (Int.tmod t174 8)).size ≤ 9223372036854775807 then (if (((rdOf ByteArray.empty y170 (ji3)) ++ (⟨#[45]⟩ : ByteArray)) ++ (rdOf ByteArray.empty y176 (Int.tmod t174 8))).size + 2 ≤ 9223372036854775807 then (if x5_1.size + ((((rdOf ByteArray.empty y170 (ji3)) ++ (⟨#[45]⟩ : ByteArray)) ++ (rdOf ByteArray.empty y176 (Int.tmod t174 8))) ++ (⟨#[13, 10]⟩ : ByteArray)).size ≤ 9223372036854775807 then (spec_l1rd_l2reply.l0 k1 (rdOf ByteArray.empty y170 (ji3)) (x5_1 ++ ((((rdOf ByteArray.empty y170 (ji3)) ++ (⟨#[45]⟩ : ByteArray)) ++ (rdOf ByteArray.empty y176 (Int.tmod t174 8))) ++ (⟨#[13, 10]⟩ : ByteArray))) (wrap64 (x6_1 - 1)) s0_0 t175) else (none)) else (none)) else (none)) else (none)) else (none)) = some (r1, r2) := by first | (rw [hy176]; with_reducible exact H) | (have H2_ := (Option.bind_some _ _).symm.trans H; rw [hy176]; with_reducible exact H2_) | (have H2_ := (Option.bind_some _ _).symm.trans H; with_reducible exact H2_) | with_reducible exact H | (rw [hy176]; exact H) | exact H
              have Ny176 := Aside0.mk hy176
              clear hy176
              obtain ⟨ji13, hji13⟩ : ∃ j_ : Int, (Int.tmod t174 8) = j_ := ⟨_, rfl⟩
              replace H : (if 0 ≤ (ji13) then (if (ji13) < (y176.length : Int) then (if ((rdOf ByteArray.empty y170 (ji3)) ++ (⟨#[45]⟩ : ByteArray)).size + (rdOf ByteArray.empty y176 (ji13)).size ≤ 9223372036854775807 then (if (((rdOf ByteArray.empty y170 (ji3)) ++ (⟨#[45]⟩ : ByteArray)) ++ (rdOf ByteArray.empty y176 (ji13))).size + 2 ≤ 9223372036854775807 then (if x5_1.size + ((((rdOf ByteArray.empty y170 (ji3)) ++ (⟨#[45]⟩ : ByteArray)) ++ (rdOf ByteArray.empty y176 (ji13))) ++ (⟨#[13, 10]⟩ : ByteArray)).size ≤ 9223372036854775807 then (spec_l1rd_l2reply.l0 k1 (rdOf ByteArray.empty y170 (ji3)) (x5_1 ++ ((((rdOf ByteArray.empty y170 (ji3)) ++ (⟨#[45]⟩ : ByteArray)) ++ (rdOf ByteArray.empty y176 (ji13))) ++ (⟨#[13, 10]⟩ : ByteArray))) (wrap64 (x6_1 - 1)) s0_0 t175) else (none)) else (none)) else (none)) else (none)) else (none)) = some (r1, r2) := by first | (rw [hji13] at H; exact H) | (simp only [hji13] at H ⊢; exact H)
              (try rw [hji13] at A11)
              by_cases c14 : 0 ≤ (ji13)
              · rw [if_pos c14] at H
                have c14b0 : decide (0 ≤ (ji13)) = true := decide_eq_true c14
                clear c14
                by_cases c15 : (ji13) < (y176.length : Int)
                · rw [if_pos c15] at H
                  have c15b0 : decide ((ji13) < (y176.length : Int)) = true := decide_eq_true c15
                  clear c15
                  by_cases c16 : ((rdOf ByteArray.empty y170 (ji3)) ++ (⟨#[45]⟩ : ByteArray)).size + (rdOf ByteArray.empty y176 (ji13)).size ≤ 9223372036854775807
                  · rw [if_pos c16] at H
                    have c16b0 := eq_true c16
                    have c16b1 : decide (((rdOf ByteArray.empty y170 (ji3)) ++ (⟨#[45]⟩ : ByteArray)).size + (rdOf ByteArray.empty y176 (ji13)).size ≤ 9223372036854775807) = true := decide_eq_true c16
                    try have c16b2 : (9223372036854775807 < ((rdOf ByteArray.empty y170 (ji3)) ++ (⟨#[45]⟩ : ByteArray)).size + (rdOf ByteArray.empty y176 (ji13)).size) = False := eq_false (Nat.not_lt.2 c16)
                    try have c16b3 := c16b2
                    try simp only [ByteArray.size_append, ByteArray.size_extract, Nat.min_self, Nat.sub_zero, show (⟨#[45]⟩ : ByteArray).size = 1 from rfl] at c16b3
                    by_cases c17 : (((rdOf ByteArray.empty y170 (ji3)) ++ (⟨#[45]⟩ : ByteArray)) ++ (rdOf ByteArray.empty y176 (ji13))).size + 2 ≤ 9223372036854775807
                    · rw [if_pos c17] at H
                      have c17b0 := eq_true c17
                      have c17b1 : decide ((((rdOf ByteArray.empty y170 (ji3)) ++ (⟨#[45]⟩ : ByteArray)) ++ (rdOf ByteArray.empty y176 (ji13))).size + 2 ≤ 9223372036854775807) = true := decide_eq_true c17
                      try have c17b2 : (9223372036854775807 < (((rdOf ByteArray.empty y170 (ji3)) ++ (⟨#[45]⟩ : ByteArray)) ++ (rdOf ByteArray.empty y176 (ji13))).size + 2) = False := eq_false (Nat.not_lt.2 c17)
                      try have c17b3 := c17b2
                      try simp only [ByteArray.size_append, ByteArray.size_extract, Nat.min_self, Nat.sub_zero, show (⟨#[45]⟩ : ByteArray).size = 1 from rfl] at c17b3
                      by_cases c18 : x5_1.size + ((((rdOf ByteArray.empty y170 (ji3)) ++ (⟨#[45]⟩ : ByteArray)) ++ (rdOf ByteArray.empty y176 (ji13))) ++ (⟨#[13, 10]⟩ : ByteArray)).size ≤ 9223372036854775807
                      · rw [if_pos c18] at H
                        have c18b0 := eq_true c18
                        have c18b1 : decide (x5_1.size + ((((rdOf ByteArray.empty y170 (ji3)) ++ (⟨#[45]⟩ : ByteArray)) ++ (rdOf ByteArray.empty y176 (ji13))) ++ (⟨#[13, 10]⟩ : ByteArray)).size ≤ 9223372036854775807) = true := decide_eq_true c18
                        try have c18b2 : (9223372036854775807 < x5_1.size + ((((rdOf ByteArray.empty y170 (ji3)) ++ (⟨#[45]⟩ : ByteArray)) ++ (rdOf ByteArray.empty y176 (ji13))) ++ (⟨#[13, 10]⟩ : ByteArray)).size) = False := eq_false (Nat.not_lt.2 c18)
                        try have c18b3 := c18b2
                        try simp only [ByteArray.size_append, ByteArray.size_extract, Nat.min_self, Nat.sub_zero, show (⟨#[13, 10]⟩ : ByteArray).size = 2 from rfl, show (⟨#[45]⟩ : ByteArray).size = 1 from rfl] at c18b3
                        have H' := Aside0.mk H
                        clear H
                        go_wp2_with (first | ((with_reducible refine gate_callee (f := 45) rfl ?_); refine goesL_ (some 24) rfl rfl Tryd.func45 (by kernel_rfl) rfl #[.pointer (some ⟨g, 0, none⟩)] rfl (by (try simp only [List.map_toArray, List.map_cons, List.map_nil]); first | done | rfl | (simp only [List.length_drop, List.length_take]; rfl)) ?_; (with_reducible refine (spec_l1rd_next.calls g s0_0 x1001_1 t174 t175 w0 _ ?side1 ?side2 A11.out).mono ?_); (case side1 => repeat (first | (with_reducible first | exact HI0.out | apply IsS72.alloc | apply IsS72.drewN | apply IsS72.drew | apply IsS72.set_1) | exact HI0.out)); (case side2 => repeat (first | (with_reducible first | exact HB.out | apply below_alloc | apply pw_below_drewN | apply below_drew1 | refine below_set ?_ (IsS72.ge HI0.out)) | exact HB.out)); rintro e w19 ⟨rfl, hi, hb, hk⟩; refine ⟨_, rfl, ?_⟩; have n0_ := Aside0.mk (KeepBut.trans (by repeat (first | (with_reducible first | exact HK.out | apply KeepBut.set_ | apply keep_drewN | apply keep_drew | apply keep_alloc) | exact HK.out)) hk (.inl rfl)); have n1_ := Aside0.mk (hb); have n2_ := Aside0.mk (hi); clear HK; clear HB; clear HI0; have HK := n0_; have HB := n1_; have HI0 := n2_; clear n0_ n1_ n2_; (try clear hb); (try clear hb2); (try clear hk); (try clear hi)) | ((with_reducible refine gate_dst (N := 28) rfl ?_); refine Kd.R_lit Kd.string _ 9 ?hg (N := 28) ?hd (xs := ([(⟨#[111, 110, 101, 46, 101, 120, 97, 109, 112, 108, 101]⟩ : ByteArray), (⟨#[83, 73, 90, 69, 32, 49, 48, 48]⟩ : ByteArray), (⟨#[115, 105, 122, 101, 32, 50, 48, 48, 48, 48, 48, 48]⟩ : ByteArray), (⟨#[83, 73, 90, 69]⟩ : ByteArray), (⟨#[83, 73, 90, 69, 32, 49, 50, 120]⟩ : ByteArray), (⟨#[56, 66, 73, 84, 77, 73, 77, 69]⟩ : ByteArray), (⟨#[]⟩ : ByteArray), (⟨#[83, 105, 122, 101, 32, 48]⟩ : ByteArray)] : List ByteArray)) (inner := [.string (⟨#[111, 110, 101, 46, 101, 120, 97, 109, 112, 108, 101]⟩ : ByteArray), .string (⟨#[83, 73, 90, 69, 32, 49, 48, 48]⟩ : ByteArray), .string (⟨#[115, 105, 122, 101, 32, 50, 48, 48, 48, 48, 48, 48]⟩ : ByteArray), .string (⟨#[83, 73, 90, 69]⟩ : ByteArray), .string (⟨#[83, 73, 90, 69, 32, 49, 50, 120]⟩ : ByteArray), .string (⟨#[56, 66, 73, 84, 77, 73, 77, 69]⟩ : ByteArray), .string (⟨#[]⟩ : ByteArray), .string (⟨#[83, 105, 122, 101, 32, 48]⟩ : ByteArray)]) (ok := fun _ => True) (okp := fun _ => True) ?hr ?hp (fun _ hk => hk) trivial (Below.refl _ _) (Nat.le_refl _) (by simp) ?_; (case hd => rfl); (case hg => rfl); (case hr => first | (go_simp; done) | (go_simp; rfl)); (case hp => exact (Reps.one (show Kd.M Kd.string _ _ _ (⟨#[111, 110, 101, 46, 101, 120, 97, 109, 112, 108, 101]⟩ : ByteArray) [.string (⟨#[111, 110, 101, 46, 101, 120, 97, 109, 112, 108, 101]⟩ : ByteArray)] from rfl) (Reps.one (show Kd.M Kd.string _ _ _ (⟨#[83, 73, 90, 69, 32, 49, 48, 48]⟩ : ByteArray) [.string (⟨#[83, 73, 90, 69, 32, 49, 48, 48]⟩ : ByteArray)] from rfl) (Reps.one (show Kd.M Kd.string _ _ _ (⟨#[115, 105, 122, 101, 32, 50, 48, 48, 48, 48, 48, 48]⟩ : ByteArray) [.string (⟨#[115, 105, 122, 101, 32, 50, 48, 48, 48, 48, 48, 48]⟩ : ByteArray)] from rfl) (Reps.one (show Kd.M Kd.string _ _ _ (⟨#[83, 73, 90, 69]⟩ : ByteArray) [.string (⟨#[83, 73, 90, 69]⟩ : ByteArray)] from rfl) (Reps.one (show Kd.M Kd.string _ _ _ (⟨#[83, 73, 90, 69, 32, 49, 50, 120]⟩ : ByteArray) [.string (⟨#[83, 73, 90, 69, 32, 49, 50, 120]⟩ : ByteArray)] from rfl) (Reps.one (show Kd.M Kd.string _ _ _ (⟨#[56, 66, 73, 84, 77, 73, 77, 69]⟩ : ByteArray) [.string (⟨#[56, 66, 73, 84, 77, 73, 77, 69]⟩ : ByteArray)] from rfl) (Reps.one (show Kd.M Kd.string _ _ _ (⟨#[]⟩ : ByteArray) [.string (⟨#[]⟩ : ByteArray)] from rfl) (Reps.one (show Kd.M Kd.string _ _ _ (⟨#[83, 105, 122, 101, 32, 48]⟩ : ByteArray) [.string (⟨#[83, 105, 122, 101, 32, 48]⟩ : ByteArray)] from rfl) (Reps.none _ _)))))))))); intro v177 w20 ho21 hb hg_ hnew_; clear hg_ hnew_; (first | rw [← Ny176.out] at ho21 | (simp only [Int.reduceToNat] at ho21; rw [← Ny176.out] at ho21)); have n0_ := Aside0.mk (Kd.R_lower ho21 (keep_size (w := w) (g := g) (row := none) (by repeat (first | (with_reducible first | exact HK.out | apply KeepBut.set_ | apply keep_drewN | apply keep_drew | apply keep_alloc) | exact HK.out)))); have n1_ := Aside0.mk (IsS72.below (by repeat (first | (with_reducible first | exact HI0.out | apply IsS72.alloc | apply IsS72.drewN | apply IsS72.drew | apply IsS72.set_1) | exact HI0.out)) hb); have n2_ := Aside0.mk (KeepBut.trans (by repeat (first | (with_reducible first | exact HK.out | apply KeepBut.set_ | apply keep_drewN | apply keep_drew | apply keep_alloc) | exact HK.out)) (KeepBut.of_below hb g none) (.inl rfl)); have n3_ := Aside0.mk (below_step (by repeat (first | (with_reducible first | exact HB.out | apply below_alloc | apply pw_below_drewN | apply below_drew1 | refine below_set ?_ (IsS72.ge HI0.out)) | exact HB.out)) hb); clear HI0; clear HK; clear HB; have HO178 := n0_; have HI0 := n1_; have HK := n2_; have HB := n3_; clear n0_ n1_ n2_ n3_; clear hb ho21; obtain ⟨Ao22, co22, eo22⟩ := Kd.R_slice HO178.out; subst eo22; have p179 : 0 ≤ ((ji13) : Int) := of_decide_eq_true (by first | (with_reducible assumption) | assumption); have q179 : (ji13) < (y176.length : Int) := of_decide_eq_true (by first | (with_reducible assumption) | assumption); obtain ⟨ad179, e179, hx179_0⟩ := Kd.at_string (Kd.R_reads' HO178.out).2.2 (ji13) p179 q179; cases e179; replace p179 := eq_true p179; replace q179 := eq_true q179))
                        go_roundg k1
                        case measure => have := HK1.out; omega
                        case rel => exact ⟨(x5_1 ++ ((((rdOf ByteArray.empty y170 (ji3)) ++ (⟨#[45]⟩ : ByteArray)) ++ (rdOf ByteArray.empty y176 (ji13))) ++ (⟨#[13, 10]⟩ : ByteArray))), (wrap64 (x6_1 - 1)), (t175), (by first | rfl | (simp; done) | (simp only [← hji3, ← hji13] <;> (first | rfl | simp)) | (simp [*]; done)), (by first | rfl | (simp; done) | (simp [*]; done)), H', ⟨by have := HK1.out; omega⟩, ⟨by repeat (first | (with_reducible first | exact HI0.out | apply IsS72.alloc | apply IsS72.drewN | apply IsS72.drew | apply IsS72.set_1) | exact HI0.out)⟩, ⟨by repeat (first | (with_reducible first | exact HK.out | apply KeepBut.set_ | apply keep_drewN | apply keep_drew | apply keep_alloc) | exact HK.out)⟩, ⟨by repeat (first | (with_reducible first | exact HB.out | apply below_alloc | apply pw_below_drewN | apply below_drew1 | refine below_set ?_ (IsS72.ge HI0.out)) | exact HB.out)⟩⟩
                      · rw [if_neg c18] at H
                        exact absurd H (by simp)
                    · rw [if_neg c17] at H
                      exact absurd H (by simp)
                  · rw [if_neg c16] at H
                    exact absurd H (by simp)
                · rw [if_neg c15] at H
                  exact absurd H (by simp)
              · rw [if_neg c14] at H
                exact absurd H (by simp)
            · rw [if_neg c12] at H
              exact absurd H (by simp)
          · rw [if_neg c10] at H
            have c10b0 : decide (0 < x6_1) = false := decide_eq_false c10
            clear c10
            replace H := Option.bind_eq_some_iff.mp H
            obtain ⟨⟨t180, t181⟩, A230, H⟩ := H
            replace H : (if x5_1.size + (rdOf ByteArray.empty y170 (ji3)).size ≤ 9223372036854775807 then ((some (([(⟨#[32, 111, 107]⟩ : ByteArray), (⟨#[]⟩ : ByteArray), (⟨#[32]⟩ : ByteArray), (⟨#[32, 110, 111, 32, 115, 117, 99, 104, 32, 117, 115, 101, 114, 32, 104, 101, 114, 101]⟩ : ByteArray), (⟨#[32, 255, 32, 111, 100, 100, 32, 1]⟩ : ByteArray)] : List ByteArray) : List ByteArray)).bind fun y182 => (if 0 ≤ (Int.tmod t180 5) then (if (Int.tmod t180 5) < (y182.length : Int) then (if (x5_1 ++ (rdOf ByteArray.empty y170 (ji3))).size + (rdOf ByteArray.empty y182 (Int.tmod t180 5)).size ≤ 9223372036854775807 then (if ((x5_1 ++ (rdOf ByteArray.empty y170 (ji3))) ++ (rdOf ByteArray.empty y182 (Int.tmod t180 5))).size + 2 ≤ 9223372036854775807 then (some (((x5_1 ++ (rdOf ByteArray.empty y170 (ji3))) ++ (rdOf ByteArray.empty y182 (Int.tmod t180 5))) ++ (⟨#[13, 10]⟩ : ByteArray), t181)) else (none)) else (none)) else (none)) else (none))) else (none)) = some (r1, r2) := H
            have A23 := Aside0.mk A230
            clear A230
            by_cases c24 : x5_1.size + (rdOf ByteArray.empty y170 (ji3)).size ≤ 9223372036854775807
            · rw [if_pos c24] at H
              have c24b0 := eq_true c24
              have c24b1 : decide (x5_1.size + (rdOf ByteArray.empty y170 (ji3)).size ≤ 9223372036854775807) = true := decide_eq_true c24
              try have c24b2 : (9223372036854775807 < x5_1.size + (rdOf ByteArray.empty y170 (ji3)).size) = False := eq_false (Nat.not_lt.2 c24)
              obtain ⟨y182, hy182⟩ : ∃ y_ : List ByteArray, y_ = (([(⟨#[32, 111, 107]⟩ : ByteArray), (⟨#[]⟩ : ByteArray), (⟨#[32]⟩ : ByteArray), (⟨#[32, 110, 111, 32, 115, 117, 99, 104, 32, 117, 115, 101, 114, 32, 104, 101, 114, 101]⟩ : ByteArray), (⟨#[32, 255, 32, 111, 100, 100, 32, 1]⟩ : ByteArray)] : List ByteArray)) := ⟨_, rfl⟩
              replace H : (if 0 ≤ (Int.tmod t180 5) then (if (Int.tmod t180 5) < (y182.length : Int) then (if (x5_1 ++ (rdOf ByteArray.empty y170 (ji3))).size + (rdOf ByteArray.empty y182 (Int.tmod t180 5)).size ≤ 9223372036854775807 then (if ((x5_1 ++ (rdOf ByteArray.empty y170 (ji3))) ++ (rdOf ByteArray.empty y182 (Int.tmod t180 5))).size + 2 ≤ 9223372036854775807 then (some (((x5_1 ++ (rdOf ByteArray.empty y170 (ji3))) ++ (rdOf ByteArray.empty y182 (Int.tmod t180 5))) ++ (⟨#[13, 10]⟩ : ByteArray), t181)) else (none)) else (none)) else (none)) else (none)) = some (r1, r2) := by first | (rw [hy182]; with_reducible exact H) | (have H2_ := (Option.bind_some _ _).symm.trans H; rw [hy182]; with_reducible exact H2_) | (have H2_ := (Option.bind_some _ _).symm.trans H; with_reducible exact H2_) | with_reducible exact H | (rw [hy182]; exact H) | exact H
              have Ny182 := Aside0.mk hy182
              clear hy182
              obtain ⟨ji25, hji25⟩ : ∃ j_ : Int, (Int.tmod t180 5) = j_ := ⟨_, rfl⟩
              replace H : (if 0 ≤ (ji25) then (if (ji25) < (y182.length : Int) then (if (x5_1 ++ (rdOf ByteArray.empty y170 (ji3))).size + (rdOf ByteArray.empty y182 (ji25)).size ≤ 9223372036854775807 then (if ((x5_1 ++ (rdOf ByteArray.empty y170 (ji3))) ++ (rdOf ByteArray.empty y182 (ji25))).size + 2 ≤ 9223372036854775807 then (some (((x5_1 ++ (rdOf ByteArray.empty y170 (ji3))) ++ (rdOf ByteArray.empty y182 (ji25))) ++ (⟨#[13, 10]⟩ : ByteArray), t181)) else (none)) else (none)) else (none)) else (none)) = some (r1, r2) := by first | (rw [hji25] at H; exact H) | (simp only [hji25] at H ⊢; exact H)
              (try rw [hji25] at A23)
              by_cases c26 : 0 ≤ (ji25)
              · rw [if_pos c26] at H
                have c26b0 : decide (0 ≤ (ji25)) = true := decide_eq_true c26
                clear c26
                by_cases c27 : (ji25) < (y182.length : Int)
                · rw [if_pos c27] at H
                  have c27b0 : decide ((ji25) < (y182.length : Int)) = true := decide_eq_true c27
                  clear c27
                  by_cases c28 : (x5_1 ++ (rdOf ByteArray.empty y170 (ji3))).size + (rdOf ByteArray.empty y182 (ji25)).size ≤ 9223372036854775807
                  · rw [if_pos c28] at H
                    have c28b0 := eq_true c28
                    have c28b1 : decide ((x5_1 ++ (rdOf ByteArray.empty y170 (ji3))).size + (rdOf ByteArray.empty y182 (ji25)).size ≤ 9223372036854775807) = true := decide_eq_true c28
                    try have c28b2 : (9223372036854775807 < (x5_1 ++ (rdOf ByteArray.empty y170 (ji3))).size + (rdOf ByteArray.empty y182 (ji25)).size) = False := eq_false (Nat.not_lt.2 c28)
                    try have c28b3 := c28b2
                    try simp only [ByteArray.size_append, ByteArray.size_extract, Nat.min_self, Nat.sub_zero] at c28b3
                    by_cases c29 : ((x5_1 ++ (rdOf ByteArray.empty y170 (ji3))) ++ (rdOf ByteArray.empty y182 (ji25))).size + 2 ≤ 9223372036854775807
                    · rw [if_pos c29] at H
                      have c29b0 := eq_true c29
                      have c29b1 : decide (((x5_1 ++ (rdOf ByteArray.empty y170 (ji3))) ++ (rdOf ByteArray.empty y182 (ji25))).size + 2 ≤ 9223372036854775807) = true := decide_eq_true c29
                      try have c29b2 : (9223372036854775807 < ((x5_1 ++ (rdOf ByteArray.empty y170 (ji3))) ++ (rdOf ByteArray.empty y182 (ji25))).size + 2) = False := eq_false (Nat.not_lt.2 c29)
                      try have c29b3 := c29b2
                      try simp only [ByteArray.size_append, ByteArray.size_extract, Nat.min_self, Nat.sub_zero] at c29b3
                      simp only [Option.some.injEq, Prod.mk.injEq] at H
                      obtain ⟨rfl, rfl⟩ := H
                      go_wp2_with (first | ((with_reducible refine gate_callee (f := 45) rfl ?_); refine goesL_ (some 37) rfl rfl Tryd.func45 (by kernel_rfl) rfl #[.pointer (some ⟨g, 0, none⟩)] rfl (by (try simp only [List.map_toArray, List.map_cons, List.map_nil]); first | done | rfl | (simp only [List.length_drop, List.length_take]; rfl)) ?_; (with_reducible refine (spec_l1rd_next.calls g s0_0 x1001_1 t180 t181 w0 _ ?side1 ?side2 A23.out).mono ?_); (case side1 => repeat (first | (with_reducible first | exact HI0.out | apply IsS72.alloc | apply IsS72.drewN | apply IsS72.drew | apply IsS72.set_1) | exact HI0.out)); (case side2 => repeat (first | (with_reducible first | exact HB.out | apply below_alloc | apply pw_below_drewN | apply below_drew1 | refine below_set ?_ (IsS72.ge HI0.out)) | exact HB.out)); rintro e w30 ⟨rfl, hi, hb, hk⟩; refine ⟨_, rfl, ?_⟩; have n0_ := Aside0.mk (KeepBut.trans (by repeat (first | (with_reducible first | exact HK.out | apply KeepBut.set_ | apply keep_drewN | apply keep_drew | apply keep_alloc) | exact HK.out)) hk (.inl rfl)); have n1_ := Aside0.mk (hb); have n2_ := Aside0.mk (hi); clear HK; clear HB; clear HI0; have HK := n0_; have HB := n1_; have HI0 := n2_; clear n0_ n1_ n2_; (try clear hb); (try clear hb2); (try clear hk); (try clear hi)) | ((with_reducible refine gate_dst (N := 41) rfl ?_); refine Kd.R_lit Kd.string _ 9 ?hg (N := 41) ?hd (xs := ([(⟨#[32, 111, 107]⟩ : ByteArray), (⟨#[]⟩ : ByteArray), (⟨#[32]⟩ : ByteArray), (⟨#[32, 110, 111, 32, 115, 117, 99, 104, 32, 117, 115, 101, 114, 32, 104, 101, 114, 101]⟩ : ByteArray), (⟨#[32, 255, 32, 111, 100, 100, 32, 1]⟩ : ByteArray)] : List ByteArray)) (inner := [.string (⟨#[32, 111, 107]⟩ : ByteArray), .string (⟨#[]⟩ : ByteArray), .string (⟨#[32]⟩ : ByteArray), .string (⟨#[32, 110, 111, 32, 115, 117, 99, 104, 32, 117, 115, 101, 114, 32, 104, 101, 114, 101]⟩ : ByteArray), .string (⟨#[32, 255, 32, 111, 100, 100, 32, 1]⟩ : ByteArray)]) (ok := fun _ => True) (okp := fun _ => True) ?hr ?hp (fun _ hk => hk) trivial (Below.refl _ _) (Nat.le_refl _) (by simp) ?_; (case hd => rfl); (case hg => rfl); (case hr => first | (go_simp; done) | (go_simp; rfl)); (case hp => exact (Reps.one (show Kd.M Kd.string _ _ _ (⟨#[32, 111, 107]⟩ : ByteArray) [.string (⟨#[32, 111, 107]⟩ : ByteArray)] from rfl) (Reps.one (show Kd.M Kd.string _ _ _ (⟨#[]⟩ : ByteArray) [.string (⟨#[]⟩ : ByteArray)] from rfl) (Reps.one (show Kd.M Kd.string _ _ _ (⟨#[32]⟩ : ByteArray) [.string (⟨#[32]⟩ : ByteArray)] from rfl) (Reps.one (show Kd.M Kd.string _ _ _ (⟨#[32, 110, 111, 32, 115, 117, 99, 104, 32, 117, 115, 101, 114, 32, 104, 101, 114, 101]⟩ : ByteArray) [.string (⟨#[32, 110, 111, 32, 115, 117, 99, 104, 32, 117, 115, 101, 114, 32, 104, 101, 114, 101]⟩ : ByteArray)] from rfl) (Reps.one (show Kd.M Kd.string _ _ _ (⟨#[32, 255, 32, 111, 100, 100, 32, 1]⟩ : ByteArray) [.string (⟨#[32, 255, 32, 111, 100, 100, 32, 1]⟩ : ByteArray)] from rfl) (Reps.none _ _))))))); intro v183 w31 ho32 hb hg_ hnew_; clear hg_ hnew_; (first | rw [← Ny182.out] at ho32 | (simp only [Int.reduceToNat] at ho32; rw [← Ny182.out] at ho32)); have n0_ := Aside0.mk (Kd.R_lower ho32 (keep_size (w := w) (g := g) (row := none) (by repeat (first | (with_reducible first | exact HK.out | apply KeepBut.set_ | apply keep_drewN | apply keep_drew | apply keep_alloc) | exact HK.out)))); have n1_ := Aside0.mk (IsS72.below (by repeat (first | (with_reducible first | exact HI0.out | apply IsS72.alloc | apply IsS72.drewN | apply IsS72.drew | apply IsS72.set_1) | exact HI0.out)) hb); have n2_ := Aside0.mk (KeepBut.trans (by repeat (first | (with_reducible first | exact HK.out | apply KeepBut.set_ | apply keep_drewN | apply keep_drew | apply keep_alloc) | exact HK.out)) (KeepBut.of_below hb g none) (.inl rfl)); have n3_ := Aside0.mk (below_step (by repeat (first | (with_reducible first | exact HB.out | apply below_alloc | apply pw_below_drewN | apply below_drew1 | refine below_set ?_ (IsS72.ge HI0.out)) | exact HB.out)) hb); clear HI0; clear HK; clear HB; have HO184 := n0_; have HI0 := n1_; have HK := n2_; have HB := n3_; clear n0_ n1_ n2_ n3_; clear hb ho32; obtain ⟨Ao33, co33, eo33⟩ := Kd.R_slice HO184.out; subst eo33; have p185 : 0 ≤ ((ji25) : Int) := of_decide_eq_true (by first | (with_reducible assumption) | assumption); have q185 : (ji25) < (y182.length : Int) := of_decide_eq_true (by first | (with_reducible assumption) | assumption); obtain ⟨ad185, e185, hx185_0⟩ := Kd.at_string (Kd.R_reads' HO184.out).2.2 (ji25) p185 q185; cases e185; replace p185 := eq_true p185; replace q185 := eq_true q185))
                      go_ret
                      exact ⟨by first | rfl | (simp [errW_none, errW_some] <;> rfl) | (simp only [← hji3, ← hji25]; first | rfl | (simp [errW_none, errW_some] <;> rfl)) | (simp [*, errW_none, errW_some] <;> rfl), by repeat (first | (with_reducible first | exact HI0.out | apply IsS72.alloc | apply IsS72.drewN | apply IsS72.drew | apply IsS72.set_1) | exact HI0.out), by repeat (first | (with_reducible first | exact HB.out | apply below_alloc | apply pw_below_drewN | apply below_drew1 | refine below_set ?_ (IsS72.ge HI0.out)) | exact HB.out), by repeat (first | (with_reducible first | exact HK.out | apply KeepBut.set_ | apply keep_drewN | apply keep_drew | apply keep_alloc) | exact HK.out)⟩
                    · rw [if_neg c29] at H
                      exact absurd H (by simp)
                  · rw [if_neg c28] at H
                    exact absurd H (by simp)
                · rw [if_neg c27] at H
                  exact absurd H (by simp)
              · rw [if_neg c26] at H
                exact absurd H (by simp)
            · rw [if_neg c24] at H
              exact absurd H (by simp)
    · rw [if_neg c5] at H
      exact absurd H (by simp)
  · rw [if_neg c4] at H
    exact absurd H (by simp)

/-! ### spec_l1fill: function 85 -/
mutual
def spec_l1fill.j0 : Nat → Int → Option (ByteArray)
  | 0, _ => none
  | k + 1, x0 => if 0 ≤ x0 then (if (x0 : Int).toNat ≤ 281474976710656 then ((some (List.replicate (x0 : Int).toNat 0 : List Int)).bind fun y186 => (spec_l1fill.l0 k y186 (y186.length : Int) 0)) else (none)) else (none)
def spec_l1fill.l0 : Nat → List Int → Int → Int → Option (ByteArray)
  | 0, _, _, _ => none
  | k + 1, x3, x10, x11 => if x11 < x10 then (if 0 ≤ x11 then (if x11 < (x3.length : Int) then (spec_l1fill.l0 k (x3.set (x11 : Int).toNat ((wrap64 (97 + (Int.tmod x11 26))) % 256)) x10 (wrap64 (x11 + 1))) else (none)) else (none)) else (some (strOfNums x3))
end
def spec_l1fill.f (k : Nat) (a0 : Int) : Option (ByteArray) := if a0 < 0 then (spec_l1fill.j0 k 0) else (spec_l1fill.j0 k a0)
theorem spec_l1fill.mono_l : ∀ k, (∀ y0, LeO (spec_l1fill.j0 k y0) (spec_l1fill.j0 (k + 1) y0)) ∧ (∀ y0 y1 y2, LeO (spec_l1fill.l0 k y0 y1 y2) (spec_l1fill.l0 (k + 1) y0 y1 y2))
  | 0 => ⟨fun _ r h => by simp [spec_l1fill.j0] at h, fun _ _ _ r h => by simp [spec_l1fill.l0] at h⟩
  | k + 1 => by
    obtain ⟨ih0, ih1⟩ := spec_l1fill.mono_l k
    refine ⟨?_, ?_⟩
    · intro y0
      unfold spec_l1fill.j0
      repeat' first
      | (with_reducible exact ih0 _)
      | (with_reducible exact ih1 _ _ _)
      | (with_reducible exact LeO.refl _)
      | (with_reducible exact LeO.none _)
      | (with_reducible refine LeO.ite ?_ ?_)
      | (with_reducible refine LeO.bind ?_ (fun _ => ?_))
      | exact ih0 _
      | exact ih1 _ _ _
      | exact LeO.none _
      | refine LeO.ite ?_ ?_
      | refine LeO.bind ?_ (fun _ => ?_)
    · intro y0 y1 y2
      unfold spec_l1fill.l0
      repeat' first
      | (with_reducible exact ih0 _)
      | (with_reducible exact ih1 _ _ _)
      | (with_reducible exact LeO.refl _)
      | (with_reducible exact LeO.none _)
      | (with_reducible refine LeO.ite ?_ ?_)
      | (with_reducible refine LeO.bind ?_ (fun _ => ?_))
      | exact ih0 _
      | exact ih1 _ _ _
      | exact LeO.none _
      | refine LeO.ite ?_ ?_
      | refine LeO.bind ?_ (fun _ => ?_)
theorem spec_l1fill.mono : ∀ a0 k, LeO (spec_l1fill.f k a0) (spec_l1fill.f (k + 1) a0) := by
  intro a0 k
  obtain ⟨ih0, ih1⟩ := spec_l1fill.mono_l k
  unfold spec_l1fill.f
  repeat' first
      | (with_reducible exact ih0 _)
      | (with_reducible exact ih1 _ _ _)
      | (with_reducible exact LeO.refl _)
      | (with_reducible exact LeO.none _)
      | (with_reducible refine LeO.ite ?_ ?_)
      | (with_reducible refine LeO.bind ?_ (fun _ => ?_))
      | exact ih0 _
      | exact ih1 _ _ _
      | exact LeO.none _
      | refine LeO.ite ?_ ?_
      | refine LeO.bind ?_ (fun _ => ?_)
set_option maxHeartbeats 8000000 in
set_option maxRecDepth 100000 in
theorem spec_l1fill.calls (k : Nat) (a0 : Int) (r : ByteArray) (w : World) (h : spec_l1fill.f k a0 = some r) :
    Calls Tryd.prog 85 #[.int .i64 a0] w fun e w' => e = .returned (.string r) ∧ Below w.heap.size w w' := by
  have HB := Aside0.mk (Below.refl w.heap.size w)
  have H : (if a0 < 0 then (spec_l1fill.j0 k 0) else (spec_l1fill.j0 k a0)) = some r := h
  clear h
  have HC2 := Aside0.mk H
  clear H
  go_enter Tryd.func85, Tryd.ntmps85
  go_upto_if 6 with (fail)
  go_cut [0] (fun v0 wc => ∃ (kq : Nat) (x0_1 : Int), v0 = .int .i64 x0_1 ∧ Aside0 (spec_l1fill.j0 kq x0_1 = some r) ∧ Aside0 (kq ≤ k) ∧ Aside0 (Below w.heap.size w wc))
  case first =>
    have H := HC2.out
    clear HC2
    by_cases c3 : a0 < 0
    · rw [if_pos c3] at H
      have c3b0 : decide (a0 < 0) = true := decide_eq_true c3
      clear c3
      (first | rw [c3b0] | (simp only [i64_w, i32_w]; rw [c3b0]) | skip)
      have H' := Aside0.mk H
      clear H
      go_wp2
      go_meet
      case rel => exact ⟨_, (0), (by first | rfl | (simp; done) | (simp [*]; done)), H', ⟨by first | omega | exact Nat.le_refl _⟩, ⟨bq_⟩⟩
    · rw [if_neg c3] at H
      have c3b0 : decide (a0 < 0) = false := decide_eq_false c3
      clear c3
      (first | rw [c3b0] | (simp only [i64_w, i32_w]; rw [c3b0]) | skip)
      have H' := Aside0.mk H
      clear H
      go_wp2
      go_meet
      case rel => exact ⟨_, (a0), (by first | rfl | (simp; done) | (simp [*]; done)), H', ⟨by first | omega | exact Nat.le_refl _⟩, ⟨bq_⟩⟩
  case rest =>
    clear HC2
    try clear p2
    try clear c3
    try clear c3b0
    obtain ⟨kq, x0_1, rfl, HA, HJ1, HB⟩ := hcut
    cases kq with
    | zero => exact absurd HA.out (by simp [spec_l1fill.j0])
    | succ kj1 =>
      have H := HA.out
      clear HA
      simp only [spec_l1fill.j0] at H
      by_cases c4 : 0 ≤ x0_1
      · rw [if_pos c4] at H
        have c4b0 := eq_true c4
        have c4b1 : decide (0 ≤ x0_1) = true := decide_eq_true c4
        clear c4
        by_cases c5 : (x0_1 : Int).toNat ≤ 281474976710656
        · rw [if_pos c5] at H
          have c5b0 := eq_true c5
          have c5b1 : decide ((x0_1 : Int).toNat ≤ 281474976710656) = true := decide_eq_true c5
          clear c5
          obtain ⟨y186, hy186⟩ : ∃ y_ : List Int, y_ = (List.replicate (x0_1 : Int).toNat 0) := ⟨_, rfl⟩
          replace H : (spec_l1fill.l0 kj1 y186 (y186.length : Int) 0) = some r := by first | (rw [hy186]; with_reducible exact H) | (have H2_ := (Option.bind_some _ _).symm.trans H; rw [hy186]; with_reducible exact H2_) | (have H2_ := (Option.bind_some _ _).symm.trans H; with_reducible exact H2_) | with_reducible exact H | (rw [hy186]; exact H) | exact H
          have Ny186 := Aside0.mk hy186
          clear hy186
          have H' := Aside0.mk H
          clear H
          go_wp2_with (first | ((with_reducible refine gate_dst (N := 8) rfl ?_); refine Kd.R_make (Kd.int .u8) _ 5 rfl (N := 8) rfl 22 _ _ rfl x0_1 rfl rfl Tryd.underlying22 (.int .u8 0) 1 info5 rfl (by decide) (by omega) 0 (ok := fun _ => True) (okp := fun _ => True) rfl (fun _ hk => hk) trivial (of_decide_eq_true (by first | (with_reducible assumption) | assumption)) (Nat.le_trans (Nat.mul_le_mul_right _ (of_decide_eq_true (by first | (with_reducible assumption) | assumption) : x0_1.toNat ≤ 281474976710656)) (by omega)) (Below.refl _ _) (Nat.le_refl _) ?_; intro v187 w6 ho7 hb hg_ hnew_; clear hg_ hnew_; (first | rw [← Ny186.out] at ho7 | (simp only [Int.reduceToNat] at ho7; rw [← Ny186.out] at ho7)); have n0_ := Aside0.mk (Kd.R_lower ho7 (below_size (bq_))); have n1_ := Aside0.mk (below_step (bq_) hb); clear HB; have HO188 := n0_; have HB := n1_; clear n0_ n1_; clear hb ho7; obtain ⟨Ao8, co8, eo8⟩ := Kd.R_slice HO188.out; subst eo8))
          go_loopg [11] kj1 (fun kq v11 w' => ∃ (x3_2 : List Int) (x11_2 : Int), v11 = .int .i64 x11_2 ∧ Aside0 (spec_l1fill.l0 kq x3_2 (y186.length : Int) x11_2 = some r) ∧ Aside0 (kq ≤ kj1) ∧ Aside0 (Kd.R (Kd.int .u8) 5 w' w.heap.size (fun _ => True) (.slice Ao8 y186.length co8) x3_2) ∧ Aside0 (Below w.heap.size w w'))
          case atStart => exact ⟨(y186), (0), (by first | rfl | (simp; done) | (simp [*]; done)), H', ⟨Nat.le_refl _⟩, ⟨by (with_reducible repeat (first | apply Kd.R_alloc | apply Kd.R_drewN | apply Kd.R_drew)); exact HO188.out⟩, ⟨bq_⟩⟩
          case round =>
            clear H'
            try clear p2
            try clear c3
            try clear c3b0
            try clear c4
            try clear c4b0
            try clear c4b1
            try clear c5
            try clear c5b0
            try clear c5b1
            try clear c8
            try clear p2
            obtain ⟨x3_2, x11_2, rfl, HA, HK2, HO_3, HB⟩ := hrel
            have hl3_2 := (Kd.R_reads' HO_3.out).1
            rw [hl3_2] at HO_3
            (try simp only [hl3_2])
            cases gk with
            | zero => exact absurd HA.out (by simp [spec_l1fill.l0])
            | succ k2 =>
              have H := HA.out
              clear HA
              simp only [spec_l1fill.l0] at H
              by_cases c9 : x11_2 < (y186.length : Int)
              · rw [if_pos c9] at H
                have c9b0 : decide (x11_2 < (y186.length : Int)) = true := decide_eq_true c9
                (try (have c9b0l0 := c9b0; simp only [hl3_2] at c9b0l0))
                clear c9
                by_cases c10 : 0 ≤ x11_2
                · rw [if_pos c10] at H
                  have c10b0 : decide (0 ≤ x11_2) = true := decide_eq_true c10
                  clear c10
                  by_cases c11 : x11_2 < (x3_2.length : Int)
                  · rw [if_pos c11] at H
                    have c11b0 : decide (x11_2 < (x3_2.length : Int)) = true := decide_eq_true c11
                    (try (have c11b0l0 := c11b0; simp only [hl3_2] at c11b0l0))
                    clear c11
                    obtain ⟨y189, hy189⟩ : ∃ y_ : List Int, y_ = (x3_2.set (x11_2 : Int).toNat ((wrap64 (97 + (Int.tmod x11_2 26))) % 256)) := ⟨_, rfl⟩
                    replace H : (spec_l1fill.l0 k2 y189 (y186.length : Int) (wrap64 (x11_2 + 1))) = some r := by first | (rw [hy189]; with_reducible exact H) | (have H2_ := (Option.bind_some _ _).symm.trans H; rw [hy189]; with_reducible exact H2_) | (have H2_ := (Option.bind_some _ _).symm.trans H; with_reducible exact H2_) | with_reducible exact H | (rw [hy189]; exact H) | exact H
                    have Ny189 := Aside0.mk hy189
                    clear hy189
                    have H' := Aside0.mk H
                    clear H
                    have p12 : 0 ≤ (x11_2 : Int) := of_decide_eq_true (by first | (with_reducible assumption) | assumption)
                    have q12 : (x11_2 : Int) < ((x3_2.length : Int) : Int) := of_decide_eq_true (by first | (with_reducible assumption) | assumption)
                    obtain ⟨go12, co12, eo12, gb12, gl12, cl12, HG12⟩ := Kd.R_form HO_3.out (by omega)
                    (first | cases eo12 | (injection eo12 with ea_ en_ ec_; (first | subst ea_ | (injection ea_ with ea_; subst ea_)); subst ec_; clear en_))
                    have GB12 := Aside0.mk gb12
                    have GG12 := Aside0.mk HG12
                    clear gb12 gl12 HG12
                    obtain ⟨hx12_0, hf12_0⟩ := Kd.R_celln 0 HO_3.out (x11_2 : Int) p12 q12
                    replace p12 := eq_true p12
                    replace q12 := eq_true q12
                    have HP13 := Kd.R_putg HO_3.out (x11_2 : Int) ((wrap64 (97 + (Int.tmod x11_2 26))) % 256)
                    go_wp2_with (first | ((with_reducible refine gate_store (t := 5) (p := 20) rfl ?_); refine store_event (t := 5) (p := 20) (v := ?vo_w14) (w1 := (wr.setCell ⟨go12, (x11_2 : Int).toNat, none⟩ (.int .u8 ((wrap64 (97 + (Int.tmod x11_2 26))) % 256)))) ?hg ?ho ?hn ?hr ?_; (case ho => rfl); (case hg => rfl); (case hn => rfl); (case hr => first | (go_simp; done) | (go_simp; rfl)); intro w14 hw; have hg : wr.grownBy w14 (some go12) := (by rw [hw]; exact HP13.2); have hp_ : Kd.R (Kd.int .u8) 5 w14 w.heap.size (fun _ => True) (.slice (some ⟨go12, 0, none⟩) x3_2.length co8) y189 := (by rw [hw, Ny189.out]; exact HP13.1); clear HP13; have n0_ := Aside0.mk (hp_); have n1_ := Aside0.mk ((by rw [hw]; exact below_set (HB.out) GB12.out : Below w.heap.size w w14)); clear HO_3; clear HB; have HO_3 := n0_; have HB := n1_; clear n0_ n1_; clear hg hw hp_))
                    (try simp only [← hl3_2])
                    go_roundg k2
                    case measure => have := HJ1.out; have := HK2.out; omega
                    case rel => exact ⟨(y189), (wrap64 (x11_2 + 1)), (by first | rfl | (simp; done) | (simp [*]; done)), H', ⟨by have := HJ1.out; have := HK2.out; omega⟩, ⟨by (try simp only [hl3_2]); (with_reducible repeat (first | apply Kd.R_alloc | apply Kd.R_drewN | apply Kd.R_drew)); exact HO_3.out⟩, ⟨bq_⟩⟩
                  · rw [if_neg c11] at H
                    exact absurd H (by simp)
                · rw [if_neg c10] at H
                  exact absurd H (by simp)
              · rw [if_neg c9] at H
                have c9b0 : decide (x11_2 < (y186.length : Int)) = false := decide_eq_false c9
                (try (have c9b0l0 := c9b0; simp only [hl3_2] at c9b0l0))
                clear c9
                obtain rfl := Option.some.inj H
                have hcv15 := own_string (P := Tryd.prog) Tryd.underlying22 Tryd.underlying5 Tryd.underlying9 (Kd.own_of_R HO_3.out)
                go_wp2
                go_ret
                exact ⟨by first | rfl | (simp [errW_none, errW_some] <;> rfl) | (simp [*, errW_none, errW_some] <;> rfl), bq_⟩
        · rw [if_neg c5] at H
          exact absurd H (by simp)
      · rw [if_neg c4] at H
        exact absurd H (by simp)

/-! ### spec_DrawParseReply: function 38 -/
def spec_DrawParseReply.l0 : Nat → Int → ByteArray → Int → Option (ByteArray)
  | 0, _, _, _ => none
  | k + 1, x4, x5, x6 => if x6 < (wrap64 (50 + (Int.tmod x4 2))) then (if x5.size + 7 ≤ 9223372036854775807 then (spec_DrawParseReply.l0 k x4 (x5 ++ (⟨#[50, 53, 48, 45, 120, 13, 10]⟩ : ByteArray)) (wrap64 (x6 + 1))) else (none)) else (if x5.size + 7 ≤ 9223372036854775807 then (some (x5 ++ (⟨#[50, 53, 48, 32, 120, 13, 10]⟩ : ByteArray))) else (none))
def spec_DrawParseReply.f (k : Nat) (l0 : List Int) : Option (ByteArray) := (spec_l1rd_next.f l0 0).bind fun bt191 => ((spec_l1rd_l2reply.f k l0 bt191.2).bind fun bt193 => (if bt191.1 ≥ 250 then (spec_DrawParseReply.l0 k bt191.1 (⟨#[]⟩ : ByteArray) 1) else (if bt191.1 ≥ 244 then ((spec_l1fill.f k (wrap64 (506 + (Int.tmod bt191.1 2)))).bind fun t195 => (if 4 + t195.size ≤ 9223372036854775807 then (if 0 ≤ (Int.tmod bt191.1 3) then (if (Int.tmod bt191.1 3) ≤ 2 then (if ((⟨#[50, 53, 48, 32]⟩ : ByteArray) ++ t195).size + ((⟨#[13, 10]⟩ : ByteArray).extract 0 ((Int.tmod bt191.1 3) : Int).toNat).size ≤ 9223372036854775807 then (some (((⟨#[50, 53, 48, 32]⟩ : ByteArray) ++ t195) ++ ((⟨#[13, 10]⟩ : ByteArray).extract 0 ((Int.tmod bt191.1 3) : Int).toNat))) else (none)) else (none)) else (none)) else (none))) else (if (Int.tmod bt191.1 4) = 3 then ((spec_l1rd_next.f l0 bt193.2).bind fun bt196 => (if (wrap64 ((bt193.1.size : Int) + 1)) = 0 then (none) else (if 0 ≤ (Int.tmod bt196.1 (wrap64 ((bt193.1.size : Int) + 1))) then (if (Int.tmod bt196.1 (wrap64 ((bt193.1.size : Int) + 1))) ≤ (bt193.1.size : Int) then (some (bt193.1.extract 0 ((Int.tmod bt196.1 (wrap64 ((bt193.1.size : Int) + 1))) : Int).toNat)) else (none)) else (none)))) else (if (Int.tmod bt191.1 5) = 4 then ((spec_l1rd_l2spoil.f l0 bt193.2 bt193.1).bind fun bt198 => (some bt198.1)) else (if (Int.tmod bt191.1 3) = 2 then ((spec_l1rd_l2reply.f k l0 bt193.2).bind fun bt200 => (if bt193.1.size + bt200.1.size ≤ 9223372036854775807 then (some (bt193.1 ++ bt200.1)) else (none))) else (some bt193.1)))))))
theorem spec_DrawParseReply.mono_l : ∀ k, (∀ y0 y1 y2, LeO (spec_DrawParseReply.l0 k y0 y1 y2) (spec_DrawParseReply.l0 (k + 1) y0 y1 y2))
  | 0 => fun _ _ _ r h => by simp [spec_DrawParseReply.l0] at h
  | k + 1 => by
    have ih0 := spec_DrawParseReply.mono_l k
    · intro y0 y1 y2
      unfold spec_DrawParseReply.l0
      repeat' first
      | (with_reducible exact ih0 _ _ _)
      | (with_reducible exact spec_l1fill.mono _ _)
      | (with_reducible exact spec_l1rd_l2reply.mono _ _ _)
      | (with_reducible exact LeO.refl _)
      | (with_reducible exact LeO.none _)
      | (with_reducible refine LeO.ite ?_ ?_)
      | (with_reducible refine LeO.bind ?_ (fun _ => ?_))
      | exact ih0 _ _ _
      | exact spec_l1fill.mono _ _
      | exact spec_l1rd_l2reply.mono _ _ _
      | exact LeO.none _
      | refine LeO.ite ?_ ?_
      | refine LeO.bind ?_ (fun _ => ?_)
theorem spec_DrawParseReply.mono : ∀ a0 k, LeO (spec_DrawParseReply.f k a0) (spec_DrawParseReply.f (k + 1) a0) := by
  intro a0 k
  have ih0 := spec_DrawParseReply.mono_l k
  unfold spec_DrawParseReply.f
  repeat' first
      | (with_reducible exact ih0 _ _ _)
      | (with_reducible exact spec_l1fill.mono _ _)
      | (with_reducible exact spec_l1rd_l2reply.mono _ _ _)
      | (with_reducible exact LeO.refl _)
      | (with_reducible exact LeO.none _)
      | (with_reducible refine LeO.ite ?_ ?_)
      | (with_reducible refine LeO.bind ?_ (fun _ => ?_))
      | exact ih0 _ _ _
      | exact spec_l1fill.mono _ _
      | exact spec_l1rd_l2reply.mono _ _ _
      | exact LeO.none _
      | refine LeO.ite ?_ ?_
      | refine LeO.bind ?_ (fun _ => ?_)
def spec_DrawParseReply.T12 : Bool × List (List Nat × List Nat) := (true, [([], []), ([0], [0]), ([1], [1]), ([2], [2]), ([3], [3]), ([], []), ([5], [5]), ([6], [6]), ([4, 7], [4, 7]), ([8, 3, 0, 1, 2, 3, 4, 5, 6, 7, 8], [8])])
def spec_DrawParseReply.B12 : List Nat := [0, 1, 3, 7, 15, 0, 32, 96, 255, 511]
theorem spec_DrawParseReply.tab12 : rtab .any (opsOf Tryd.f38 12) = spec_DrawParseReply.T12 := by kernel_rfl
theorem spec_DrawParseReply.bits12 : waitsOk spec_DrawParseReply.T12.2 spec_DrawParseReply.B12 = true := by kernel_rfl
set_option maxHeartbeats 8000000 in
set_option maxRecDepth 100000 in
theorem spec_DrawParseReply.calls (k : Nat) (A0 : Option Addr) (c0 : Nat) (l0 : List Int) (r : ByteArray) (w : World) (hr0 : Kd.C (Kd.int .u8) w A0 l0.length l0) (hc0 : l0.length ≤ c0) (h : spec_DrawParseReply.f k l0 = some r) :
    Calls Tryd.prog 38 #[.slice A0 l0.length c0] w fun e w' => e = .returned (.string r) ∧ Below w.heap.size w w' := by
  have hu72 := Tryd.underlying72
  have HR0 := Aside0.mk hr0
  have HC0 := Aside0.mk hc0
  clear hr0 hc0
  have HB := Aside0.mk (Below.refl w.heap.size w)
  have H : ((spec_l1rd_next.f l0 0).bind fun bt191 => ((spec_l1rd_l2reply.f k l0 bt191.2).bind fun bt193 => (if bt191.1 ≥ 250 then (spec_DrawParseReply.l0 k bt191.1 (⟨#[]⟩ : ByteArray) 1) else (if bt191.1 ≥ 244 then ((spec_l1fill.f k (wrap64 (506 + (Int.tmod bt191.1 2)))).bind fun t195 => (if 4 + t195.size ≤ 9223372036854775807 then (if 0 ≤ (Int.tmod bt191.1 3) then (if (Int.tmod bt191.1 3) ≤ 2 then (if ((⟨#[50, 53, 48, 32]⟩ : ByteArray) ++ t195).size + ((⟨#[13, 10]⟩ : ByteArray).extract 0 ((Int.tmod bt191.1 3) : Int).toNat).size ≤ 9223372036854775807 then (some (((⟨#[50, 53, 48, 32]⟩ : ByteArray) ++ t195) ++ ((⟨#[13, 10]⟩ : ByteArray).extract 0 ((Int.tmod bt191.1 3) : Int).toNat))) else (none)) else (none)) else (none)) else (none))) else (if (Int.tmod bt191.1 4) = 3 then ((spec_l1rd_next.f l0 bt193.2).bind fun bt196 => (if (wrap64 ((bt193.1.size : Int) + 1)) = 0 then (none) else (if 0 ≤ (Int.tmod bt196.1 (wrap64 ((bt193.1.size : Int) + 1))) then (if (Int.tmod bt196.1 (wrap64 ((bt193.1.size : Int) + 1))) ≤ (bt193.1.size : Int) then (some (bt193.1.extract 0 ((Int.tmod bt196.1 (wrap64 ((bt193.1.size : Int) + 1))) : Int).toNat)) else (none)) else (none)))) else (if (Int.tmod bt191.1 5) = 4 then ((spec_l1rd_l2spoil.f l0 bt193.2 bt193.1).bind fun bt198 => (some bt198.1)) else (if (Int.tmod bt191.1 3) = 2 then ((spec_l1rd_l2reply.f k l0 bt193.2).bind fun bt200 => (if bt193.1.size + bt200.1.size ≤ 9223372036854775807 then (some (bt193.1 ++ bt200.1)) else (none))) else (some bt193.1)))))))) = some r := h
  clear h
  replace H := Option.bind_eq_some_iff.mp H
  obtain ⟨⟨t191, t192⟩, A20, H⟩ := H
  replace H : ((spec_l1rd_l2reply.f k l0 t192).bind fun bt193 => (if t191 ≥ 250 then (spec_DrawParseReply.l0 k t191 (⟨#[]⟩ : ByteArray) 1) else (if t191 ≥ 244 then ((spec_l1fill.f k (wrap64 (506 + (Int.tmod t191 2)))).bind fun t195 => (if 4 + t195.size ≤ 9223372036854775807 then (if 0 ≤ (Int.tmod t191 3) then (if (Int.tmod t191 3) ≤ 2 then (if ((⟨#[50, 53, 48, 32]⟩ : ByteArray) ++ t195).size + ((⟨#[13, 10]⟩ : ByteArray).extract 0 ((Int.tmod t191 3) : Int).toNat).size ≤ 9223372036854775807 then (some (((⟨#[50, 53, 48, 32]⟩ : ByteArray) ++ t195) ++ ((⟨#[13, 10]⟩ : ByteArray).extract 0 ((Int.tmod t191 3) : Int).toNat))) else (none)) else (none)) else (none)) else (none))) else (if (Int.tmod t191 4) = 3 then ((spec_l1rd_next.f l0 bt193.2).bind fun bt196 => (if (wrap64 ((bt193.1.size : Int) + 1)) = 0 then (none) else (if 0 ≤ (Int.tmod bt196.1 (wrap64 ((bt193.1.size : Int) + 1))) then (if (Int.tmod bt196.1 (wrap64 ((bt193.1.size : Int) + 1))) ≤ (bt193.1.size : Int) then (some (bt193.1.extract 0 ((Int.tmod bt196.1 (wrap64 ((bt193.1.size : Int) + 1))) : Int).toNat)) else (none)) else (none)))) else (if (Int.tmod t191 5) = 4 then ((spec_l1rd_l2spoil.f l0 bt193.2 bt193.1).bind fun bt198 => (some bt198.1)) else (if (Int.tmod t191 3) = 2 then ((spec_l1rd_l2reply.f k l0 bt193.2).bind fun bt200 => (if bt193.1.size + bt200.1.size ≤ 9223372036854775807 then (some (bt193.1 ++ bt200.1)) else (none))) else (some bt193.1))))))) = some r := H
  have A2 := Aside0.mk A20
  clear A20
  replace H := Option.bind_eq_some_iff.mp H
  obtain ⟨⟨t193, t194⟩, A30, H⟩ := H
  replace H : (if t191 ≥ 250 then (spec_DrawParseReply.l0 k t191 (⟨#[]⟩ : ByteArray) 1) else (if t191 ≥ 244 then ((spec_l1fill.f k (wrap64 (506 + (Int.tmod t191 2)))).bind fun t195 => (if 4 + t195.size ≤ 9223372036854775807 then (if 0 ≤ (Int.tmod t191 3) then (if (Int.tmod t191 3) ≤ 2 then (if ((⟨#[50, 53, 48, 32]⟩ : ByteArray) ++ t195).size + ((⟨#[13, 10]⟩ : ByteArray).extract 0 ((Int.tmod t191 3) : Int).toNat).size ≤ 9223372036854775807 then (some (((⟨#[50, 53, 48, 32]⟩ : ByteArray) ++ t195) ++ ((⟨#[13, 10]⟩ : ByteArray).extract 0 ((Int.tmod t191 3) : Int).toNat))) else (none)) else (none)) else (none)) else (none))) else (if (Int.tmod t191 4) = 3 then ((spec_l1rd_next.f l0 t194).bind fun bt196 => (if (wrap64 ((t193.size : Int) + 1)) = 0 then (none) else (if 0 ≤ (Int.tmod bt196.1 (wrap64 ((t193.size : Int) + 1))) then (if (Int.tmod bt196.1 (wrap64 ((t193.size : Int) + 1))) ≤ (t193.size : Int) then (some (t193.extract 0 ((Int.tmod bt196.1 (wrap64 ((t193.size : Int) + 1))) : Int).toNat)) else (none)) else (none)))) else (if (Int.tmod t191 5) = 4 then ((spec_l1rd_l2spoil.f l0 t194 t193).bind fun bt198 => (some bt198.1)) else (if (Int.tmod t191 3) = 2 then ((spec_l1rd_l2reply.f k l0 t194).bind fun bt200 => (if t193.size + bt200.1.size ≤ 9223372036854775807 then (some (t193 ++ bt200.1)) else (none))) else (some t193)))))) = some r := H
  have A3 := Aside0.mk A30
  clear A30
  by_cases c4 : t191 ≥ 250
  · rw [if_pos c4] at H
    have c4b0 : decide (250 ≤ t191) = true := decide_eq_true c4
    clear c4
    have H' := Aside0.mk H
    clear H
    go_enter Tryd.func38, Tryd.ntmps38
    go_wp2_with (first | ((with_reducible refine gate_dst (N := 9) rfl ?_); refine box_event ?hg (N := 9) ?hd (cs := #[.slice A0 l0.length c0, .int .i64 0]) (t := 72) ?hr ?_; (case hd => rfl); (case hg => rfl); (case hr => first | (go_simp; done) | (go_simp; rfl)); intro gb190 hg w5 hbox hb; have n0_ := Aside0.mk (below_step (bq_) hb); have n1_ := Aside0.mk ((show IsS72 w w5 gb190 l0 0 from ⟨_, _, hbox, (by rw [hg]; exact (below_size (bq_)) : w.heap.size ≤ gb190), HR0.out⟩)); clear HB; have HB := n0_; have HI190 := n1_; clear n0_ n1_; clear hb hbox hg) | ((with_reducible refine gate_callee (f := 45) rfl ?_); refine goesL_ (some 11) rfl rfl Tryd.func45 (by kernel_rfl) rfl #[.pointer (some ⟨gb190, 0, none⟩)] rfl (by (try simp only [List.map_toArray, List.map_cons, List.map_nil]); first | done | rfl | (simp only [List.length_drop, List.length_take]; rfl)) ?_; (with_reducible refine (spec_l1rd_next.calls gb190 l0 0 t191 t192 w _ ?side1 ?side2 A2.out).mono ?_); (case side1 => repeat (first | (with_reducible first | exact HI190.out | apply IsS72.alloc | apply IsS72.drewN | apply IsS72.drew | apply IsS72.set_1) | exact HI190.out)); (case side2 => repeat (first | (with_reducible first | exact HB.out | apply below_alloc | apply pw_below_drewN | apply below_drew1 | refine below_set ?_ (IsS72.ge HI190.out)) | exact HB.out)); rintro e w6 ⟨rfl, hi, hb, hk⟩; refine ⟨_, rfl, ?_⟩; have n0_ := Aside0.mk (hb); have n1_ := Aside0.mk (hi); clear HB; clear HI190; have HB := n0_; have HI190 := n1_; clear n0_ n1_; (try clear hb); (try clear hb2); (try clear hk); (try clear hi)) | ((with_reducible refine gate_callee (f := 84) rfl ?_); refine goesL_ (some 13) rfl rfl Tryd.func84 (by kernel_rfl) rfl #[.pointer (some ⟨gb190, 0, none⟩)] rfl (by (try simp only [List.map_toArray, List.map_cons, List.map_nil]); first | done | rfl | (simp only [List.length_drop, List.length_take]; rfl)) ?_; (with_reducible refine (spec_l1rd_l2reply.calls k gb190 l0 t192 t193 t194 w _ ?side1 ?side2 A3.out).mono ?_); (case side1 => repeat (first | (with_reducible first | exact HI190.out | apply IsS72.alloc | apply IsS72.drewN | apply IsS72.drew | apply IsS72.set_1) | exact HI190.out)); (case side2 => repeat (first | (with_reducible first | exact HB.out | apply below_alloc | apply pw_below_drewN | apply below_drew1 | refine below_set ?_ (IsS72.ge HI190.out)) | exact HB.out)); rintro e w7 ⟨rfl, hi, hb, hk⟩; refine ⟨_, rfl, ?_⟩; have n0_ := Aside0.mk (hb); have n1_ := Aside0.mk (hi); clear HB; clear HI190; have HB := n0_; have HI190 := n1_; clear n0_ n1_; (try clear hb); (try clear hb2); (try clear hk); (try clear hi)))
    go_loopg [5, 6] k (fun kq v5 v6 w' => ∃ (x5_1 : ByteArray) (x6_1 : Int), v5 = .string x5_1 ∧ v6 = .int .i64 x6_1 ∧ Aside0 (spec_DrawParseReply.l0 kq t191 x5_1 x6_1 = some r) ∧ Aside0 (kq ≤ k) ∧ Aside0 (Below w.heap.size w w'))
    case atStart => exact ⟨((⟨#[]⟩ : ByteArray)), (1), (by first | rfl | (simp; done) | (simp [*]; done)), (by first | rfl | (simp; done) | (simp [*]; done)), H', ⟨Nat.le_refl _⟩, ⟨by repeat (first | (with_reducible first | exact HB.out | apply below_alloc | apply pw_below_drewN | apply below_drew1 | refine below_set ?_ (IsS72.ge HI190.out)) | exact HB.out)⟩⟩
    case round =>
      clear H'
      try clear p2
      try clear c3
      try clear c4
      try clear c4b0
      try clear p6
      obtain ⟨x5_1, x6_1, rfl, rfl, HA, HK1, HB⟩ := hrel
      cases gk with
      | zero => exact absurd HA.out (by simp [spec_DrawParseReply.l0])
      | succ k1 =>
        have H := HA.out
        clear HA
        simp only [spec_DrawParseReply.l0] at H
        by_cases c8 : x6_1 < (wrap64 (50 + (Int.tmod t191 2)))
        · rw [if_pos c8] at H
          have c8b0 : decide (x6_1 < (wrap64 (50 + (Int.tmod t191 2)))) = true := decide_eq_true c8
          clear c8
          by_cases c9 : x5_1.size + 7 ≤ 9223372036854775807
          · rw [if_pos c9] at H
            have c9b0 := eq_true c9
            have c9b1 : decide (x5_1.size + 7 ≤ 9223372036854775807) = true := decide_eq_true c9
            try have c9b2 : (9223372036854775807 < x5_1.size + 7) = False := eq_false (Nat.not_lt.2 c9)
            have H' := Aside0.mk H
            clear H
            go_wp2
            go_roundg k1
            case measure => have := HK1.out; omega
            case rel => exact ⟨(x5_1 ++ (⟨#[50, 53, 48, 45, 120, 13, 10]⟩ : ByteArray)), (wrap64 (x6_1 + 1)), (by first | rfl | (simp; done) | (simp [*]; done)), (by first | rfl | (simp; done) | (simp [*]; done)), H', ⟨by have := HK1.out; omega⟩, ⟨bq_⟩⟩
          · rw [if_neg c9] at H
            exact absurd H (by simp)
        · rw [if_neg c8] at H
          have c8b0 : decide (x6_1 < (wrap64 (50 + (Int.tmod t191 2)))) = false := decide_eq_false c8
          clear c8
          by_cases c10 : x5_1.size + 7 ≤ 9223372036854775807
          · rw [if_pos c10] at H
            have c10b0 := eq_true c10
            have c10b1 : decide (x5_1.size + 7 ≤ 9223372036854775807) = true := decide_eq_true c10
            try have c10b2 : (9223372036854775807 < x5_1.size + 7) = False := eq_false (Nat.not_lt.2 c10)
            obtain rfl := Option.some.inj H
            go_wp2
            go_ret
            exact ⟨by first | rfl | (simp [errW_none, errW_some] <;> rfl) | (simp [*, errW_none, errW_some] <;> rfl), bq_⟩
          · rw [if_neg c10] at H
            exact absurd H (by simp)
  · rw [if_neg c4] at H
    have c4b0 : decide (250 ≤ t191) = false := decide_eq_false c4
    clear c4
    by_cases c11 : t191 ≥ 244
    · rw [if_pos c11] at H
      have c11b0 : decide (244 ≤ t191) = true := decide_eq_true c11
      clear c11
      replace H := Option.bind_eq_some_iff.mp H
      obtain ⟨t195, A120, H⟩ := H
      replace H : (if 4 + t195.size ≤ 9223372036854775807 then (if 0 ≤ (Int.tmod t191 3) then (if (Int.tmod t191 3) ≤ 2 then (if ((⟨#[50, 53, 48, 32]⟩ : ByteArray) ++ t195).size + ((⟨#[13, 10]⟩ : ByteArray).extract 0 ((Int.tmod t191 3) : Int).toNat).size ≤ 9223372036854775807 then (some (((⟨#[50, 53, 48, 32]⟩ : ByteArray) ++ t195) ++ ((⟨#[13, 10]⟩ : ByteArray).extract 0 ((Int.tmod t191 3) : Int).toNat))) else (none)) else (none)) else (none)) else (none)) = some r := H
      have A12 := Aside0.mk A120
      clear A120
      by_cases c13 : 4 + t195.size ≤ 9223372036854775807
      · rw [if_pos c13] at H
        have c13b0 := eq_true c13
        have c13b1 : decide (4 + t195.size ≤ 9223372036854775807) = true := decide_eq_true c13
        try have c13b2 : (9223372036854775807 < 4 + t195.size) = False := eq_false (Nat.not_lt.2 c13)
        obtain ⟨ji14, hji14⟩ : ∃ j_ : Int, (Int.tmod t191 3) = j_ := ⟨_, rfl⟩
        replace H : (if 0 ≤ (ji14) then (if (ji14) ≤ 2 then (if ((⟨#[50, 53, 48, 32]⟩ : ByteArray) ++ t195).size + ((⟨#[13, 10]⟩ : ByteArray).extract 0 ((ji14) : Int).toNat).size ≤ 9223372036854775807 then (some (((⟨#[50, 53, 48, 32]⟩ : ByteArray) ++ t195) ++ ((⟨#[13, 10]⟩ : ByteArray).extract 0 ((ji14) : Int).toNat))) else (none)) else (none)) else (none)) = some r := by first | (rw [hji14] at H; exact H) | (simp only [hji14] at H ⊢; exact H)
        (try rw [hji14] at A2)
        (try rw [hji14] at A3)
        (try rw [hji14] at A12)
        by_cases c15 : 0 ≤ (ji14)
        · rw [if_pos c15] at H
          have c15b0 := eq_true c15
          have c15b1 : decide (0 ≤ (ji14)) = true := decide_eq_true c15
          clear c15
          by_cases c16 : (ji14) ≤ 2
          · rw [if_pos c16] at H
            have c16b0 := eq_true c16
            have c16b1 : decide ((ji14) ≤ 2) = true := decide_eq_true c16
            clear c16
            by_cases c17 : ((⟨#[50, 53, 48, 32]⟩ : ByteArray) ++ t195).size + ((⟨#[13, 10]⟩ : ByteArray).extract 0 ((ji14) : Int).toNat).size ≤ 9223372036854775807
            · rw [if_pos c17] at H
              have c17b0 := eq_true c17
              have c17b1 : decide (((⟨#[50, 53, 48, 32]⟩ : ByteArray) ++ t195).size + ((⟨#[13, 10]⟩ : ByteArray).extract 0 ((ji14) : Int).toNat).size ≤ 9223372036854775807) = true := decide_eq_true c17
              try have c17b2 : (9223372036854775807 < ((⟨#[50, 53, 48, 32]⟩ : ByteArray) ++ t195).size + ((⟨#[13, 10]⟩ : ByteArray).extract 0 ((ji14) : Int).toNat).size) = False := eq_false (Nat.not_lt.2 c17)
              try have c17b3 := c17b2
              try simp only [ByteArray.size_append, ByteArray.size_extract, Nat.min_self, Nat.sub_zero, show (⟨#[13, 10]⟩ : ByteArray).size = 2 from rfl, show (⟨#[50, 53, 48, 32]⟩ : ByteArray).size = 4 from rfl] at c17b3
              try have c17b4 := c17b3
              try simp only [Nat.min_eq_left (show (ji14).toNat ≤ 2 by have q_ := of_eq_true (show (ji14 ≤ 2) = True by assumption); omega)] at c17b4
              obtain rfl := Option.some.inj H
              go_enter Tryd.func38, Tryd.ntmps38
              try go_wp2_with (first | ((with_reducible refine gate_dst (N := 9) rfl ?_); refine box_event ?hg (N := 9) ?hd (cs := #[.slice A0 l0.length c0, .int .i64 0]) (t := 72) ?hr ?_; (case hd => rfl); (case hg => rfl); (case hr => first | (go_simp; done) | (go_simp; rfl)); intro gb190 hg w18 hbox hb; have n0_ := Aside0.mk (below_step (bq_) hb); have n1_ := Aside0.mk ((show IsS72 w w18 gb190 l0 0 from ⟨_, _, hbox, (by rw [hg]; exact (below_size (bq_)) : w.heap.size ≤ gb190), HR0.out⟩)); clear HB; have HB := n0_; have HI190 := n1_; clear n0_ n1_; clear hb hbox hg) | ((with_reducible refine gate_callee (f := 45) rfl ?_); refine goesL_ (some 11) rfl rfl Tryd.func45 (by kernel_rfl) rfl #[.pointer (some ⟨gb190, 0, none⟩)] rfl (by (try simp only [List.map_toArray, List.map_cons, List.map_nil]); first | done | rfl | (simp only [List.length_drop, List.length_take]; rfl)) ?_; (with_reducible refine (spec_l1rd_next.calls gb190 l0 0 t191 t192 w _ ?side1 ?side2 A2.out).mono ?_); (case side1 => repeat (first | (with_reducible first | exact HI190.out | apply IsS72.alloc | apply IsS72.drewN | apply IsS72.drew | apply IsS72.set_1) | exact HI190.out)); (case side2 => repeat (first | (with_reducible first | exact HB.out | apply below_alloc | apply pw_below_drewN | apply below_drew1 | refine below_set ?_ (IsS72.ge HI190.out)) | exact HB.out)); rintro e w19 ⟨rfl, hi, hb, hk⟩; refine ⟨_, rfl, ?_⟩; have n0_ := Aside0.mk (hb); have n1_ := Aside0.mk (hi); clear HB; clear HI190; have HB := n0_; have HI190 := n1_; clear n0_ n1_; (try clear hb); (try clear hb2); (try clear hk); (try clear hi)) | ((with_reducible refine gate_callee (f := 84) rfl ?_); refine goesL_ (some 13) rfl rfl Tryd.func84 (by kernel_rfl) rfl #[.pointer (some ⟨gb190, 0, none⟩)] rfl (by (try simp only [List.map_toArray, List.map_cons, List.map_nil]); first | done | rfl | (simp only [List.length_drop, List.length_take]; rfl)) ?_; (with_reducible refine (spec_l1rd_l2reply.calls k gb190 l0 t192 t193 t194 w _ ?side1 ?side2 A3.out).mono ?_); (case side1 => repeat (first | (with_reducible first | exact HI190.out | apply IsS72.alloc | apply IsS72.drewN | apply IsS72.drew | apply IsS72.set_1) | exact HI190.out)); (case side2 => repeat (first | (with_reducible first | exact HB.out | apply below_alloc | apply pw_below_drewN | apply below_drew1 | refine below_set ?_ (IsS72.ge HI190.out)) | exact HB.out)); rintro e w20 ⟨rfl, hi, hb, hk⟩; refine ⟨_, rfl, ?_⟩; have n0_ := Aside0.mk (hb); have n1_ := Aside0.mk (hi); clear HB; clear HI190; have HB := n0_; have HI190 := n1_; clear n0_ n1_; (try clear hb); (try clear hb2); (try clear hk); (try clear hi)))
              have n0_ := Aside0.mk (IsS72.drew HI190.out)
              have n1_ := Aside0.mk (below_drew1 HB.out)
              clear HI190
              clear HB
              have HI190 := n0_
              have HB := n1_
              clear n0_ n1_
              refine start_ (n := 10) (S := fun w' => True) (ds := []) #[false, false, false, false, false, false, false, false, false, false] (by kernel_rfl) rfl rfl trivial (fun hHeld => ?_); refine with_tabW spec_DrawParseReply.tab12 spec_DrawParseReply.bits12 (fun HT_ HW_ => ?_)
              generalize w20.drew = w21 at HI190 HB hHeld ⊢
              refine pure_ (i := 0) (N := some 31) (v := ?_) (a' := ?_) #[true, false, false, false, false, false, false, false, false, false] rfl rfl (any_of HT_.out (by kernel_rfl)) (fun _ _ _ h => h) (Or.inl ⟨by rfl, ?_⟩) ?_ ?_
              rotate_left
              · intro w'
                go_simp
                with_reducible rfl
              rotate_left
              · simp only [Act.put, List.setIfInBounds_toArray, List.set_cons_zero, List.set_cons_succ, i64_w, i32_w]
                rfl
              refine pure_ (i := 1) (N := some 32) (v := ?_) (a' := ?_) #[true, true, false, false, false, false, false, false, false, false] rfl rfl (any_of HT_.out (by kernel_rfl)) (fun _ _ _ h => h) (Or.inl ⟨by rfl, ?_⟩) ?_ ?_
              rotate_left
              · intro w'
                go_simp
                with_reducible rfl
              rotate_left
              · simp only [Act.put, List.setIfInBounds_toArray, List.set_cons_zero, List.set_cons_succ, i64_w, i32_w]
                rfl
              refine pure_ (i := 2) (N := some 33) (v := ?_) (a' := ?_) #[true, true, true, false, false, false, false, false, false, false] rfl rfl (any_of HT_.out (by kernel_rfl)) (fun _ _ _ h => h) (Or.inl ⟨by rfl, ?_⟩) ?_ ?_
              rotate_left
              · intro w'
                go_simp
                with_reducible rfl
              rotate_left
              · simp only [Act.put, List.setIfInBounds_toArray, List.set_cons_zero, List.set_cons_succ, i64_w, i32_w]
                rfl
              refine pure_ (i := 5) (N := some 36) (v := ?_) (a' := ?_) #[true, true, true, false, false, true, false, false, false, false] rfl rfl (any_of HT_.out (by kernel_rfl)) (fun _ _ _ h => h) (Or.inl ⟨by rfl, ?_⟩) ?_ ?_
              rotate_left
              · intro w'
                go_simp
                with_reducible rfl
              rotate_left
              · simp only [Act.put, List.setIfInBounds_toArray, List.set_cons_zero, List.set_cons_succ, i64_w, i32_w]
                rfl
              refine pure_ (i := 6) (N := some 37) (v := ?_) (a' := ?_) #[true, true, true, false, false, true, true, false, false, false] rfl rfl (any_of HT_.out (by kernel_rfl)) (fun _ _ _ h => h) (Or.inl ⟨by rfl, ?_⟩) ?_ ?_
              rotate_left
              · intro w'
                go_simp
                with_reducible rfl
              rotate_left
              · simp only [Act.put, List.setIfInBounds_toArray, List.set_cons_zero, List.set_cons_succ, i64_w, i32_w]
                rfl
              refine pure_ (i := 7) (N := some 38) (v := ?_) (a' := ?_) #[true, true, true, false, false, true, true, true, false, false] rfl rfl (any_of HT_.out (by kernel_rfl)) (fun _ _ _ h => h) (Or.inl ⟨by rfl, ?_⟩) ?_ ?_
              rotate_left
              · intro w'
                go_simp
                with_reducible rfl
              rotate_left
              · simp only [Act.put, List.setIfInBounds_toArray, List.set_cons_zero, List.set_cons_succ, i64_w, i32_w]
                rfl
              refine one_ (i := 3) (N := some 34) #[true, true, true, true, false, true, true, true, false, false] rfl rfl (one_of HT_.out (by kernel_rfl)) (by decide) (fun K hK => ?_)
              refine goes_ Tryd.func85 (by kernel_rfl) rfl #[.int .i64 (wrap64 (506 + (Int.tmod t191 2)))] (by rfl) rfl rfl (by (try simp only [List.map_toArray, List.map_cons, List.map_nil]); first | done | rfl | (simp only [List.length_drop, List.length_take]; rfl)) ?_
              with_reducible refine (spec_l1fill.calls k (wrap64 (506 + (Int.tmod t191 2))) t195 _ A12.out).mono ?_
              rintro e w22 ⟨rfl, hb⟩
              refine ⟨_, rfl, ?_⟩
              have n0_ := Aside0.mk (IsS72.below (by repeat (first | (with_reducible first | exact HI190.out | apply IsS72.alloc | apply IsS72.drewN | apply IsS72.drew | apply IsS72.set_1) | exact HI190.out)) hb)
              have n1_ := Aside0.mk (below_step (by repeat (first | (with_reducible first | exact HB.out | apply below_alloc | apply pw_below_drewN | apply below_drew1 | refine below_set ?_ (IsS72.ge HI190.out)) | exact HB.out)) hb)
              clear HI190
              clear HB
              have HI190 := n0_
              have HB := n1_
              clear n0_ n1_
              (try clear hb)
              (try clear hb2)
              (try clear hk)
              (try clear hi)
              refine hK.out _ _ trivial (fun hHeld => ?_)
              clear hK K
              refine norm_ (a' := ?_) ?_ ?_
              rotate_left
              · show Act.put _ (some 34) _ = _
                simp only [Act.put, List.setIfInBounds_toArray, List.set_cons_zero, List.set_cons_succ, i64_w, i32_w]
                rfl
              refine pure_ (i := 4) (N := some 35) (v := ?_) (a' := ?_) #[true, true, true, true, true, true, true, true, false, false] rfl rfl (any_of HT_.out (by kernel_rfl)) (fun _ _ _ h => h) (Or.inl ⟨by rfl, ?_⟩) ?_ ?_
              rotate_left
              · intro w'
                go_simp
                with_reducible rfl
              rotate_left
              · simp only [Act.put, List.setIfInBounds_toArray, List.set_cons_zero, List.set_cons_succ, i64_w, i32_w]
                rfl
              refine pure_ (i := 8) (N := some 39) (v := ?_) (a' := ?_) #[true, true, true, true, true, true, true, true, true, false] rfl rfl (any_of HT_.out (by kernel_rfl)) (fun _ _ _ h => h) (Or.inl ⟨by rfl, ?_⟩) ?_ ?_
              rotate_left
              · intro w'
                go_simp
                with_reducible rfl
              rotate_left
              · simp only [Act.put, List.setIfInBounds_toArray, List.set_cons_zero, List.set_cons_succ, i64_w, i32_w]
                rfl
              refine pure_ (i := 9) (N := some 2) (v := ?_) (a' := ?_) #[true, true, true, true, true, true, true, true, true, true] rfl rfl (any_of HT_.out (by kernel_rfl)) (fun _ _ _ h => h) (Or.inl ⟨by rfl, ?_⟩) ?_ ?_
              rotate_left
              · intro w'
                go_simp
                with_reducible rfl
              rotate_left
              · simp only [Act.put, List.setIfInBounds_toArray, List.set_cons_zero, List.set_cons_succ, i64_w, i32_w]
                rfl
              refine done_ (done_of HT_.out (by kernel_rfl)) ?_
              try go_wp2
              go_ret
              exact ⟨by first | rfl | (simp [errW_none, errW_some] <;> rfl) | (simp only [← hji14]; first | rfl | (simp [errW_none, errW_some] <;> rfl)) | (simp [*, errW_none, errW_some] <;> rfl), by repeat (first | (with_reducible first | exact HB.out | apply below_alloc | apply pw_below_drewN | apply below_drew1 | refine below_set ?_ (IsS72.ge HI190.out)) | exact HB.out)⟩
            · rw [if_neg c17] at H
              exact absurd H (by simp)
          · rw [if_neg c16] at H
            exact absurd H (by simp)
        · rw [if_neg c15] at H
          exact absurd H (by simp)
      · rw [if_neg c13] at H
        exact absurd H (by simp)
    · rw [if_neg c11] at H
      have c11b0 : decide (244 ≤ t191) = false := decide_eq_false c11
      clear c11
      by_cases c23 : (Int.tmod t191 4) = 3
      · rw [if_pos c23] at H
        have c23b0 : ((Int.tmod t191 4) == 3) = true := beq_iff_eq.mpr c23
        have c23b1 : ((Int.tmod t191 4) != 3) = false := bne_eq_false_iff_eq.mpr c23
        clear c23
        replace H := Option.bind_eq_some_iff.mp H
        obtain ⟨⟨t196, t197⟩, A240, H⟩ := H
        replace H : (if (wrap64 ((t193.size : Int) + 1)) = 0 then (none) else (if 0 ≤ (Int.tmod t196 (wrap64 ((t193.size : Int) + 1))) then (if (Int.tmod t196 (wrap64 ((t193.size : Int) + 1))) ≤ (t193.size : Int) then (some (t193.extract 0 ((Int.tmod t196 (wrap64 ((t193.size : Int) + 1))) : Int).toNat)) else (none)) else (none))) = some r := H
        have A24 := Aside0.mk A240
        clear A240
        by_cases c25 : (wrap64 ((t193.size : Int) + 1)) = 0
        · rw [if_pos c25] at H
          exact absurd H (by simp)
        · rw [if_neg c25] at H
          have c25b0 : ((wrap64 ((t193.size : Int) + 1)) == 0) = false := beq_eq_false_iff_ne.mpr c25
          have c25b1 : ((wrap64 ((t193.size : Int) + 1)) != 0) = true := bne_iff_ne.mpr c25
          obtain ⟨ji26, hji26⟩ : ∃ j_ : Int, (Int.tmod t196 (wrap64 ((t193.size : Int) + 1))) = j_ := ⟨_, rfl⟩
          replace H : (if 0 ≤ (ji26) then (if (ji26) ≤ (t193.size : Int) then (some (t193.extract 0 ((ji26) : Int).toNat)) else (none)) else (none)) = some r := by first | (rw [hji26] at H; exact H) | (simp only [hji26] at H ⊢; exact H)
          (try rw [hji26] at A2)
          (try rw [hji26] at A3)
          (try rw [hji26] at A24)
          by_cases c27 : 0 ≤ (ji26)
          · rw [if_pos c27] at H
            have c27b0 := eq_true c27
            have c27b1 : decide (0 ≤ (ji26)) = true := decide_eq_true c27
            clear c27
            by_cases c28 : (ji26) ≤ (t193.size : Int)
            · rw [if_pos c28] at H
              have c28b0 := eq_true c28
              have c28b1 : decide ((ji26) ≤ (t193.size : Int)) = true := decide_eq_true c28
              clear c28
              obtain rfl := Option.some.inj H
              go_enter Tryd.func38, Tryd.ntmps38
              go_wp2_with (first | ((with_reducible refine gate_dst (N := 9) rfl ?_); refine box_event ?hg (N := 9) ?hd (cs := #[.slice A0 l0.length c0, .int .i64 0]) (t := 72) ?hr ?_; (case hd => rfl); (case hg => rfl); (case hr => first | (go_simp; done) | (go_simp; rfl)); intro gb190 hg w29 hbox hb; have n0_ := Aside0.mk (below_step (bq_) hb); have n1_ := Aside0.mk ((show IsS72 w w29 gb190 l0 0 from ⟨_, _, hbox, (by rw [hg]; exact (below_size (bq_)) : w.heap.size ≤ gb190), HR0.out⟩)); clear HB; have HB := n0_; have HI190 := n1_; clear n0_ n1_; clear hb hbox hg) | ((with_reducible refine gate_callee (f := 45) rfl ?_); refine goesL_ (some 11) rfl rfl Tryd.func45 (by kernel_rfl) rfl #[.pointer (some ⟨gb190, 0, none⟩)] rfl (by (try simp only [List.map_toArray, List.map_cons, List.map_nil]); first | done | rfl | (simp only [List.length_drop, List.length_take]; rfl)) ?_; (with_reducible refine (spec_l1rd_next.calls gb190 l0 0 t191 t192 w _ ?side1 ?side2 A2.out).mono ?_); (case side1 => repeat (first | (with_reducible first | exact HI190.out | apply IsS72.alloc | apply IsS72.drewN | apply IsS72.drew | apply IsS72.set_1) | exact HI190.out)); (case side2 => repeat (first | (with_reducible first | exact HB.out | apply below_alloc | apply pw_below_drewN | apply below_drew1 | refine below_set ?_ (IsS72.ge HI190.out)) | exact HB.out)); rintro e w30 ⟨rfl, hi, hb, hk⟩; refine ⟨_, rfl, ?_⟩; have n0_ := Aside0.mk (hb); have n1_ := Aside0.mk (hi); clear HB; clear HI190; have HB := n0_; have HI190 := n1_; clear n0_ n1_; (try clear hb); (try clear hb2); (try clear hk); (try clear hi)) | ((with_reducible refine gate_callee (f := 84) rfl ?_); refine goesL_ (some 13) rfl rfl Tryd.func84 (by kernel_rfl) rfl #[.pointer (some ⟨gb190, 0, none⟩)] rfl (by (try simp only [List.map_toArray, List.map_cons, List.map_nil]); first | done | rfl | (simp only [List.length_drop, List.length_take]; rfl)) ?_; (with_reducible refine (spec_l1rd_l2reply.calls k gb190 l0 t192 t193 t194 w _ ?side1 ?side2 A3.out).mono ?_); (case side1 => repeat (first | (with_reducible first | exact HI190.out | apply IsS72.alloc | apply IsS72.drewN | apply IsS72.drew | apply IsS72.set_1) | exact HI190.out)); (case side2 => repeat (first | (with_reducible first | exact HB.out | apply below_alloc | apply pw_below_drewN | apply below_drew1 | refine below_set ?_ (IsS72.ge HI190.out)) | exact HB.out)); rintro e w31 ⟨rfl, hi, hb, hk⟩; refine ⟨_, rfl, ?_⟩; have n0_ := Aside0.mk (hb); have n1_ := Aside0.mk (hi); clear HB; clear HI190; have HB := n0_; have HI190 := n1_; clear n0_ n1_; (try clear hb); (try clear hb2); (try clear hk); (try clear hi)) | ((with_reducible refine gate_callee (f := 45) rfl ?_); refine goesL_ (some 46) rfl rfl Tryd.func45 (by kernel_rfl) rfl #[.pointer (some ⟨gb190, 0, none⟩)] rfl (by (try simp only [List.map_toArray, List.map_cons, List.map_nil]); first | done | rfl | (simp only [List.length_drop, List.length_take]; rfl)) ?_; (with_reducible refine (spec_l1rd_next.calls gb190 l0 t194 t196 t197 w _ ?side1 ?side2 A24.out).mono ?_); (case side1 => repeat (first | (with_reducible first | exact HI190.out | apply IsS72.alloc | apply IsS72.drewN | apply IsS72.drew | apply IsS72.set_1) | exact HI190.out)); (case side2 => repeat (first | (with_reducible first | exact HB.out | apply below_alloc | apply pw_below_drewN | apply below_drew1 | refine below_set ?_ (IsS72.ge HI190.out)) | exact HB.out)); rintro e w32 ⟨rfl, hi, hb, hk⟩; refine ⟨_, rfl, ?_⟩; have n0_ := Aside0.mk (hb); have n1_ := Aside0.mk (hi); clear HB; clear HI190; have HB := n0_; have HI190 := n1_; clear n0_ n1_; (try clear hb); (try clear hb2); (try clear hk); (try clear hi)))
              go_ret
              exact ⟨by first | rfl | (simp [errW_none, errW_some] <;> rfl) | (simp only [← hji26]; first | rfl | (simp [errW_none, errW_some] <;> rfl)) | (simp [*, errW_none, errW_some] <;> rfl), by repeat (first | (with_reducible first | exact HB.out | apply below_alloc | apply pw_below_drewN | apply below_drew1 | refine below_set ?_ (IsS72.ge HI190.out)) | exact HB.out)⟩
            · rw [if_neg c28] at H
              exact absurd H (by simp)
          · rw [if_neg c27] at H
            exact absurd H (by simp)
      · rw [if_neg c23] at H
        have c23b0 : ((Int.tmod t191 4) == 3) = false := beq_eq_false_iff_ne.mpr c23
        have c23b1 : ((Int.tmod t191 4) != 3) = true := bne_iff_ne.mpr c23
        by_cases c33 : (Int.tmod t191 5) = 4
        · rw [if_pos c33] at H
          have c33b0 : ((Int.tmod t191 5) == 4) = true := beq_iff_eq.mpr c33
          have c33b1 : ((Int.tmod t191 5) != 4) = false := bne_eq_false_iff_eq.mpr c33
          clear c33
          replace H := Option.bind_eq_some_iff.mp H
          obtain ⟨⟨t198, t199⟩, A340, H⟩ := H
          replace H : (some t198) = some r := H
          have A34 := Aside0.mk A340
          clear A340
          obtain rfl := Option.some.inj H
          go_enter Tryd.func38, Tryd.ntmps38
          go_wp2_with (first | ((with_reducible refine gate_dst (N := 9) rfl ?_); refine box_event ?hg (N := 9) ?hd (cs := #[.slice A0 l0.length c0, .int .i64 0]) (t := 72) ?hr ?_; (case hd => rfl); (case hg => rfl); (case hr => first | (go_simp; done) | (go_simp; rfl)); intro gb190 hg w35 hbox hb; have n0_ := Aside0.mk (below_step (bq_) hb); have n1_ := Aside0.mk ((show IsS72 w w35 gb190 l0 0 from ⟨_, _, hbox, (by rw [hg]; exact (below_size (bq_)) : w.heap.size ≤ gb190), HR0.out⟩)); clear HB; have HB := n0_; have HI190 := n1_; clear n0_ n1_; clear hb hbox hg) | ((with_reducible refine gate_callee (f := 45) rfl ?_); refine goesL_ (some 11) rfl rfl Tryd.func45 (by kernel_rfl) rfl #[.pointer (some ⟨gb190, 0, none⟩)] rfl (by (try simp only [List.map_toArray, List.map_cons, List.map_nil]); first | done | rfl | (simp only [List.length_drop, List.length_take]; rfl)) ?_; (with_reducible refine (spec_l1rd_next.calls gb190 l0 0 t191 t192 w _ ?side1 ?side2 A2.out).mono ?_); (case side1 => repeat (first | (with_reducible first | exact HI190.out | apply IsS72.alloc | apply IsS72.drewN | apply IsS72.drew | apply IsS72.set_1) | exact HI190.out)); (case side2 => repeat (first | (with_reducible first | exact HB.out | apply below_alloc | apply pw_below_drewN | apply below_drew1 | refine below_set ?_ (IsS72.ge HI190.out)) | exact HB.out)); rintro e w36 ⟨rfl, hi, hb, hk⟩; refine ⟨_, rfl, ?_⟩; have n0_ := Aside0.mk (hb); have n1_ := Aside0.mk (hi); clear HB; clear HI190; have HB := n0_; have HI190 := n1_; clear n0_ n1_; (try clear hb); (try clear hb2); (try clear hk); (try clear hi)) | ((with_reducible refine gate_callee (f := 84) rfl ?_); refine goesL_ (some 13) rfl rfl Tryd.func84 (by kernel_rfl) rfl #[.pointer (some ⟨gb190, 0, none⟩)] rfl (by (try simp only [List.map_toArray, List.map_cons, List.map_nil]); first | done | rfl | (simp only [List.length_drop, List.length_take]; rfl)) ?_; (with_reducible refine (spec_l1rd_l2reply.calls k gb190 l0 t192 t193 t194 w _ ?side1 ?side2 A3.out).mono ?_); (case side1 => repeat (first | (with_reducible first | exact HI190.out | apply IsS72.alloc | apply IsS72.drewN | apply IsS72.drew | apply IsS72.set_1) | exact HI190.out)); (case side2 => repeat (first | (with_reducible first | exact HB.out | apply below_alloc | apply pw_below_drewN | apply below_drew1 | refine below_set ?_ (IsS72.ge HI190.out)) | exact HB.out)); rintro e w37 ⟨rfl, hi, hb, hk⟩; refine ⟨_, rfl, ?_⟩; have n0_ := Aside0.mk (hb); have n1_ := Aside0.mk (hi); clear HB; clear HI190; have HB := n0_; have HI190 := n1_; clear n0_ n1_; (try clear hb); (try clear hb2); (try clear hk); (try clear hi)) | ((with_reducible refine gate_callee (f := 47) rfl ?_); refine goesL_ (some 58) rfl rfl Tryd.func47 (by kernel_rfl) rfl #[.pointer (some ⟨gb190, 0, none⟩), .string t193] rfl (by (try simp only [List.map_toArray, List.map_cons, List.map_nil]); first | done | rfl | (simp only [List.length_drop, List.length_take]; rfl)) ?_; (with_reducible refine (spec_l1rd_l2spoil.calls gb190 l0 t194 t193 t198 t199 w _ ?side1 ?side2 A34.out).mono ?_); (case side1 => repeat (first | (with_reducible first | exact HI190.out | apply IsS72.alloc | apply IsS72.drewN | apply IsS72.drew | apply IsS72.set_1) | exact HI190.out)); (case side2 => repeat (first | (with_reducible first | exact HB.out | apply below_alloc | apply pw_below_drewN | apply below_drew1 | refine below_set ?_ (IsS72.ge HI190.out)) | exact HB.out)); rintro e w38 ⟨rfl, hi, hb, hk⟩; refine ⟨_, rfl, ?_⟩; have n0_ := Aside0.mk (hb); have n1_ := Aside0.mk (hi); clear HB; clear HI190; have HB := n0_; have HI190 := n1_; clear n0_ n1_; (try clear hb); (try clear hb2); (try clear hk); (try clear hi)))
          go_ret
          exact ⟨by first | rfl | (simp [errW_none, errW_some] <;> rfl) | (simp [*, errW_none, errW_some] <;> rfl), by repeat (first | (with_reducible first | exact HB.out | apply below_alloc | apply pw_below_drewN | apply below_drew1 | refine below_set ?_ (IsS72.ge HI190.out)) | exact HB.out)⟩
        · rw [if_neg c33] at H
          have c33b0 : ((Int.tmod t191 5) == 4) = false := beq_eq_false_iff_ne.mpr c33
          have c33b1 : ((Int.tmod t191 5) != 4) = true := bne_iff_ne.mpr c33
          by_cases c39 : (Int.tmod t191 3) = 2
          · rw [if_pos c39] at H
            have c39b0 : ((Int.tmod t191 3) == 2) = true := beq_iff_eq.mpr c39
            have c39b1 : ((Int.tmod t191 3) != 2) = false := bne_eq_false_iff_eq.mpr c39
            clear c39
            replace H := Option.bind_eq_some_iff.mp H
            obtain ⟨⟨t200, t201⟩, A400, H⟩ := H
            replace H : (if t193.size + t200.size ≤ 9223372036854775807 then (some (t193 ++ t200)) else (none)) = some r := H
            have A40 := Aside0.mk A400
            clear A400
            by_cases c41 : t193.size + t200.size ≤ 9223372036854775807
            · rw [if_pos c41] at H
              have c41b0 := eq_true c41
              have c41b1 : decide (t193.size + t200.size ≤ 9223372036854775807) = true := decide_eq_true c41
              try have c41b2 : (9223372036854775807 < t193.size + t200.size) = False := eq_false (Nat.not_lt.2 c41)
              obtain rfl := Option.some.inj H
              go_enter Tryd.func38, Tryd.ntmps38
              go_wp2_with (first | ((with_reducible refine gate_dst (N := 9) rfl ?_); refine box_event ?hg (N := 9) ?hd (cs := #[.slice A0 l0.length c0, .int .i64 0]) (t := 72) ?hr ?_; (case hd => rfl); (case hg => rfl); (case hr => first | (go_simp; done) | (go_simp; rfl)); intro gb190 hg w42 hbox hb; have n0_ := Aside0.mk (below_step (bq_) hb); have n1_ := Aside0.mk ((show IsS72 w w42 gb190 l0 0 from ⟨_, _, hbox, (by rw [hg]; exact (below_size (bq_)) : w.heap.size ≤ gb190), HR0.out⟩)); clear HB; have HB := n0_; have HI190 := n1_; clear n0_ n1_; clear hb hbox hg) | ((with_reducible refine gate_callee (f := 45) rfl ?_); refine goesL_ (some 11) rfl rfl Tryd.func45 (by kernel_rfl) rfl #[.pointer (some ⟨gb190, 0, none⟩)] rfl (by (try simp only [List.map_toArray, List.map_cons, List.map_nil]); first | done | rfl | (simp only [List.length_drop, List.length_take]; rfl)) ?_; (with_reducible refine (spec_l1rd_next.calls gb190 l0 0 t191 t192 w _ ?side1 ?side2 A2.out).mono ?_); (case side1 => repeat (first | (with_reducible first | exact HI190.out | apply IsS72.alloc | apply IsS72.drewN | apply IsS72.drew | apply IsS72.set_1) | exact HI190.out)); (case side2 => repeat (first | (with_reducible first | exact HB.out | apply below_alloc | apply pw_below_drewN | apply below_drew1 | refine below_set ?_ (IsS72.ge HI190.out)) | exact HB.out)); rintro e w43 ⟨rfl, hi, hb, hk⟩; refine ⟨_, rfl, ?_⟩; have n0_ := Aside0.mk (hb); have n1_ := Aside0.mk (hi); clear HB; clear HI190; have HB := n0_; have HI190 := n1_; clear n0_ n1_; (try clear hb); (try clear hb2); (try clear hk); (try clear hi)) | ((with_reducible refine gate_callee (f := 84) rfl ?_); refine goesL_ (some 13) rfl rfl Tryd.func84 (by kernel_rfl) rfl #[.pointer (some ⟨gb190, 0, none⟩)] rfl (by (try simp only [List.map_toArray, List.map_cons, List.map_nil]); first | done | rfl | (simp only [List.length_drop, List.length_take]; rfl)) ?_; (with_reducible refine (spec_l1rd_l2reply.calls k gb190 l0 t192 t193 t194 w _ ?side1 ?side2 A3.out).mono ?_); (case side1 => repeat (first | (with_reducible first | exact HI190.out | apply IsS72.alloc | apply IsS72.drewN | apply IsS72.drew | apply IsS72.set_1) | exact HI190.out)); (case side2 => repeat (first | (with_reducible first | exact HB.out | apply below_alloc | apply pw_below_drewN | apply below_drew1 | refine below_set ?_ (IsS72.ge HI190.out)) | exact HB.out)); rintro e w44 ⟨rfl, hi, hb, hk⟩; refine ⟨_, rfl, ?_⟩; have n0_ := Aside0.mk (hb); have n1_ := Aside0.mk (hi); clear HB; clear HI190; have HB := n0_; have HI190 := n1_; clear n0_ n1_; (try clear hb); (try clear hb2); (try clear hk); (try clear hi)) | ((with_reducible refine gate_callee (f := 84) rfl ?_); refine goesL_ (some 65) rfl rfl Tryd.func84 (by kernel_rfl) rfl #[.pointer (some ⟨gb190, 0, none⟩)] rfl (by (try simp only [List.map_toArray, List.map_cons, List.map_nil]); first | done | rfl | (simp only [List.length_drop, List.length_take]; rfl)) ?_; (with_reducible refine (spec_l1rd_l2reply.calls k gb190 l0 t194 t200 t201 w _ ?side1 ?side2 A40.out).mono ?_); (case side1 => repeat (first | (with_reducible first | exact HI190.out | apply IsS72.alloc | apply IsS72.drewN | apply IsS72.drew | apply IsS72.set_1) | exact HI190.out)); (case side2 => repeat (first | (with_reducible first | exact HB.out | apply below_alloc | apply pw_below_drewN | apply below_drew1 | refine below_set ?_ (IsS72.ge HI190.out)) | exact HB.out)); rintro e w45 ⟨rfl, hi, hb, hk⟩; refine ⟨_, rfl, ?_⟩; have n0_ := Aside0.mk (hb); have n1_ := Aside0.mk (hi); clear HB; clear HI190; have HB := n0_; have HI190 := n1_; clear n0_ n1_; (try clear hb); (try clear hb2); (try clear hk); (try clear hi)))
              go_ret
              exact ⟨by first | rfl | (simp [errW_none, errW_some] <;> rfl) | (simp [*, errW_none, errW_some] <;> rfl), by repeat (first | (with_reducible first | exact HB.out | apply below_alloc | apply pw_below_drewN | apply below_drew1 | refine below_set ?_ (IsS72.ge HI190.out)) | exact HB.out)⟩
            · rw [if_neg c41] at H
              exact absurd H (by simp)
          · rw [if_neg c39] at H
            have c39b0 : ((Int.tmod t191 3) == 2) = false := beq_eq_false_iff_ne.mpr c39
            have c39b1 : ((Int.tmod t191 3) != 2) = true := bne_iff_ne.mpr c39
            obtain rfl := Option.some.inj H
            go_enter Tryd.func38, Tryd.ntmps38
            go_wp2_with (first | ((with_reducible refine gate_dst (N := 9) rfl ?_); refine box_event ?hg (N := 9) ?hd (cs := #[.slice A0 l0.length c0, .int .i64 0]) (t := 72) ?hr ?_; (case hd => rfl); (case hg => rfl); (case hr => first | (go_simp; done) | (go_simp; rfl)); intro gb190 hg w46 hbox hb; have n0_ := Aside0.mk (below_step (bq_) hb); have n1_ := Aside0.mk ((show IsS72 w w46 gb190 l0 0 from ⟨_, _, hbox, (by rw [hg]; exact (below_size (bq_)) : w.heap.size ≤ gb190), HR0.out⟩)); clear HB; have HB := n0_; have HI190 := n1_; clear n0_ n1_; clear hb hbox hg) | ((with_reducible refine gate_callee (f := 45) rfl ?_); refine goesL_ (some 11) rfl rfl Tryd.func45 (by kernel_rfl) rfl #[.pointer (some ⟨gb190, 0, none⟩)] rfl (by (try simp only [List.map_toArray, List.map_cons, List.map_nil]); first | done | rfl | (simp only [List.length_drop, List.length_take]; rfl)) ?_; (with_reducible refine (spec_l1rd_next.calls gb190 l0 0 t191 t192 w _ ?side1 ?side2 A2.out).mono ?_); (case side1 => repeat (first | (with_reducible first | exact HI190.out | apply IsS72.alloc | apply IsS72.drewN | apply IsS72.drew | apply IsS72.set_1) | exact HI190.out)); (case side2 => repeat (first | (with_reducible first | exact HB.out | apply below_alloc | apply pw_below_drewN | apply below_drew1 | refine below_set ?_ (IsS72.ge HI190.out)) | exact HB.out)); rintro e w47 ⟨rfl, hi, hb, hk⟩; refine ⟨_, rfl, ?_⟩; have n0_ := Aside0.mk (hb); have n1_ := Aside0.mk (hi); clear HB; clear HI190; have HB := n0_; have HI190 := n1_; clear n0_ n1_; (try clear hb); (try clear hb2); (try clear hk); (try clear hi)) | ((with_reducible refine gate_callee (f := 84) rfl ?_); refine goesL_ (some 13) rfl rfl Tryd.func84 (by kernel_rfl) rfl #[.pointer (some ⟨gb190, 0, none⟩)] rfl (by (try simp only [List.map_toArray, List.map_cons, List.map_nil]); first | done | rfl | (simp only [List.length_drop, List.length_take]; rfl)) ?_; (with_reducible refine (spec_l1rd_l2reply.calls k gb190 l0 t192 t193 t194 w _ ?side1 ?side2 A3.out).mono ?_); (case side1 => repeat (first | (with_reducible first | exact HI190.out | apply IsS72.alloc | apply IsS72.drewN | apply IsS72.drew | apply IsS72.set_1) | exact HI190.out)); (case side2 => repeat (first | (with_reducible first | exact HB.out | apply below_alloc | apply pw_below_drewN | apply below_drew1 | refine below_set ?_ (IsS72.ge HI190.out)) | exact HB.out)); rintro e w48 ⟨rfl, hi, hb, hk⟩; refine ⟨_, rfl, ?_⟩; have n0_ := Aside0.mk (hb); have n1_ := Aside0.mk (hi); clear HB; clear HI190; have HB := n0_; have HI190 := n1_; clear n0_ n1_; (try clear hb); (try clear hb2); (try clear hk); (try clear hi)))
            go_ret
            exact ⟨by first | rfl | (simp [errW_none, errW_some] <;> rfl) | (simp [*, errW_none, errW_some] <;> rfl), by repeat (first | (with_reducible first | exact HB.out | apply below_alloc | apply pw_below_drewN | apply below_drew1 | refine below_set ?_ (IsS72.ge HI190.out)) | exact HB.out)⟩

/-! ### laws_sameTexts: function 39 -/
def laws_sameTexts.l0 : Nat → List ByteArray → List ByteArray → Int → Int → Option (Bool)
  | 0, _, _, _, _ => none
  | k + 1, x1, x12, x13, x14 => if x14 < x13 then (if 0 ≤ x14 then (if x14 < (x12.length : Int) then (if x14 < (x1.length : Int) then (if (rdOf ByteArray.empty x1 x14).toList = (rdOf ByteArray.empty x12 x14).toList then (laws_sameTexts.l0 k x1 x12 x13 (wrap64 (x14 + 1))) else (some false)) else (none)) else (none)) else (none)) else (some true)
def laws_sameTexts.f (k : Nat) (l0 : List ByteArray) (l1 : List ByteArray) : Option (Bool) := if (l0.length : Int) = (l1.length : Int) then (laws_sameTexts.l0 k l1 l0 (l0.length : Int) 0) else (some false)
theorem laws_sameTexts.mono_l : ∀ k, (∀ y0 y1 y2 y3, LeO (laws_sameTexts.l0 k y0 y1 y2 y3) (laws_sameTexts.l0 (k + 1) y0 y1 y2 y3))
  | 0 => fun _ _ _ _ r h => by simp [laws_sameTexts.l0] at h
  | k + 1 => by
    have ih0 := laws_sameTexts.mono_l k
    · intro y0 y1 y2 y3
      unfold laws_sameTexts.l0
      repeat' first
      | (with_reducible exact ih0 _ _ _ _)
      | (with_reducible exact LeO.refl _)
      | (with_reducible exact LeO.none _)
      | (with_reducible refine LeO.ite ?_ ?_)
      | (with_reducible refine LeO.bind ?_ (fun _ => ?_))
      | exact ih0 _ _ _ _
      | exact LeO.none _
      | refine LeO.ite ?_ ?_
      | refine LeO.bind ?_ (fun _ => ?_)
theorem laws_sameTexts.mono : ∀ a0 a1 k, LeO (laws_sameTexts.f k a0 a1) (laws_sameTexts.f (k + 1) a0 a1) := by
  intro a0 a1 k
  have ih0 := laws_sameTexts.mono_l k
  unfold laws_sameTexts.f
  repeat' first
      | (with_reducible exact ih0 _ _ _ _)
      | (with_reducible exact LeO.refl _)
      | (with_reducible exact LeO.none _)
      | (with_reducible refine LeO.ite ?_ ?_)
      | (with_reducible refine LeO.bind ?_ (fun _ => ?_))
      | exact ih0 _ _ _ _
      | exact LeO.none _
      | refine LeO.ite ?_ ?_
      | refine LeO.bind ?_ (fun _ => ?_)
set_option maxHeartbeats 8000000 in
set_option maxRecDepth 100000 in
theorem laws_sameTexts.calls (k : Nat) (A0 : Option Addr) (c0 : Nat) (l0 : List ByteArray) (A1 : Option Addr) (c1 : Nat) (l1 : List ByteArray) (r : Bool) (w : World) (hr0 : Kd.C Kd.string w A0 l0.length l0) (hc0 : l0.length ≤ c0) (hr1 : Kd.C Kd.string w A1 l1.length l1) (hc1 : l1.length ≤ c1) (h : laws_sameTexts.f k l0 l1 = some r) :
    Calls Tryd.prog 39 #[.slice A0 l0.length c0, .slice A1 l1.length c1] w fun e w' => e = .returned (.bool r) ∧ Drawn0 w w' := by
  have HR0 := Aside0.mk hr0
  have HC0 := Aside0.mk hc0
  clear hr0 hc0
  have HR1 := Aside0.mk hr1
  have HC1 := Aside0.mk hc1
  clear hr1 hc1
  have H : (if (l0.length : Int) = (l1.length : Int) then (laws_sameTexts.l0 k l1 l0 (l0.length : Int) 0) else (some false)) = some r := h
  clear h
  by_cases c3 : (l0.length : Int) = (l1.length : Int)
  · rw [if_pos c3] at H
    have c3b0 : ((l0.length : Int) == (l1.length : Int)) = true := beq_iff_eq.mpr c3
    have c3b1 : ((l0.length : Int) != (l1.length : Int)) = false := bne_eq_false_iff_eq.mpr c3
    have c3b2 : (l0.length == l1.length) = true := by first | simpa using c3 | (simp at c3 ⊢; omega)
    clear c3
    have H' := Aside0.mk H
    clear H
    go_enter Tryd.func39, Tryd.ntmps39
    go_wp2
    go_loopg [14] k (fun kq v14 w' => ∃ (x14_1 : Int), v14 = .int .i64 x14_1 ∧ Aside0 (laws_sameTexts.l0 kq l1 l0 (l0.length : Int) x14_1 = some r) ∧ Aside0 (kq ≤ k) ∧ Drawn0 w w')
    case atStart => exact ⟨(0), (by first | rfl | (simp; done) | (simp [*]; done)), H', ⟨Nat.le_refl _⟩, by repeat (first | exact Drawn0.refl _ | apply Drawn0.step)⟩
    case round =>
      clear H'
      try clear c1
      try clear p2
      try clear c3
      try clear c3b0
      try clear c3b1
      try clear c3b2
      obtain ⟨x14_1, rfl, HA, HK1, ⟨m1, rfl⟩⟩ := hrel
      cases gk with
      | zero => exact absurd HA.out (by simp [laws_sameTexts.l0])
      | succ k1 =>
        have H := HA.out
        clear HA
        simp only [laws_sameTexts.l0] at H
        by_cases c4 : x14_1 < (l0.length : Int)
        · rw [if_pos c4] at H
          have c4b0 : decide (x14_1 < (l0.length : Int)) = true := decide_eq_true c4
          clear c4
          by_cases c5 : 0 ≤ x14_1
          · rw [if_pos c5] at H
            have c5b0 : decide (0 ≤ x14_1) = true := decide_eq_true c5
            clear c5
            by_cases c6 : x14_1 < (l0.length : Int)
            · rw [if_pos c6] at H
              have c6b0 : decide (x14_1 < (l0.length : Int)) = true := decide_eq_true c6
              clear c6
              by_cases c7 : x14_1 < (l1.length : Int)
              · rw [if_pos c7] at H
                have c7b0 : decide (x14_1 < (l1.length : Int)) = true := decide_eq_true c7
                clear c7
                by_cases c8 : (rdOf ByteArray.empty l1 x14_1).toList = (rdOf ByteArray.empty l0 x14_1).toList
                · rw [if_pos c8] at H
                  have c8b0 : ((rdOf ByteArray.empty l1 x14_1).toList == (rdOf ByteArray.empty l0 x14_1).toList) = true := beq_iff_eq.mpr c8
                  have c8b1 : ((rdOf ByteArray.empty l1 x14_1).toList != (rdOf ByteArray.empty l0 x14_1).toList) = false := bne_eq_false_iff_eq.mpr c8
                  clear c8
                  have H' := Aside0.mk H
                  clear H
                  have p202 : 0 ≤ (x14_1 : Int) := of_decide_eq_true (by first | (with_reducible assumption) | assumption)
                  have q202 : x14_1 < (l0.length : Int) := of_decide_eq_true (by first | (with_reducible assumption) | assumption)
                  obtain ⟨ad202, e202, hx202_0⟩ := Kd.at_string HR0.out x14_1 p202 q202
                  cases e202
                  replace p202 := eq_true p202
                  replace q202 := eq_true q202
                  have p203 : 0 ≤ (x14_1 : Int) := of_decide_eq_true (by first | (with_reducible assumption) | assumption)
                  have q203 : x14_1 < (l1.length : Int) := of_decide_eq_true (by first | (with_reducible assumption) | assumption)
                  obtain ⟨ad203, e203, hx203_0⟩ := Kd.at_string HR1.out x14_1 p203 q203
                  cases e203
                  replace p203 := eq_true p203
                  replace q203 := eq_true q203
                  go_wp2
                  go_roundg k1
                  case measure => have := HK1.out; omega
                  case rel => exact ⟨(wrap64 (x14_1 + 1)), (by first | rfl | (simp; done) | (simp [*]; done)), H', ⟨by have := HK1.out; omega⟩, by repeat (first | exact Drawn0.refl _ | apply Drawn0.step)⟩
                · rw [if_neg c8] at H
                  have c8b0 : ((rdOf ByteArray.empty l1 x14_1).toList == (rdOf ByteArray.empty l0 x14_1).toList) = false := beq_eq_false_iff_ne.mpr c8
                  have c8b1 : ((rdOf ByteArray.empty l1 x14_1).toList != (rdOf ByteArray.empty l0 x14_1).toList) = true := bne_iff_ne.mpr c8
                  obtain rfl := Option.some.inj H
                  have p202 : 0 ≤ (x14_1 : Int) := of_decide_eq_true (by first | (with_reducible assumption) | assumption)
                  have q202 : x14_1 < (l0.length : Int) := of_decide_eq_true (by first | (with_reducible assumption) | assumption)
                  obtain ⟨ad202, e202, hx202_0⟩ := Kd.at_string HR0.out x14_1 p202 q202
                  cases e202
                  replace p202 := eq_true p202
                  replace q202 := eq_true q202
                  have p203 : 0 ≤ (x14_1 : Int) := of_decide_eq_true (by first | (with_reducible assumption) | assumption)
                  have q203 : x14_1 < (l1.length : Int) := of_decide_eq_true (by first | (with_reducible assumption) | assumption)
                  obtain ⟨ad203, e203, hx203_0⟩ := Kd.at_string HR1.out x14_1 p203 q203
                  cases e203
                  replace p203 := eq_true p203
                  replace q203 := eq_true q203
                  go_wp2
                  go_ret
                  exact ⟨by first | rfl | (simp; done) | (simp [*]; done), by repeat (first | exact Drawn0.refl _ | apply Drawn0.step)⟩
              · rw [if_neg c7] at H
                exact absurd H (by simp)
            · rw [if_neg c6] at H
              exact absurd H (by simp)
          · rw [if_neg c5] at H
            exact absurd H (by simp)
        · rw [if_neg c4] at H
          have c4b0 : decide (x14_1 < (l0.length : Int)) = false := decide_eq_false c4
          clear c4
          obtain rfl := Option.some.inj H
          go_wp2
          go_ret
          exact ⟨by first | rfl | (simp; done) | (simp [*]; done), by repeat (first | exact Drawn0.refl _ | apply Drawn0.step)⟩
  · rw [if_neg c3] at H
    have c3b0 : ((l0.length : Int) == (l1.length : Int)) = false := beq_eq_false_iff_ne.mpr c3
    have c3b1 : ((l0.length : Int) != (l1.length : Int)) = true := bne_iff_ne.mpr c3
    have c3b2 : (l0.length == l1.length) = false := by first | simpa using c3 | (simp at c3 ⊢; omega)
    obtain rfl := Option.some.inj H
    go_enter Tryd.func39, Tryd.ntmps39
    go_wp2
    go_ret
    exact ⟨by first | rfl | (simp; done) | (simp [*]; done), by repeat (first | exact Drawn0.refl _ | apply Drawn0.step)⟩

end Go.Proofs.YtnhhbdhkhdbanaaDoor.X
