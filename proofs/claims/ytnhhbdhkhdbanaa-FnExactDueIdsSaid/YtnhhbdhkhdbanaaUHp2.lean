/- What dueHeap's Swap does to the heap's row. No condition but that both indexes stand in it. The region's walk is written by the kit's printer of regions. -/
import Derived.Test.YtnhhbdhkhdbanaaUHp1
namespace Go.Proofs.Ytnhhbdhkhdbanaa.X
open Go Go.RowKit Go.Proofs.YtnhhbdhkhdbanaaW.PrintWords Go.Proofs.YtnhhbdhkhdbanaaW.PrintLast Go.Proofs.YtnhhbdhkhdbanaaW.PrintMore
set_option linter.unusedVariables false
set_option linter.unusedSimpArgs false
theorem grown2 {w w1 w2 : World} {row : Option Nat} (h : w.grownBy w1 row) (k : w1.grownBy w2 row) : w.grownBy w2 row :=
  ⟨k.os.trans h.os, k.tape.trans h.tape, k.output.trans h.output, Nat.le_trans h.size k.size, fun i hi hr => (k.block i (Nat.lt_of_lt_of_le hi h.size) hr).trans (h.block i hi hr)⟩
set_option maxHeartbeats 4000000 in
set_option maxRecDepth 100000 in
theorem swap_calls (r c : Nat) (l : List S55) (i j : Int) (base : Nat) (ok : Nat → Prop) (w : World) (h : Kd.R k55 55 w base ok (.slice (some ⟨r, 0, none⟩) l.length c) l) (h0 : 0 ≤ i) (h1 : i < (l.length : Int)) (h2 : 0 ≤ j) (h3 : j < (l.length : Int)) :
    Calls Try.prog 65 #[.slice (some ⟨r, 0, none⟩) l.length c, .int .i64 i, .int .i64 j] w fun e w' => e = .returned (.tuple #[]) ∧ Kd.R k55 55 w' base ok (.slice (some ⟨r, 0, none⟩) l.length c) ((l.set i.toNat (rd_T55 l j)).set j.toNat (rd_T55 l i)) ∧ w.grownBy w' (some r) := by
  have hu55 := Try.underlying55
  have hg0 : w.grownBy w.drew (some r) := grown_of_below (below_drew (Below.refl _ _)) _
  have hR := Kd.R_drew h
  have p256 := eq_true h0
  have q256 := eq_true h1
  have p257 := eq_true h2
  have q257 := eq_true h3
  go_enter Try.func65, Try.ntmps65
  try go_wp2
  obtain ⟨cj, hclj, hMj, hccj, hfrj⟩ := Kd.R_elem hR z55 j h2 h3
  obtain rfl := k55_openM hMj
  have hxj_0 : w.drew.cell? ⟨r, (j : Int).toNat * 3, none⟩ = some (.int .i64 ((rd_T55 l j).f0)) := hccj 0 _ rfl
  have hxj_1 : w.drew.cell? ⟨r, (j : Int).toNat * 3 + 1, none⟩ = some (.int .i64 ((rd_T55 l j).f1)) := hccj 1 _ rfl
  have hxj_2 : w.drew.cell? ⟨r, (j : Int).toNat * 3 + 2, none⟩ = some (.int .i64 ((rd_T55 l j).f2)) := hccj 2 _ rfl
  clear hclj hMj hccj hfrj
  obtain ⟨ci, hcl, hM, hcc, hfr⟩ := Kd.R_elem hR z55 i h0 h1
  obtain rfl := k55_openM hM
  have hxi_0 : w.drew.cell? ⟨r, (i : Int).toNat * 3, none⟩ = some (.int .i64 ((rd_T55 l i).f0)) := hcc 0 _ rfl
  have hxi_1 : w.drew.cell? ⟨r, (i : Int).toNat * 3 + 1, none⟩ = some (.int .i64 ((rd_T55 l i).f1)) := hcc 1 _ rfl
  have hxi_2 : w.drew.cell? ⟨r, (i : Int).toNat * 3 + 2, none⟩ = some (.int .i64 ((rd_T55 l i).f2)) := hcc 2 _ rfl
  have hfi_0 : w.drew.frozen? ⟨r, (i : Int).toNat * 3, none⟩ = false := hfr 0
  have hfi_1 : w.drew.frozen? ⟨r, (i : Int).toNat * 3 + 1, none⟩ = false := hfr 1
  have hfi_2 : w.drew.frozen? ⟨r, (i : Int).toNat * 3 + 2, none⟩ = false := hfr 2
  clear hM hfr
  refine start_ (n := 16) (S := fun w' => w'.cell? ⟨r, (j : Int).toNat * 3, none⟩ = some (.int .i64 ((rd_T55 l j).f0)) ∧ w'.cell? ⟨r, (j : Int).toNat * 3 + 1, none⟩ = some (.int .i64 ((rd_T55 l j).f1)) ∧ w'.cell? ⟨r, (j : Int).toNat * 3 + 2, none⟩ = some (.int .i64 ((rd_T55 l j).f2)) ∧ w'.cell? ⟨r, (i : Int).toNat * 3, none⟩ = some (.int .i64 ((rd_T55 l i).f0)) ∧ w'.cell? ⟨r, (i : Int).toNat * 3 + 1, none⟩ = some (.int .i64 ((rd_T55 l i).f1)) ∧ w'.cell? ⟨r, (i : Int).toNat * 3 + 2, none⟩ = some (.int .i64 ((rd_T55 l i).f2))) (ds := [13, 15]) #[false, false, false, false, false, false, false, false, false, false, false, false, false, false, false, false] (by kernel_rfl) rfl rfl ⟨hxj_0, hxj_1, hxj_2, hxi_0, hxi_1, hxi_2⟩ (fun hHeld => ?_)
  generalize w.drew = w10 at hR hg0 hxj_0 hxj_1 hxj_2 hxi_0 hxi_1 hxi_2 hfi_0 hfi_1 hfi_2 hcc hHeld ⊢
  refine pure_ (i := 0) (N := some 6) (v := ?_) (a' := ?_) #[true, false, false, false, false, false, false, false, false, false, false, false, false, false, false, false] rfl rfl (by kernel_rfl) (fun _ _ _ h => h) (Or.inl ⟨by rfl, ?_⟩) ?_ ?_
  rotate_left
  · intro w'
    go_simp
    with_reducible rfl
  rotate_left
  · simp only [Act.put, List.setIfInBounds_toArray, List.set_cons_zero, List.set_cons_succ, i64_w, i32_w]
    rfl
  refine pure_ (i := 1) (N := some 7) (v := ?_) (a' := ?_) #[true, true, false, false, false, false, false, false, false, false, false, false, false, false, false, false] rfl rfl (by kernel_rfl) (fun _ _ _ h => h) (Or.inl ⟨by rfl, ?_⟩) ?_ ?_
  rotate_left
  · intro w'
    go_simp
    with_reducible rfl
  rotate_left
  · simp only [Act.put, List.setIfInBounds_toArray, List.set_cons_zero, List.set_cons_succ, i64_w, i32_w]
    rfl
  refine pure_ (i := 2) (N := some 8) (v := ?_) (a' := ?_) #[true, true, true, false, false, false, false, false, false, false, false, false, false, false, false, false] rfl rfl (by kernel_rfl) (fun _ _ _ h => h) (Or.inl ⟨by rfl, ?_⟩) ?_ ?_
  rotate_left
  · intro w'
    go_simp
    with_reducible rfl
  rotate_left
  · simp only [Act.put, List.setIfInBounds_toArray, List.set_cons_zero, List.set_cons_succ, i64_w, i32_w]
    rfl
  refine pure_ (i := 3) (N := some 9) (v := ?_) (a' := ?_) #[true, true, true, true, false, false, false, false, false, false, false, false, false, false, false, false] rfl rfl (by kernel_rfl) (fun _ _ _ h => h) (Or.inl ⟨by rfl, ?_⟩) ?_ ?_
  rotate_left
  · intro w'
    go_simp
    with_reducible rfl
  rotate_left
  · simp only [Act.put, List.setIfInBounds_toArray, List.set_cons_zero, List.set_cons_succ, i64_w, i32_w]
    rfl
  refine pure_ (i := 4) (N := some 10) (v := ?_) (a' := ?_) #[true, true, true, true, true, false, false, false, false, false, false, false, false, false, false, false] rfl rfl (by kernel_rfl) (fun _ _ _ h => h) (Or.inl ⟨by rfl, ?_⟩) ?_ ?_
  rotate_left
  · intro w'
    go_simp
    with_reducible rfl
  rotate_left
  · simp only [Act.put, List.setIfInBounds_toArray, List.set_cons_zero, List.set_cons_succ, i64_w, i32_w]
    rfl
  refine pure_ (i := 5) (N := some 11) (v := ?_) (a' := ?_) #[true, true, true, true, true, true, false, false, false, false, false, false, false, false, false, false] rfl rfl (by kernel_rfl) (fun _ _ _ h => h) (Or.inl ⟨by rfl, ?_⟩) ?_ ?_
  rotate_left
  · intro w'
    go_simp
    with_reducible rfl
  rotate_left
  · simp only [Act.put, List.setIfInBounds_toArray, List.set_cons_zero, List.set_cons_succ, i64_w, i32_w]
    rfl
  refine pure_ (i := 6) (N := some 12) (v := ?_) (a' := ?_) #[true, true, true, true, true, true, true, false, false, false, false, false, false, false, false, false] rfl rfl (by kernel_rfl) (fun _ _ _ h => h) (Or.inl ⟨by rfl, ?_⟩) ?_ ?_
  rotate_left
  · intro w'
    go_simp
    with_reducible rfl
  rotate_left
  · simp only [Act.put, List.setIfInBounds_toArray, List.set_cons_zero, List.set_cons_succ, i64_w, i32_w]
    rfl
  refine pure_ (i := 8) (N := some 14) (v := ?_) (a' := ?_) #[true, true, true, true, true, true, true, false, true, false, false, false, false, false, false, false] rfl rfl (by kernel_rfl) (fun _ _ _ h => h) (Or.inl ⟨by rfl, ?_⟩) ?_ ?_
  rotate_left
  · intro w'
    go_simp
    with_reducible rfl
  rotate_left
  · simp only [Act.put, List.setIfInBounds_toArray, List.set_cons_zero, List.set_cons_succ, i64_w, i32_w]
    rfl
  refine pure_ (i := 9) (N := some 15) (v := ?_) (a' := ?_) #[true, true, true, true, true, true, true, false, true, true, false, false, false, false, false, false] rfl rfl (by kernel_rfl) (fun _ _ _ h => h) (Or.inl ⟨by rfl, ?_⟩) ?_ ?_
  rotate_left
  · intro w'
    go_simp
    with_reducible rfl
  rotate_left
  · simp only [Act.put, List.setIfInBounds_toArray, List.set_cons_zero, List.set_cons_succ, i64_w, i32_w]
    rfl
  refine pure_ (i := 10) (N := some 16) (v := ?_) (a' := ?_) #[true, true, true, true, true, true, true, false, true, true, true, false, false, false, false, false] rfl rfl (by kernel_rfl) (fun _ _ _ h => h) (Or.inl ⟨by rfl, ?_⟩) ?_ ?_
  rotate_left
  · intro w'
    go_simp
    with_reducible rfl
  rotate_left
  · simp only [Act.put, List.setIfInBounds_toArray, List.set_cons_zero, List.set_cons_succ, i64_w, i32_w]
    rfl
  refine take_ (i := 7) (N := some 13) (v := ?_) (a' := ?_) #[true, true, true, true, true, true, true, true, true, true, true, false, false, false, false, false] rfl rfl (by kernel_rfl) (fun _ _ _ h => h) (Or.inl ⟨by rfl, ?_⟩) hHeld ?_ ?_
  rotate_left
  · rintro w' ⟨s0, s1, s2, s3, s4, s5⟩
    go_simp
    with_reducible rfl
  rotate_left
  · simp only [Act.put, List.setIfInBounds_toArray, List.set_cons_zero, List.set_cons_succ, i64_w, i32_w]
    rfl
  refine take_ (i := 11) (N := some 17) (v := ?_) (a' := ?_) #[true, true, true, true, true, true, true, true, true, true, true, true, false, false, false, false] rfl rfl (by kernel_rfl) (fun _ _ _ h => h) (Or.inl ⟨by rfl, ?_⟩) hHeld ?_ ?_
  rotate_left
  · rintro w' ⟨s0, s1, s2, s3, s4, s5⟩
    go_simp
    with_reducible rfl
  rotate_left
  · simp only [Act.put, List.setIfInBounds_toArray, List.set_cons_zero, List.set_cons_succ, i64_w, i32_w]
    rfl
  refine pure_ (i := 12) (N := some 18) (v := ?_) (a' := ?_) #[true, true, true, true, true, true, true, true, true, true, true, true, true, false, false, false] rfl rfl (by kernel_rfl) (fun _ _ _ h => h) (Or.inl ⟨by rfl, ?_⟩) ?_ ?_
  rotate_left
  · intro w'
    go_simp
    with_reducible rfl
  rotate_left
  · simp only [Act.put, List.setIfInBounds_toArray, List.set_cons_zero, List.set_cons_succ, i64_w, i32_w]
    rfl
  refine last_ (i := 13) (N := none) #[true, true, true, true, true, true, true, true, true, true, true, true, true, true, false, false] rfl rfl (by kernel_rfl) (by decide) (fun K hK => ?_)
  refine skip_ (w1 := w10.setCells r ((i : Int).toNat * 3 + 0) [.int .i64 (rd_T55 l j).f0, .int .i64 (rd_T55 l j).f1, .int .i64 (rd_T55 l j).f2]) (by rfl) rfl ?_ ?_
  · go_simp
    rfl
  obtain ⟨hR1, hg1⟩ := Kd.R_seg hR i h0 h1 (seg := [.int .i64 (rd_T55 l j).f0, .int .i64 (rd_T55 l j).f1, .int .i64 (rd_T55 l j).f2]) (j := 0) hcl hcc (show 3 ≤ 3 from by decide) (x' := rd_T55 l j) (k55_mkM _ _ _ (rd_T55 l j)) (fun _ hk => hk)
  rw [show (k55).sz = 3 from rfl] at hR1 hg1
  clear hcl hcc hxi_0 hxi_1 hxi_2 hfi_0 hfi_1 hfi_2 hxj_0 hxj_1 hxj_2 hHeld
  generalize w10.setCells r ((i : Int).toNat * 3 + 0) [.int .i64 (rd_T55 l j).f0, .int .i64 (rd_T55 l j).f1, .int .i64 (rd_T55 l j).f2] = w11 at hR1 hg1 ⊢
  obtain ⟨ce, hcl, hM, hcc, hfr⟩ := Kd.R_elem hR1 z55 j h2 h3
  obtain rfl := k55_openM hM
  have hxj_0 : w11.cell? ⟨r, (j : Int).toNat * 3, none⟩ = some (.int .i64 ((rd_T55 (l.set i.toNat (rd_T55 l j)) j).f0)) := hcc 0 _ rfl
  have hfj_0 : w11.frozen? ⟨r, (j : Int).toNat * 3, none⟩ = false := hfr 0
  have hxj_1 : w11.cell? ⟨r, (j : Int).toNat * 3 + 1, none⟩ = some (.int .i64 ((rd_T55 (l.set i.toNat (rd_T55 l j)) j).f1)) := hcc 1 _ rfl
  have hfj_1 : w11.frozen? ⟨r, (j : Int).toNat * 3 + 1, none⟩ = false := hfr 1
  have hxj_2 : w11.cell? ⟨r, (j : Int).toNat * 3 + 2, none⟩ = some (.int .i64 ((rd_T55 (l.set i.toNat (rd_T55 l j)) j).f2)) := hcc 2 _ rfl
  have hfj_2 : w11.frozen? ⟨r, (j : Int).toNat * 3 + 2, none⟩ = false := hfr 2
  refine hK.out _ _ ?_
  clear hK K
  refine pure_ (i := 14) (N := some 19) (v := ?_) (a' := ?_) #[true, true, true, true, true, true, true, true, true, true, true, true, true, true, true, false] rfl rfl (by kernel_rfl) (fun _ _ _ h => h) (Or.inl ⟨by rfl, ?_⟩) ?_ ?_
  rotate_left
  · intro w'
    go_simp
    with_reducible rfl
  rotate_left
  · simp only [Act.put, List.setIfInBounds_toArray, List.set_cons_zero, List.set_cons_succ, i64_w, i32_w]
    rfl
  refine last_ (i := 15) (N := none) #[true, true, true, true, true, true, true, true, true, true, true, true, true, true, true, true] rfl rfl (by kernel_rfl) (by decide) (fun K hK => ?_)
  refine skip_ (w1 := w11.setCells r ((j : Int).toNat * 3 + 0) [.int .i64 (rd_T55 l i).f0, .int .i64 (rd_T55 l i).f1, .int .i64 (rd_T55 l i).f2]) (by rfl) rfl ?_ ?_
  · go_simp
    rfl
  obtain ⟨hR2, hg2⟩ := Kd.R_seg hR1 j h2 h3 (seg := [.int .i64 (rd_T55 l i).f0, .int .i64 (rd_T55 l i).f1, .int .i64 (rd_T55 l i).f2]) (j := 0) hcl hcc (show 3 ≤ 3 from by decide) (x' := rd_T55 l i) (k55_mkM _ _ _ (rd_T55 l i)) (fun _ hk => hk)
  rw [show (k55).sz = 3 from rfl] at hR2 hg2
  generalize w11.setCells r ((j : Int).toNat * 3 + 0) [.int .i64 (rd_T55 l i).f0, .int .i64 (rd_T55 l i).f1, .int .i64 (rd_T55 l i).f2] = w12 at hR2 hg2 ⊢
  refine hK.out _ _ ?_
  clear hK K
  refine done_ (by kernel_rfl) ?_
  go_wp2
  first | go_end0 | ((try simp only [Exit.inBlock, Exit.then]); refine bodyPost_ret (results_none rfl _ _ _) rfl ?_)
  exact ⟨rfl, hR2, grown2 (grown2 hg0 hg1) hg2⟩
end Go.Proofs.Ytnhhbdhkhdbanaa.X
