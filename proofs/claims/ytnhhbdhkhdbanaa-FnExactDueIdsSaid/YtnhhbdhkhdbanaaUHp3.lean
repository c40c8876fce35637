/- What dueHeap's Push does. The region's walk is written by the kit's printer of regions. -/
import Derived.Test.YtnhhbdhkhdbanaaUHp2
namespace Go.Proofs.Ytnhhbdhkhdbanaa.X
open Go Go.RowKit Go.Proofs.YtnhhbdhkhdbanaaW.PrintWords Go.Proofs.YtnhhbdhkhdbanaaW.PrintLast Go.Proofs.YtnhhbdhkhdbanaaW.PrintMore
set_option linter.unusedVariables false
set_option linter.unusedSimpArgs false
/-- A due as a value in an interface. -/
def dueV (x : S55) : Value := .iface 55 (.agg #[.int .i64 x.f0, .int .i64 x.f1, .int .i64 x.f2])
set_option maxHeartbeats 4000000 in
set_option maxRecDepth 100000 in
theorem push_m (w0 w : World) (g : Nat) (v : Value) (l : List S55) (x : S55) (h : Hs w0 w g v l) (hl : l.length < 1000000000) :
    Calls Try.prog 64 #[.pointer (some ⟨g, 0, none⟩), dueV x] w fun e w' => e = .returned (.tuple #[]) ∧ ∃ v', Stp w0 w w' g v v' (l ++ [x]) := by
  have hu55 := Try.underlying55
  unfold dueV
  have ta : ∀ W : World, (Instr.typeAssert (.iface 55 (.agg #[.int .i64 x.f0, .int .i64 x.f1, .int .i64 x.f2])) 20 55 false).run Try.prog W = .ok (.agg #[.int .i64 x.f0, .int .i64 x.f1, .int .i64 x.f2]) W := fun W => by kernel_rfl
  have hg0 : w.grownBy w.drew v.ownBlock := grown_of_below (below_drew (Below.refl _ _)) _
  have hD := h.below_ (below_drew (Below.refl _ _))
  have hx0 := hD.cell
  go_enter Try.func64, Try.ntmps64
  try go_wp2
  refine start_ (n := 10) (S := fun w' => w'.cell? ⟨g, 0, none⟩ = some v) (ds := [7, 9]) #[false, false, false, false, false, false, false, false, false, false] (by kernel_rfl) rfl rfl (hx0) (fun hHeld => ?_)
  generalize w.drew = w10 at hD hg0 hx0 hHeld ⊢
  refine pure_ (i := 0) (N := some 4) (v := ?_) (a' := ?_) #[true, false, false, false, false, false, false, false, false, false] rfl rfl (by kernel_rfl) (fun _ _ _ h => h) (Or.inl ⟨by rfl, ?_⟩) ?_ ?_
  rotate_left
  · intro w'
    go_simp
    with_reducible rfl
  rotate_left
  · simp only [Act.put, List.setIfInBounds_toArray, List.set_cons_zero, List.set_cons_succ, i64_w, i32_w]
    rfl
  refine pure_ (i := 1) (N := some 5) (v := ?_) (a' := ?_) #[true, true, false, false, false, false, false, false, false, false] rfl rfl (by kernel_rfl) (fun _ _ _ h => h) (Or.inl ⟨by rfl, ?_⟩) ?_ ?_
  rotate_left
  · intro w'
    go_simp
    with_reducible rfl
  rotate_left
  · simp only [Act.put, List.setIfInBounds_toArray, List.set_cons_zero, List.set_cons_succ, i64_w, i32_w]
    rfl
  refine pure_ (i := 2) (N := some 6) (v := ?_) (a' := ?_) #[true, true, true, false, false, false, false, false, false, false] rfl rfl (by kernel_rfl) (fun _ _ _ h => h) (Or.inl ⟨by rfl, ?_⟩) ?_ ?_
  rotate_left
  · intro w'
    go_simp
    with_reducible rfl
  rotate_left
  · simp only [Act.put, List.setIfInBounds_toArray, List.set_cons_zero, List.set_cons_succ, i64_w, i32_w]
    rfl
  refine pure_ (i := 4) (N := some 8) (v := ?_) (a' := ?_) #[true, true, true, false, true, false, false, false, false, false] rfl rfl (by kernel_rfl) (fun _ _ _ h => h) (Or.inl ⟨by rfl, ?_⟩) ?_ ?_
  rotate_left
  · intro w'
    go_simp
    with_reducible rfl
  rotate_left
  · simp only [Act.put, List.setIfInBounds_toArray, List.set_cons_zero, List.set_cons_succ, i64_w, i32_w]
    rfl
  refine pure_ (i := 5) (N := some 9) (v := ?_) (a' := ?_) #[true, true, true, false, true, true, false, false, false, false] rfl rfl (by kernel_rfl) (fun _ _ _ h => h) (Or.inl ⟨by rfl, ?_⟩) ?_ ?_
  rotate_left
  · intro w'
    go_simp
    with_reducible rfl
  rotate_left
  · simp only [Act.put, List.setIfInBounds_toArray, List.set_cons_zero, List.set_cons_succ, i64_w, i32_w]
    rfl
  refine take_ (i := 3) (N := some 7) (v := ?_) (a' := ?_) #[true, true, true, true, true, true, false, false, false, false] rfl rfl (by kernel_rfl) (fun _ _ _ h => h) (Or.inl ⟨by rfl, ?_⟩) hHeld ?_ ?_
  rotate_left
  · intro w' s0
    go_simp
    with_reducible rfl
  rotate_left
  · simp only [Act.put, List.setIfInBounds_toArray, List.set_cons_zero, List.set_cons_succ, i64_w, i32_w]
    rfl
  refine one_ (i := 6) (N := some 10) #[true, true, true, true, true, true, true, false, false, false] rfl rfl (by kernel_rfl) (by decide) (fun K hK => ?_)
  refine value_ (w1 := ?_) (v := ?_) (by rfl) rfl ?_ ?_
  rotate_left 2
  · go_simp
    constructor
    · rfl
    · rfl
  refine hK.out _ _ ((blk_cell (blk_alloc hD.blk _) 0).trans rfl) (fun hHeld => ?_)
  clear hK K
  refine norm_ (a' := ?_) ?_ ?_
  rotate_left
  · show Act.put _ (some 10) _ = _
    simp only [Act.put, List.setIfInBounds_toArray, List.set_cons_zero, List.set_cons_succ, i64_w, i32_w]
    rfl
  refine last_ (i := 7) (N := some 11) #[true, true, true, true, true, true, true, true, false, false] rfl rfl (by kernel_rfl) (by decide) (fun K hK => ?_)
  refine Kd.R_append_step k55 (w0 := w0) w0.heap.size (by rfl) (.tmp 7) (.tmp 10) 52 55 (.agg #[.int .i64 0, .int .i64 0, .int .i64 0]) 24 rfl Try.underlying52 (by kernel_rfl) rfl (by decide) (by decide) v l x [.int .i64 x.f0, .int .i64 x.f1, .int .i64 x.f2] (fun k => k ≠ g) (fun _ => False) rfl rfl (k55_mkM _ _ _ x) (fun _ hk => hk.elim) (fun k hk he => Nat.lt_irrefl _ (Nat.lt_of_lt_of_le (blk_lt hD.blk) (he ▸ hk))) hD.row hD.below hD.below.size (by omega) ?_
  intro v1 w1 hR1 hB1 hg1 hat1
  obtain ⟨A1, c1, e1⟩ := Kd.R_slice hR1
  subst e1
  have hb1 := blk_grown hD.blk hg1 (Kd.R_away hD.row (fun k hk => hk))
  have hx1 : w1.cell? ⟨g, 0, none⟩ = some v := (blk_cell hb1 0).trans rfl
  have hf1 := blk_frozen hb1 0
  clear hHeld hx0
  refine hK.out _ _ ?_
  clear hK K
  refine norm_ (a' := ?_) ?_ ?_
  rotate_left
  · show Act.put _ (some 11) _ = _
    simp only [Act.put, List.setIfInBounds_toArray, List.set_cons_zero, List.set_cons_succ, i64_w, i32_w]
    rfl
  refine pure_ (i := 8) (N := some 12) (v := ?_) (a' := ?_) #[true, true, true, true, true, true, true, true, true, false] rfl rfl (by kernel_rfl) (fun _ _ _ h => h) (Or.inl ⟨by rfl, ?_⟩) ?_ ?_
  rotate_left
  · intro w'
    go_simp
    with_reducible rfl
  rotate_left
  · simp only [Act.put, List.setIfInBounds_toArray, List.set_cons_zero, List.set_cons_succ, i64_w, i32_w]
    rfl
  refine last_ (i := 9) (N := none) #[true, true, true, true, true, true, true, true, true, true] rfl rfl (by kernel_rfl) (by decide) (fun K hK => ?_)
  refine skip_ (w1 := w1.setCell ⟨g, 0, none⟩ (.slice A1 (l ++ [x]).length c1)) (by rfl) rfl ?_ ?_
  · first | (go_simp; done) | (go_simp; rfl)
  refine hK.out _ _ ?_
  clear hK K
  refine done_ (by kernel_rfl) ?_
  go_wp2
  first | go_end0 | ((try simp only [Exit.inBlock, Exit.then]); refine bodyPost_ret (results_none rfl _ _ _) rfl ?_)
  refine ⟨rfl, _, ⟨below_set hB1 h.ge, h.ge, ?_, Kd.R_far hR1 (fun k hk => hk) _⟩, (KeepBut.of_grown (grown2 hg0 hg1) g).set_ 0 _, ?_⟩
  · exact blk_put hb1 0 _ rfl
  · rcases hat1 with e | ⟨b, e, hb⟩
    · exact .inl e
    · exact .inr ⟨b, e, Nat.le_trans hg0.size hb⟩
end Go.Proofs.Ytnhhbdhkhdbanaa.X
