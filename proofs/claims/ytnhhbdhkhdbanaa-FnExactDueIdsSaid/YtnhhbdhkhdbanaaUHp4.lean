/- What dueHeap's Pop does. -/
import Derived.Test.YtnhhbdhkhdbanaaUHp3
namespace Go.Proofs.Ytnhhbdhkhdbanaa.X
open Go Go.RowKit Go.Proofs.YtnhhbdhkhdbanaaW.PrintWords Go.Proofs.YtnhhbdhkhdbanaaW.PrintLast Go.Proofs.YtnhhbdhkhdbanaaW.PrintMore
set_option linter.unusedVariables false
set_option linter.unusedSimpArgs false
set_option maxHeartbeats 4000000 in
set_option maxRecDepth 100000 in
theorem pop_m (w0 w : World) (g : Nat) (v : Value) (l : List S55) (h : Hs w0 w g v l) (hp : 0 < l.length) (hl : l.length < 1000000000) :
    Calls Try.prog 63 #[.pointer (some ⟨g, 0, none⟩)] w fun e w' => e = .returned (dueV (rd_T55 l ((l.length : Int) - 1))) ∧ ∃ v', Stp w0 w w' g v v' (l.take (l.length - 1)) := by
  have hu55 := Try.underlying55
  obtain ⟨r, c, rfl, hbr, hlr, cells, hcr⟩ := Kd.R_form h.row hp
  have hx0 := h.cell
  have hf0 := blk_frozen h.blk 0
  have hne : r ≠ g := h.row.1 r rfl
  have p1 : 0 ≤ (l.length : Int) - 1 := by omega
  have q1 : (l.length : Int) - 1 < (l.length : Int) := by omega
  obtain ⟨ci, hcl, hM, hcc, hfr⟩ := Kd.R_elem h.row z55 ((l.length : Int) - 1) p1 q1
  obtain rfl := k55_openM hM
  have hx_0 : w.cell? ⟨r, ((l.length : Int) - 1).toNat * 3, none⟩ = some (.int .i64 ((rd_T55 l ((l.length : Int) - 1)).f0)) := hcc 0 _ rfl
  have hx_1 : w.cell? ⟨r, ((l.length : Int) - 1).toNat * 3 + 1, none⟩ = some (.int .i64 ((rd_T55 l ((l.length : Int) - 1)).f1)) := hcc 1 _ rfl
  have hx_2 : w.cell? ⟨r, ((l.length : Int) - 1).toNat * 3 + 2, none⟩ = some (.int .i64 ((rd_T55 l ((l.length : Int) - 1)).f2)) := hcc 2 _ rfl
  clear hcl hM hcc hfr
  have eN : ((l.length : Int) - 1).toNat = l.length - 1 := by omega
  rw [eN] at hx_0 hx_1 hx_2
  have ew : wrap64 ((l.length : Int) - 1) = (l.length : Int) - 1 := by unfold wrap64; omega
  generalize hX : rd_T55 l ((l.length : Int) - 1) = X at hx_0 hx_1 hx_2 ⊢
  have P1 := eq_true p1
  have Q1 := eq_true q1
  have hgw : g < w.heap.size := blk_lt h.blk
  have hA := h.below_ (below_alloc (Below.refl _ _) (.cells #[.int .i64 X.f0, .int .i64 X.f1, .int .i64 X.f2] 55))
  have ha := hA.cell
  have haf := blk_frozen hA.blk 0
  have hS : Stp w0 w (w.setCell ⟨g, 0, none⟩ (.slice (some ⟨r, 0, none⟩) (l.length - 1) c)) g (.slice (some ⟨r, 0, none⟩) l.length c) (.slice (some ⟨r, 0, none⟩) (l.length - 1) c) (l.take (l.length - 1)) :=
    ⟨⟨below_set h.below h.ge, h.ge, blk_put h.blk 0 _ rfl, Kd.R_far (Kd.R_take h.row (Nat.sub_le _ _)) (fun k hk => hk) _⟩, (KeepBut.refl _ _ _).set_ 0 _, .inl rfl⟩
  have hn2 := blk_new (w.setCell ⟨g, 0, none⟩ (.slice (some ⟨r, 0, none⟩) (l.length - 1) c)) (.cells #[.int .i64 X.f0, .int .i64 X.f1, .int .i64 X.f2] 55)
  have esz : (w.setCell ⟨g, 0, none⟩ (.slice (some ⟨r, 0, none⟩) (l.length - 1) c)).heap.size = w.heap.size := by simp [World.setCell]
  rw [esz] at hn2
  have hc_0 := (blk_cell hn2 0).trans (show _ = some (Value.int .i64 X.f0) from rfl)
  have hc_1 := (blk_cell hn2 1).trans (show _ = some (Value.int .i64 X.f1) from rfl)
  have hc_2 := (blk_cell hn2 2).trans (show _ = some (Value.int .i64 X.f2) from rfl)
  have hlc : l.length ≤ c := (Kd.R_reads' h.row).2.1
  go_enter Try.func63, Try.ntmps63
  go_wp2
  go_ret
  exact ⟨rfl, _, hS.below_ (below_alloc (Below.refl _ _) _)⟩
end Go.Proofs.Ytnhhbdhkhdbanaa.X
