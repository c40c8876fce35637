/- The heap of due items in memory: what holds of it, and how its methods are reached through heap.Interface. -/
import Derived.Test.YtnhhbdhkhdbanaaUX9
namespace Go.Proofs.Ytnhhbdhkhdbanaa.X
open Go Go.RowKit Go.Proofs.YtnhhbdhkhdbanaaW.PrintWords Go.Proofs.YtnhhbdhkhdbanaaW.PrintLast Go.Proofs.YtnhhbdhkhdbanaaW.PrintMore
set_option linter.unusedVariables false
set_option linter.unusedSimpArgs false
/-- The variable of block g is the heap's slice v, a row of its own with the elements l; nothing that stood in w0 has changed. -/
structure Hs (w0 w : World) (g : Nat) (v : Value) (l : List S55) : Prop where
  below : Below w0.heap.size w0 w
  ge : w0.heap.size ≤ g
  blk : w.heap[g]? = some (.cells #[v] 52 (0, 0))
  row : Kd.R k55 55 w w0.heap.size (fun k => k ≠ g) v l
/-- From w to w': the heap is l' now, and nothing else that stood in w has changed. -/
structure Stp (w0 w w' : World) (g : Nat) (v v' : Value) (l' : List S55) : Prop where
  now : Hs w0 w' g v' l'
  keep : KeepBut w w' g v.ownBlock
  at_ : v'.ownBlock = v.ownBlock ∨ ∃ b, v'.ownBlock = some b ∧ w.heap.size ≤ b
theorem Stp.refl {w0 w : World} {g : Nat} {v : Value} {l : List S55} (h : Hs w0 w g v l) : Stp w0 w w g v v l := ⟨h, KeepBut.refl _ _ _, .inl rfl⟩
theorem Stp.trans {w0 w w1 w2 : World} {g : Nat} {v v1 v2 : Value} {l1 l2 : List S55} (h : Stp w0 w w1 g v v1 l1) (k : Stp w0 w1 w2 g v1 v2 l2) : Stp w0 w w2 g v v2 l2 := by
  refine ⟨k.now, h.keep.trans k.keep ?_, ?_⟩
  · exact h.at_
  · rcases k.at_ with e | ⟨b, e, hb⟩
    · rcases h.at_ with e1 | ⟨b1, e1, hb1⟩
      · exact .inl (e.trans e1)
      · exact .inr ⟨b1, e.trans e1, hb1⟩
    · exact .inr ⟨b, e, Nat.le_trans h.keep.1 hb⟩
theorem Hs.cell {w0 w : World} {g : Nat} {v : Value} {l : List S55} (h : Hs w0 w g v l) : w.cell? ⟨g, 0, none⟩ = some v := (blk_cell h.blk 0).trans rfl
theorem Hs.below_ {w0 w w1 : World} {g : Nat} {v : Value} {l : List S55} (h : Hs w0 w g v l) (hb : Below w.heap.size w w1) : Hs w0 w1 g v l :=
  ⟨below_step h.below hb, h.ge, blk_below h.blk hb, Kd.R_below h.row hb⟩
theorem Stp.below_ {w0 w w1 w2 : World} {g : Nat} {v v1 : Value} {l : List S55} (h : Stp w0 w w1 g v v1 l) (hb : Below w1.heap.size w1 w2) : Stp w0 w w2 g v v1 l :=
  h.trans ⟨h.now.below_ hb, KeepBut.of_below hb g _, .inl rfl⟩
end Go.Proofs.Ytnhhbdhkhdbanaa.X
