/- Byte slices that are written in place: block g of a world holds these bytes, which may be written (CRow); a list of which the first i bytes are turned (cleanL). No condition. -/
import Derived.Test.YtnhhbdhkhdbanaaDoorLX0
import Derived.Lib.ConvBytes
import Derived.Lib.Hide
import Derived.Lib.Strings
namespace Go.Proofs.YtnhhbdhkhdbanaaDoor.X
open Go Go.RowKit Go.Proofs.YtnhhbdhkhdbanaaDoorW.PrintWords
set_option linter.unusedVariables false
def cleanL (f : UInt8 → UInt8) (l : List UInt8) (i : Nat) : List UInt8 := (l.take i).map f ++ l.drop i
theorem cleanL_len (f : UInt8 → UInt8) (l : List UInt8) (i : Nat) (h : i ≤ l.length) : (cleanL f l i).length = l.length := by
  unfold cleanL; rw [List.length_append, List.length_map, List.length_take, List.length_drop]; omega
theorem cleanL_zero (f : UInt8 → UInt8) (l : List UInt8) : cleanL f l 0 = l := by simp [cleanL]
theorem cleanL_all (f : UInt8 → UInt8) (l : List UInt8) : cleanL f l l.length = l.map f := by simp [cleanL]
theorem cleanL_at (f : UInt8 → UInt8) (l : List UInt8) (i : Nat) (h : i < l.length) : (cleanL f l i)[i]? = some l[i] := by
  unfold cleanL
  rw [List.getElem?_append_right (by rw [List.length_map, List.length_take]; omega), List.length_map, List.length_take, Nat.min_eq_left (by omega), Nat.sub_self, List.getElem?_drop, Nat.add_zero, List.getElem?_eq_getElem h]
theorem cleanL_succ (f : UInt8 → UInt8) (l : List UInt8) (i : Nat) (h : i < l.length) : cleanL f l (i + 1) = (cleanL f l i).set i (f l[i]) := by
  have e : (l.drop i).set 0 (f l[i]) = f l[i] :: l.drop (i + 1) := by rw [List.drop_eq_getElem_cons h]; rfl
  unfold cleanL
  rw [List.take_succ_eq_append_getElem h, List.map_append, List.set_append_right _ _ (by rw [List.length_map, List.length_take]; omega), List.length_map, List.length_take, Nat.min_eq_left (by omega), Nat.sub_self, e]
  simp
/-- Block g of W holds these bytes, which may be written. -/
def CRow (W : World) (g : Nat) (l : List UInt8) : Prop := ∀ j (h : j < l.length), W.cell? ⟨g, j, none⟩ = some (.int .u8 (l[j].toNat : Int)) ∧ W.frozen? ⟨g, j, none⟩ = false
theorem crow_new (w : World) (e : TypeId) (s : ByteArray) : CRow (Lib.bytesWorld w e s) w.heap.size s.data.toList := by
  intro j h
  have hs : s.data.toList.length = s.size := (Lib.size_eq s).symm
  refine ⟨?_, ?_⟩
  · rw [Lib.bytesWorld_cell w e s j (by omega), List.getD_eq_getElem?_getD, List.getElem?_eq_getElem h]; rfl
  · have hsz : s.size ≤ (Lib.bytesCells w e s).size := by
      unfold Lib.bytesCells
      rw [Array.size_append, Array.size_map]
      exact Nat.le_add_right _ _
    unfold World.frozen?
    rw [Lib.bytesWorld_at_new]
    simp; omega
theorem crow_set (W : World) (g : Nat) (l : List UInt8) (i : Nat) (x : UInt8) (h : CRow W g l) (hi : i < l.length) : CRow (W.setCell ⟨g, i, none⟩ (.int .u8 (x.toNat : Int))) g (l.set i x) := by
  intro j hj
  rw [List.length_set] at hj
  obtain ⟨h1, h2⟩ := h j hj
  refine ⟨?_, by rw [World.frozen?_setCell]; exact h2⟩
  by_cases e : i = j
  · subst e
    rw [World.cell?_setCell_same _ _ _ h1, List.getElem_set_self]
  · rw [World.cell?_setCell_other _ _ _ _ (by intro hh; injection hh with _ h3; exact e h3), h1, List.getElem_set_ne e]
theorem cleanL_keep (f : UInt8 → UInt8) (l : List UInt8) (i : Nat) (h : i < l.length) (hf : f l[i] = l[i]) : cleanL f l (i + 1) = cleanL f l i := by
  have hl := cleanL_len f l i (by omega)
  have h1 := cleanL_at f l i h
  rw [List.getElem?_eq_getElem (by omega)] at h1
  have h2 := Option.some.inj h1
  rw [cleanL_succ f l i h, hf, ← h2, List.set_getElem_self]
theorem str_of (l : List UInt8) : strOfNums (l.map fun b => (b.toNat : Int)) = ⟨l.toArray⟩ := by
  unfold strOfNums
  congr 1
  simp [Function.comp_def]
end Go.Proofs.YtnhhbdhkhdbanaaDoor.X
