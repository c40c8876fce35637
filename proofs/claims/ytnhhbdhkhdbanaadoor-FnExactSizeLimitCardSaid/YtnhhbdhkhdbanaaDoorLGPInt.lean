/- The contract of strconv.ParseInt at base 10 and 64 bits, where the text reads as a number. -/
import Derived.Test.YtnhhbdhkhdbanaaDoorLX0
import Derived.Test.YtnhhbdhkhdbanaaDoorLGlob
import Derived.Test.YtnhhbdhkhdbanaaDoorLShelf
import Derived.Lib.ConvBytes
import Derived.Lib.Hide
import Derived.Lib.Strings
import Derived.Lib.ParseIntB
import Derived.Deep.LoopGhost
import Derived.WalkKit
import Derived.Lib.Walk
namespace Go.Proofs.YtnhhbdhkhdbanaaDoor.X
open Go Go.RowKit Go.Proofs.YtnhhbdhkhdbanaaDoorW.PrintWords
def strconv_ParseInt.f (a0 : ByteArray) (a1 a2 : Int) : Option (Int × Option Int) := if a0.size ≤ 18 ∧ a1 = 10 ∧ a2 = 64 then (match Lib.parseIntB 64 a0.data.toList with | .ok v => some (v, none) | _ => none) else none
set_option maxHeartbeats 4000000 in
set_option maxRecDepth 100000 in
theorem strconv_ParseInt.calls (a0 : ByteArray) (a1 a2 : Int) (r1 : Int) (r2 : Option Int) (w : World) (h : strconv_ParseInt.f a0 a1 a2 = some (r1, r2)) :
    Calls Tryd.prog 60 #[.string a0, .int .i64 a1, .int .i64 a2] w fun e w' => e = .returned (.tuple #[.int .i64 r1, errW r2]) ∧ Below w.heap.size w w' := by
  unfold strconv_ParseInt.f at h
  split at h
  · rename_i hs
    obtain ⟨hs, rfl, rfl⟩ := hs
    split at h
    · rename_i v hv
      simp only [Option.some.injEq, Prod.mk.injEq] at h
      obtain ⟨rfl, rfl⟩ := h
      have hne : a0.size ≠ 0 := fun hz => by
        have e : a0.data.toList = [] := List.eq_nil_of_length_eq_zero (by rw [← Lib.size_eq]; exact hz)
        rw [e] at hv; cases hv
      have hI := Tryd.internal_strconv_ParseInt_10_at64 a0 hne (by omega) w
      rw [hv] at hI
      have hI : Calls Tryd.prog 104 #[.string a0, .int .i64 10, .int .i64 64] w fun e w' => e = .returned (.tuple #[.int .i64 v, .nilIface]) ∧ (w' = w ∨ ∃ t, w' = Lib.bytesWorld w 5 t) := hI
      have HI := Lib.hid hI
      clear hI hv hne
      go_enter Tryd.func60, Tryd.ntmps60
      go_wp2_with (go_at_call 104; refine HI.out.mono ?_; rintro e w1 ⟨rfl, hw1⟩; have HW1 := Aside0.mk hw1; clear hw1)
      go_wp2
      go_ret2
      refine ⟨rfl, ?_⟩
      rcases HW1.out with rfl | ⟨t, rfl⟩
      · exact Below.refl _ _
      · exact bytes_below (Below.refl _ _) (Nat.le_refl _) _ _
    · cases h
  · cases h
end Go.Proofs.YtnhhbdhkhdbanaaDoor.X
