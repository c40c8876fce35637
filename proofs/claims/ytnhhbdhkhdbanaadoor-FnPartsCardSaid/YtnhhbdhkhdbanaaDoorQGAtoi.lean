/- The contract of strconv.Atoi on a short number, in the form in which this seat's printed functions are told. Condition: at most 18 bytes that read as a number. -/
import Derived.Test.YtnhhbdhkhdbanaaDoorQX0
import Derived.Test.YtnhhbdhkhdbanaaDoorQGlob
import Derived.Test.YtnhhbdhkhdbanaaDoorQShelf
import Derived.Lib.ConvBytes
namespace Go.Proofs.YtnhhbdhkhdbanaaDoor.X
open Go Go.RowKit Go.Proofs.YtnhhbdhkhdbanaaDoorW.PrintWords

def strconv_Atoi.f (a0 : ByteArray) : Option (Int × Option Int) := if a0.size ≤ 18 then (Lib.atoi a0.data.toList).map (fun n => (n, none)) else none
theorem strconv_Atoi.calls (a0 : ByteArray) (r1 : Int) (r2 : Option Int) (w : World) (h : strconv_Atoi.f a0 = some (r1, r2)) :
    Calls Tryd.prog 83 #[.string a0] w fun e w' => e = .returned (.tuple #[.int .i64 r1, errW r2]) ∧ Below w.heap.size w w' := by
  unfold strconv_Atoi.f at h
  split at h
  · rename_i hs
    obtain ⟨n, hn, h⟩ := Option.map_eq_some_iff.1 h
    simp only [Prod.mk.injEq] at h
    obtain ⟨rfl, rfl⟩ := h
    refine (Tryd.strconv_Atoi a0 n hs hn w).mono ?_
    rintro e w' ⟨rfl, t, rfl⟩
    exact ⟨rfl, bytes_below (Below.refl _ _) (Nat.le_refl _) _ _⟩
  · cases h
end Go.Proofs.YtnhhbdhkhdbanaaDoor.X
