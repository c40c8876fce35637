/- An element of a row. Plain Lean. -/
import Derived.Test.YtnhhbdhkhdbanaaUX0
namespace Go.Proofs.Ytnhhbdhkhdbanaa.Pure
open Go Go.RowKit Go.Proofs.YtnhhbdhkhdbanaaW.PrintWords
theorem wrap_id (x : Int) (h0 : -9223372036854775808 ≤ x) (h1 : x ≤ 9223372036854775807) : wrap64 x = x := by
  unfold wrap64; omega
theorem rd_get (xs : List ByteArray) (i : Nat) (h : i < xs.length) : rdOf ByteArray.empty xs (i : Int) = xs[i] := by
  unfold rdOf; rw [Int.toNat_natCast, List.getD_eq_getElem?_getD, List.getElem?_eq_getElem h]; rfl
end Go.Proofs.Ytnhhbdhkhdbanaa.Pure
