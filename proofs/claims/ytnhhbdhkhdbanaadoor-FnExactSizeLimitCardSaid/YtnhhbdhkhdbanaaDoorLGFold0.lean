/- unicode.SimpleFold at the letters of "SIZE" and at 383; unicode/utf8.DecodeRuneInString at a byte below 128. Condition: the tables (GlF). -/
import Derived.Test.YtnhhbdhkhdbanaaDoorLX0
import Derived.Test.YtnhhbdhkhdbanaaDoorLGlobF
import Derived.Lib.Hide
import Derived.Lib.Strings
import Derived.Deep.LoopGhost
import Derived.WalkKit
import Derived.Lib.Walk
import Derived.Lib.IndexBytes
namespace Go.Proofs.YtnhhbdhkhdbanaaDoor.X
open Go Go.RowKit Go.Proofs.YtnhhbdhkhdbanaaDoorW.PrintWords
set_option linter.unusedVariables false
set_option linter.unusedSimpArgs false
set_option maxHeartbeats 4000000 in
set_option maxRecDepth 100000 in
theorem decodeAscii (s : ByteArray) (x : UInt8) (w : World) (h0 : s.data.toList[0]? = some x) (hx : x.toNat < 128) :
    Calls Tryd.prog 102 #[.string s] w fun e w' => e = .returned (.tuple #[.int .i32 x.toNat, .int .i64 1]) ∧ w' = w := by
  have hsz : 0 < s.size := by
    rw [Lib.size_eq]
    exact (List.getElem?_eq_some_iff.1 h0).1
  have hne : s.toList.isEmpty = false := by
    rw [Lib.toList_data]
    cases h : s.data.toList with
    | nil => rw [h] at h0; cases h0
    | cons _ _ => rfl
  have hx0 : s[0]'hsz = x := by have := Lib.data_getElem? s 0 hsz; rw [h0] at this; exact (Option.some.inj this).symm
  have hsz' : (0 : Int) < (s.size : Int) := by omega
  have hx' : (x.toNat : Int) < 128 := by omega
  go_enter Tryd.func102, Tryd.ntmps102
  go_wp2
  go_ret2
  exact ⟨rfl, rfl⟩
set_option maxHeartbeats 4000000 in
set_option maxRecDepth 100000 in
theorem foldAscii (r q : Nat) (w : World) (hr : r < 128) (hc : w.cell? ⟨0, r, none⟩ = some (.int .u16 q)) (hq : q < 65536) :
    Calls Tryd.prog 103 #[.int .i32 r] w fun e w' => e = .returned (.int .i32 q) ∧ w' = w := by
  have h1 : ¬ ((r : Int) < 0) := by omega
  have h2 : ¬ ((1114111 : Int) < (r : Int)) := by omega
  have h3 : (r : Int) < 128 := by omega
  have h4 : (0 ≤ (r : Int)) = True := by simp
  go_enter Tryd.func103, Tryd.ntmps103
  go_wp2
  go_ret
  exact ⟨rfl, rfl⟩
end Go.Proofs.YtnhhbdhkhdbanaaDoor.X
