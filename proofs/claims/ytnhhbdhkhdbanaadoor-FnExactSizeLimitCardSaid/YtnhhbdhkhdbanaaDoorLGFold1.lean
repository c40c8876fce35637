/- unicode.SimpleFold at 383. Condition: the tables (GlF). -/
import Derived.Test.YtnhhbdhkhdbanaaDoorLGFold0
namespace Go.Proofs.YtnhhbdhkhdbanaaDoor.X
open Go Go.RowKit Go.Proofs.YtnhhbdhkhdbanaaDoorW.PrintWords
set_option linter.unusedVariables false
set_option linter.unusedSimpArgs false
def orbSteps : List (Nat × Int × Int) := [(7, 0, 94), (6, 0, 47), (5, 0, 23), (4, 0, 11), (3, 6, 11), (2, 9, 11), (1, 9, 10), (0, 10, 10)]
set_option maxHeartbeats 4000000 in
set_option maxRecDepth 100000 in
theorem foldOrbit (w : World) (hG : GlF w) :
    Calls Tryd.prog 103 #[.int .i32 383] w fun e w' => e = .returned (.int .i32 83) ∧ w' = w := by
  obtain ⟨-, b, off, cap, hs, ht⟩ := hG
  have HT := Lib.hid ht
  clear ht
  go_enter Tryd.func103, Tryd.ntmps103
  go_wp2
  go_loopg [3, 4] 7 (fun k p q wx => wx = w ∧ ∃ lo hi : Int, p = .int .i64 lo ∧ q = .int .i64 hi ∧ (k, lo, hi) ∈ orbSteps)
  case atStart => exact ⟨rfl, 0, 94, rfl, rfl, by decide⟩
  case round =>
    obtain ⟨rfl, lo, hi, rfl, rfl, hm⟩ := hrel
    simp only [orbSteps, List.mem_cons, List.not_mem_nil, Prod.mk.injEq, or_false] at hm
    rcases hm with ⟨rfl, rfl, rfl⟩ | ⟨rfl, rfl, rfl⟩ | ⟨rfl, rfl, rfl⟩ | ⟨rfl, rfl, rfl⟩ | ⟨rfl, rfl, rfl⟩ | ⟨rfl, rfl, rfl⟩ | ⟨rfl, rfl, rfl⟩ | ⟨rfl, rfl, rfl⟩
    · have h1 := HT.out 94 966 (by decide)
      go_wp2
      go_roundg 6
      case measure => omega
      case rel => exact ⟨rfl, _, _, rfl, rfl, by decide⟩
    · have h1 := HT.out 46 837 (by decide)
      go_wp2
      go_roundg 5
      case measure => omega
      case rel => exact ⟨rfl, _, _, rfl, rfl, by decide⟩
    · have h1 := HT.out 22 452 (by decide)
      go_wp2
      go_roundg 4
      case measure => omega
      case rel => exact ⟨rfl, _, _, rfl, rfl, by decide⟩
    · have h1 := HT.out 10 197 (by decide)
      go_wp2
      go_roundg 3
      case measure => omega
      case rel => exact ⟨rfl, _, _, rfl, rfl, by decide⟩
    · have h1 := HT.out 16 304 (by decide)
      go_wp2
      go_roundg 2
      case measure => omega
      case rel => exact ⟨rfl, _, _, rfl, rfl, by decide⟩
    · have h1 := HT.out 20 383 (by decide)
      go_wp2
      go_roundg 1
      case measure => omega
      case rel => exact ⟨rfl, _, _, rfl, rfl, by decide⟩
    · have h1 := HT.out 18 305 (by decide)
      go_wp2
      go_roundg 0
      case measure => omega
      case rel => exact ⟨rfl, _, _, rfl, rfl, by decide⟩
    · have h1 := HT.out 20 383 (by decide)
      have h2 := HT.out 21 83 (by decide)
      go_wp2
      go_ret
      exact ⟨rfl, rfl⟩
end Go.Proofs.YtnhhbdhkhdbanaaDoor.X
