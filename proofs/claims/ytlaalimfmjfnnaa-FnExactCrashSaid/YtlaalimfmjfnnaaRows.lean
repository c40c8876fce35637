/-
  No cell of these rows narrows 'for every input' (looked for: loops, veiled, ifaces, maps, wideKeys, modest, calm, conditions, laid).
  DERIVED. THE GIVEN ROWS OF THIS SEAT. 5 by the template 'for every input the law returns true; each argument reads behind the call as it read before'; 0 by the template 'total and deterministic' (their statements: YtlaalimfmjfnnaaTotals.lean).
  GIVEN WITH THE SEED: the statements are not yours to turn. If you find one false, say at which input.
  Laid BY PROGRAM, IN A SANDBOX (cutbox-rows.mjs): the forced cells as the released guide's own fill.sh prints them over the translation 02d6e18ff4ee4439… (all of the seat's roots in one cut). By AI agents, Wed Nov 11 2026. No macro, syntax, notation, axiom, sorry.
-/
import Derived.Test.YtlaalimfmjfnnaaChecked
import GoSem.Claim
import GoSem.ClaimJoined
import GoSem.ClaimMapViews
import Derived.JoinedTies
import Derived.KernelRfl
namespace Go.Proofs.Ytlaalimfmjfnnaa
/- THE CELL 'sum', in the pinned program and in every row, IS THE sha256 OF THE DUMP (.gsa) THAT YtlaalimfmjfnnaaProg.lean LOADS. Nothing in Lean hashes anything: it is a label: what it is worth is what the hold of that sum in a sandbox is worth. -/
noncomputable def Try.pinned : Pinned := { name := "ytlaalimfmjfnnaa", sum := "02d6e18ff4ee44392b6f40f4f035e089a0feff35d46f7e2fa2a266992e7bb9bb", checked := Try.checked }
namespace Rows
def none {H : Type} : Left H := { results := [], args := [] }

/-- 'laws.FnExactConstants': WHATEVER THE INPUT: true; the input reads as it did. -/
def fnExactConstantsSpec : ChangeSpec := { name := "fnExactConstants", fn := fun _ => fun
  | [] => { results := [.lit (.bool true)], args := [] }
  | _ => none }
def fnExactConstantsRow : OpenClaim := { program := "ytlaalimfmjfnnaa", sum := "02d6e18ff4ee44392b6f40f4f035e089a0feff35d46f7e2fa2a266992e7bb9bb", func := "loop.example/s01729/laws.FnExactConstants", spec := "fnExactConstants", apart := false }
def FnExactConstantsSaid : Prop := fnExactConstantsRow.holds Try.pinned (OpenSpec.ofChange fnExactConstantsSpec)

/-- ITS FALSE NEIGHBOUR: 'it returns false'. Refute it at one input. -/
def fnExactConstantsWrong : ChangeSpec := { name := "fnExactConstants", fn := fun _ => fun
  | [] => { results := [.lit (.bool false)], args := [] }
  | _ => none }
def FnExactConstantsWrongFalsely : Prop := fnExactConstantsRow.holds Try.pinned (OpenSpec.ofChange fnExactConstantsWrong)

/-- 'laws.FnExactDelay': WHATEVER THE INPUT: true; the input reads as it did. -/
def fnExactDelaySpec : ChangeSpec := { name := "fnExactDelay", fn := fun _ => fun
  | [d] => { results := [.lit (.bool true)], args := [d] }
  | _ => none }
def fnExactDelayRow : OpenClaim := { program := "ytlaalimfmjfnnaa", sum := "02d6e18ff4ee44392b6f40f4f035e089a0feff35d46f7e2fa2a266992e7bb9bb", func := "loop.example/s01729/laws.FnExactDelay", spec := "fnExactDelay", apart := false }
def FnExactDelaySaid : Prop := fnExactDelayRow.holds Try.pinned (OpenSpec.ofChange fnExactDelaySpec)

/-- ITS FALSE NEIGHBOUR: 'it returns false'. Refute it at one input. -/
def fnExactDelayWrong : ChangeSpec := { name := "fnExactDelay", fn := fun _ => fun
  | [d] => { results := [.lit (.bool false)], args := [d] }
  | _ => none }
def FnExactDelayWrongFalsely : Prop := fnExactDelayRow.holds Try.pinned (OpenSpec.ofChange fnExactDelayWrong)

/-- 'laws.FnExactClean': WHATEVER THE INPUT: true; the input reads as it did. -/
def fnExactCleanSpec : ChangeSpec := { name := "fnExactClean", fn := fun _ => fun
  | [d] => { results := [.lit (.bool true)], args := [d] }
  | _ => none }
def fnExactCleanRow : OpenClaim := { program := "ytlaalimfmjfnnaa", sum := "02d6e18ff4ee44392b6f40f4f035e089a0feff35d46f7e2fa2a266992e7bb9bb", func := "loop.example/s01729/laws.FnExactClean", spec := "fnExactClean", apart := false }
def FnExactCleanSaid : Prop := fnExactCleanRow.holds Try.pinned (OpenSpec.ofChange fnExactCleanSpec)

/-- ITS FALSE NEIGHBOUR: 'it returns false'. Refute it at one input. -/
def fnExactCleanWrong : ChangeSpec := { name := "fnExactClean", fn := fun _ => fun
  | [d] => { results := [.lit (.bool false)], args := [d] }
  | _ => none }
def FnExactCleanWrongFalsely : Prop := fnExactCleanRow.holds Try.pinned (OpenSpec.ofChange fnExactCleanWrong)

/-- 'laws.FnExactSync': WHATEVER THE INPUT: true; the input reads as it did. -/
def fnExactSyncSpec : ChangeSpec := { name := "fnExactSync", fn := fun _ => fun
  | [d] => { results := [.lit (.bool true)], args := [d] }
  | _ => none }
def fnExactSyncRow : OpenClaim := { program := "ytlaalimfmjfnnaa", sum := "02d6e18ff4ee44392b6f40f4f035e089a0feff35d46f7e2fa2a266992e7bb9bb", func := "loop.example/s01729/laws.FnExactSync", spec := "fnExactSync", apart := false }
def FnExactSyncSaid : Prop := fnExactSyncRow.holds Try.pinned (OpenSpec.ofChange fnExactSyncSpec)

/-- ITS FALSE NEIGHBOUR: 'it returns false'. Refute it at one input. -/
def fnExactSyncWrong : ChangeSpec := { name := "fnExactSync", fn := fun _ => fun
  | [d] => { results := [.lit (.bool false)], args := [d] }
  | _ => none }
def FnExactSyncWrongFalsely : Prop := fnExactSyncRow.holds Try.pinned (OpenSpec.ofChange fnExactSyncWrong)

/-- 'laws.FnExactCrash': WHATEVER THE INPUT: true; the input reads as it did. -/
def fnExactCrashSpec : ChangeSpec := { name := "fnExactCrash", fn := fun _ => fun
  | [d1, d2, d3] => { results := [.lit (.bool true)], args := [d1, d2, d3] }
  | _ => none }
def fnExactCrashRow : OpenClaim := { program := "ytlaalimfmjfnnaa", sum := "02d6e18ff4ee44392b6f40f4f035e089a0feff35d46f7e2fa2a266992e7bb9bb", func := "loop.example/s01729/laws.FnExactCrash", spec := "fnExactCrash", apart := false }
def FnExactCrashSaid : Prop := fnExactCrashRow.holds Try.pinned (OpenSpec.ofChange fnExactCrashSpec)

/-- ITS FALSE NEIGHBOUR: 'it returns false'. Refute it at one input. -/
def fnExactCrashWrong : ChangeSpec := { name := "fnExactCrash", fn := fun _ => fun
  | [d1, d2, d3] => { results := [.lit (.bool false)], args := [d1, d2, d3] }
  | _ => none }
def FnExactCrashWrongFalsely : Prop := fnExactCrashRow.holds Try.pinned (OpenSpec.ofChange fnExactCrashWrong)

/- THE SECOND FORM. 'bulk': how many values and letters a reading holds, each counted each time it is reached (what is shared counts as often as it is met; a slice's spare places count too). A statement '..UptoSaid' is the law's where the arguments, and the package variables that the reading takes, are together of bulk at most 1048576: NARROWER than '..Said'. Prove '..Said' where nothing that the law and all that it calls make is longer than what came in: it says more and counts as full. Else prove '..UptoSaid'. A law counts once. -/
mutual
def uptoBulk {H : Type} : DataW H → Nat
  | .lit (.string bytes) => bytes.length + 1
  | .lit _ => 1
  | .nil => 1
  | .ptr d => uptoBulk d + 1
  | .slice elems spare => uptoBulkAll elems + uptoBulkAll spare + 1
  | .agg parts => uptoBulkAll parts + 1
  | .iface _ d => uptoBulk d + 1
  | .map entries => uptoBulkEntries entries + 1
  | .held _ => 1
def uptoBulkAll {H : Type} : List (DataW H) → Nat
  | [] => 0
  | d :: r => uptoBulk d + uptoBulkAll r
def uptoBulkEntries {H : Type} : List (Lit × DataW H) → Nat
  | [] => 0
  | x :: r => uptoBulkEntry x + uptoBulkEntries r
def uptoBulkEntry {H : Type} : Lit × DataW H → Nat
  | (.string bytes, d) => bytes.length + uptoBulk d + 1
  | (_, d) => uptoBulk d + 1
 end
def uptoSmall : (H : Type) → List (DataW H) → Bool := fun _ ds => decide (uptoBulkAll ds ≤ 1048576)
def OpenSpec.upto (s : _root_.Go.ChangeSpec) : _root_.Go.OpenSpec := { _root_.Go.OpenSpec.ofChange s with cond := some uptoSmall }

/-- 'laws.FnExactConstants', WHERE WHAT IT READS IS OF BULK AT MOST 1048576: true; the input reads as it did. -/
def fnExactConstantsUptoRow : OpenClaim := { program := "ytlaalimfmjfnnaa", sum := "02d6e18ff4ee44392b6f40f4f035e089a0feff35d46f7e2fa2a266992e7bb9bb", func := "loop.example/s01729/laws.FnExactConstants", spec := "fnExactConstants", apart := false, narrowed := true }
def FnExactConstantsUptoSaid : Prop := fnExactConstantsUptoRow.holds Try.pinned (OpenSpec.upto fnExactConstantsSpec)

/-- 'laws.FnExactDelay', WHERE WHAT IT READS IS OF BULK AT MOST 1048576: true; the input reads as it did. -/
def fnExactDelayUptoRow : OpenClaim := { program := "ytlaalimfmjfnnaa", sum := "02d6e18ff4ee44392b6f40f4f035e089a0feff35d46f7e2fa2a266992e7bb9bb", func := "loop.example/s01729/laws.FnExactDelay", spec := "fnExactDelay", apart := false, narrowed := true }
def FnExactDelayUptoSaid : Prop := fnExactDelayUptoRow.holds Try.pinned (OpenSpec.upto fnExactDelaySpec)

/-- 'laws.FnExactClean', WHERE WHAT IT READS IS OF BULK AT MOST 1048576: true; the input reads as it did. -/
def fnExactCleanUptoRow : OpenClaim := { program := "ytlaalimfmjfnnaa", sum := "02d6e18ff4ee44392b6f40f4f035e089a0feff35d46f7e2fa2a266992e7bb9bb", func := "loop.example/s01729/laws.FnExactClean", spec := "fnExactClean", apart := false, narrowed := true }
def FnExactCleanUptoSaid : Prop := fnExactCleanUptoRow.holds Try.pinned (OpenSpec.upto fnExactCleanSpec)

/-- 'laws.FnExactSync', WHERE WHAT IT READS IS OF BULK AT MOST 1048576: true; the input reads as it did. -/
def fnExactSyncUptoRow : OpenClaim := { program := "ytlaalimfmjfnnaa", sum := "02d6e18ff4ee44392b6f40f4f035e089a0feff35d46f7e2fa2a266992e7bb9bb", func := "loop.example/s01729/laws.FnExactSync", spec := "fnExactSync", apart := false, narrowed := true }
def FnExactSyncUptoSaid : Prop := fnExactSyncUptoRow.holds Try.pinned (OpenSpec.upto fnExactSyncSpec)

/-- 'laws.FnExactCrash', WHERE WHAT IT READS IS OF BULK AT MOST 1048576: true; the input reads as it did. -/
def fnExactCrashUptoRow : OpenClaim := { program := "ytlaalimfmjfnnaa", sum := "02d6e18ff4ee44392b6f40f4f035e089a0feff35d46f7e2fa2a266992e7bb9bb", func := "loop.example/s01729/laws.FnExactCrash", spec := "fnExactCrash", apart := false, narrowed := true }
def FnExactCrashUptoSaid : Prop := fnExactCrashUptoRow.holds Try.pinned (OpenSpec.upto fnExactCrashSpec)

end Rows
end Go.Proofs.Ytlaalimfmjfnnaa
