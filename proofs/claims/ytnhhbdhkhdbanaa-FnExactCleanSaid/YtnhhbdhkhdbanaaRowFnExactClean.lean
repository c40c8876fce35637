/- The row of laws.FnExactClean: the printed walk of the law, over the pure statement that this session proved. No condition beyond the given statement's. -/
import Derived.Test.YtnhhbdhkhdbanaaRows
import Derived.Test.YtnhhbdhkhdbanaaX3
import Derived.Test.YtnhhbdhkhdbanaaPureFnExactClean
import Derived.Test.YtnhhbdhkhdbanaaOpn
import Derived.WalkKit
import Derived.ProofKit
import Derived.OpenShut
import Derived.ShutString
import Derived.ChangeOld
import Derived.Below
import Derived.SizedLaws
import Derived.Carry
import Derived.LaidMore
import Derived.Lay
import Derived.SevenTiedAt
import Derived.Stop.Joined
namespace Go.Proofs.Ytnhhbdhkhdbanaa.fnExactClean
open Go.ChangeShapes Go.WideShapes Go.ChangeAt Go.RowKit Go.Proofs.YtnhhbdhkhdbanaaW.PrintWords
open Go.ChangeMaps (open_string shut_string)
set_option linter.unusedVariables false
theorem own : ownKnob Try.prog.godebug = none := by kernel_rfl
theorem laidOut : laidOutB Try.prog = true := by kernel_rfl
set_option maxRecDepth 100000 in
set_option maxHeartbeats 1000000 in
theorem lifted (os : Os) (started : os.Started) (H : Type) (enc : TypeId × Value → H) :
    ReturnsInHanded {} Try.checked os 3 .any (Rows.fnExactCleanSpec.pre6 enc Try.prog Try.f3 Rows.fnExactCleanRow.domain false) (Rows.fnExactCleanSpec.post enc Try.prog Try.f3 false true false false) := by
  refine returnsInHanded_of_change_sized (C := Try.checked) own started (by kernel_rfl) Try.func3
    (ChangeSpec.witness6 (enc := enc) (C := Try.checked) false ⟨#[], #[.string ByteArray.empty], []⟩ 8 (by kernel_rfl) (by kernel_rfl) (by kernel_rfl) (by kernel_rfl)) ?_
  intro W base args ds gs before hval0 hW hcnd _ _
  have hval : ∀ (j : Nat) t v, Try.f3.params[j]? = some t → args[j]? = some v → Value.okWide Try.prog W .any base t v := hval0
  have hW' := hW
  obtain ⟨p, q, hA0, hV, rfl, hfz, hnd⟩ := hW
  have hA : DataW.TrodAll enc Try.prog W 0 (fun _ => true) true Try.f3.params.toList args.toList ds p := hA0
  rw [Try.params3] at hA hval
  obtain ⟨v0, vs0, d0, ds0, p0, q0, hargs, rfl, rfl, h0, r0⟩ := trodAll_cons hA
  obtain ⟨rfl, rfl, rfl⟩ := trodAll_nil r0
  obtain rfl : args = #[v0] := by cases args; simp_all
  obtain ⟨rfl, rfl⟩ := trodVars_none hV
  have k0 := h0
  have lt0 : ∀ x ∈ p0, x.block < W.heap.size := by obtain ⟨m, hm⟩ := k0; exact DataW.trod_lt m _ _ _ hm
  obtain ⟨a0, rfl, _, _, w0⟩ := open_string Try.underlying9 (hval 0 9 v0 rfl rfl) h0
  clear hA0 hval0
  have h := Pure.FnExactClean a0 w0
  refine (X.laws_FnExactClean.calls a0 true W h).mono fun e W' ⟨he, bel0⟩ => ?_
  have bel : Below W.heap.size W W' := bel0
  subst he
  exact ⟨_, rfl, _, _, _, [], _, [], hW', trodAll_mk1 (shut_bool Try.underlying4 _), (trodAll_cons_mk (Below.trod laidOut (by kernel_rfl) (of_decide_eq_true (by kernel_rfl)) k0 bel lt0) trodAll_mk0), rfl, bel.frame _, fun h => by cases h⟩
-- each fact of the row by itself: the checker's memory is given back after each
theorem t1 : Try.pinned.checked.prog.funcNamed Rows.fnExactCleanRow.func = some 3 := by kernel_rfl
theorem t2 : joinedFacts Try.pinned.checked.prog 3 Try.f3 Rows.fnExactCleanSpec Rows.fnExactCleanRow = true := by kernel_rfl
theorem t3 : Try.f3.isInstance Try.pinned.checked.prog Rows.fnExactCleanRow.origin Rows.fnExactCleanRow.targs := (of_decide_eq_true (by kernel_rfl))
theorem t4 : Try.f3.isWrapper Try.pinned.checked.prog Rows.fnExactCleanRow.wrapper Rows.fnExactCleanRow.mainSum := (by unfold Func.isWrapper; first | (rw [if_pos (by decide +kernel)]; kernel_rfl) | (rw [if_neg (by decide +kernel)]; exact ⟨rfl, rfl⟩))
theorem t5 : ∀ os : Os, os.Started → ∀ (H : Type) (enc : TypeId × Value → H), (∀ a b, enc a = enc b → a = b) →
    ReturnsInHanded Rows.fnExactCleanRow.assume Try.pinned.checked os 3 .any (Rows.fnExactCleanRow.pre enc Try.pinned.checked.prog Try.f3 (OpenSpec.ofChange Rows.fnExactCleanSpec)) (Rows.fnExactCleanSpec.post enc Try.pinned.checked.prog Try.f3 Rows.fnExactCleanRow.apart Rows.fnExactCleanRow.fresh Rows.fnExactCleanRow.handsOn Rows.fnExactCleanRow.again) := fun os started H enc _ => lifted os started H enc
theorem over : Rows.fnExactCleanRow.holds Try.pinned (OpenSpec.ofChange Rows.fnExactCleanSpec) :=
  OpenClaim.holds_of_wide 3 Try.f3 rfl rfl rfl rfl rfl rfl rfl ⟨rfl, rfl, rfl, rfl, rfl⟩ rfl rfl rfl rfl rfl t1 Try.func3 t2 t3 t4 t5
end Go.Proofs.Ytnhhbdhkhdbanaa.fnExactClean
namespace Go.Proofs.Ytnhhbdhkhdbanaa
theorem fnExactClean_holds : Rows.FnExactCleanSaid := fnExactClean.over
#print axioms fnExactClean_holds
end Go.Proofs.Ytnhhbdhkhdbanaa
