/- The row of laws.FnExactDueIds: the printed walk of the law, over the pure statement that this session proved. No condition beyond the given statement's. -/
import Derived.Test.YtnhhbdhkhdbanaaRows
import Derived.Test.YtnhhbdhkhdbanaaUX8
import Derived.Test.YtnhhbdhkhdbanaaUPureFnExactDueIds
import Derived.Test.YtnhhbdhkhdbanaaUOpn
import Derived.WalkKit
import Derived.ProofKit
import Derived.OpenShut
import Derived.ShutString
import Derived.ChangeOld
import Derived.Below
import Derived.SizedLaws
import Derived.Carry
import Derived.LaidMore
import Derived.Lay
import Derived.SevenTiedAt
import Derived.Stop.Joined
namespace Go.Proofs.Ytnhhbdhkhdbanaa.fnExactDueIds
open Go.ChangeShapes Go.WideShapes Go.ChangeAt Go.RowKit Go.Proofs.YtnhhbdhkhdbanaaW.PrintWords
open Go.ChangeMaps (open_string shut_string)
set_option linter.unusedVariables false
theorem own : ownKnob Try.prog.godebug = none := by kernel_rfl
theorem laidOut : laidOutB Try.prog = true := by kernel_rfl
set_option maxRecDepth 100000 in
set_option maxHeartbeats 1000000 in
theorem lifted (os : Os) (started : os.Started) (H : Type) (enc : TypeId × Value → H) :
    ReturnsInHanded {} Try.checked os 4 .any (Rows.fnExactDueIdsSpec.pre6 enc Try.prog Try.f4 Rows.fnExactDueIdsRow.domain false) (Rows.fnExactDueIdsSpec.post enc Try.prog Try.f4 false true false false) := by
  refine returnsInHanded_of_change_sized (C := Try.checked) own started (by kernel_rfl) Try.func4
    (ChangeSpec.witness6 (enc := enc) (C := Try.checked) false ⟨#[], #[.agg #[.slice none 0 0, .int .i64 0], .int .i64 0], []⟩ 8 (by kernel_rfl) (by kernel_rfl) (by kernel_rfl) (by kernel_rfl)) ?_
  intro W base args ds gs before hval0 hW hcnd _ _
  have hval : ∀ (j : Nat) t v, Try.f4.params[j]? = some t → args[j]? = some v → Value.okWide Try.prog W .any base t v := hval0
  have hW' := hW
  obtain ⟨p, q, hA0, hV, rfl, hfz, hnd⟩ := hW
  have hA : DataW.TrodAll enc Try.prog W 0 (fun _ => true) true Try.f4.params.toList args.toList ds p := hA0
  rw [Try.params4] at hA hval
  obtain ⟨v0, vs0, d0, ds0, p0, q0, hargs, rfl, rfl, h0, r0⟩ := trodAll_cons hA
  obtain ⟨v1, vs1, d1, ds1, p1, q1, rfl, rfl, rfl, h1, r1⟩ := trodAll_cons r0
  obtain ⟨rfl, rfl, rfl⟩ := trodAll_nil r1
  obtain rfl : args = #[v0, v1] := by cases args; simp_all
  obtain ⟨rfl, rfl⟩ := trodVars_none hV
  have k0 := h0
  have lt0 : ∀ x ∈ p0, x.block < W.heap.size := by obtain ⟨m, hm⟩ := k0; exact DataW.trod_lt m _ _ _ hm
  obtain ⟨a0, cs0, rfl, hK0, w0⟩ := Opn.open_val Try.underlying26 (Opn.opens_struct Try.underlying26 rfl (by kernel_rfl) (Opn.fopens_pair (Opn.opens_slice Try.underlying24 (by kernel_rfl) (Opn.opens_iso (f := fun x : X.S64 => (x.f0, x.f1, x.f2, x.f3, x.f4)) (fun a => (⟨a.1, a.2.1, a.2.2.1, a.2.2.2.1, a.2.2.2.2⟩ : X.S64)) (fun _ => rfl) (Opn.opens_struct Try.underlying64 rfl (by kernel_rfl) (Opn.fopens_pair (Opn.opens_iso (f := fun x : X.S61 => (x.f0, x.f1, x.f2, x.f3, x.f4)) (fun a => (⟨a.1, a.2.1, a.2.2.1, a.2.2.2.1, a.2.2.2.2⟩ : X.S61)) (fun _ => rfl) (Opn.opens_struct Try.underlying61 rfl (by kernel_rfl) (Opn.fopens_pair (Opn.opens_int Try.underlying3) (by kernel_rfl) (by rfl) (Opn.fopens_pair (Opn.opens_int Try.underlying2) (by kernel_rfl) (by rfl) (Opn.fopens_pair (Opn.opens_string Try.underlying9) (by kernel_rfl) (by rfl) (Opn.fopens_pair (Opn.opens_slice Try.underlying43 (by kernel_rfl) (Opn.opens_string Try.underlying9)) (by kernel_rfl) (by rfl) (Opn.fopens_one (Opn.opens_string Try.underlying9) (by kernel_rfl)))))))) (by kernel_rfl) (by rfl) (Opn.fopens_pair (Opn.opens_slice Try.underlying62 (by kernel_rfl) (Opn.opens_iso (f := fun x : X.S87 => (x.f0, x.f1, x.f2)) (fun a => (⟨a.1, a.2.1, a.2.2⟩ : X.S87)) (fun _ => rfl) (Opn.opens_struct Try.underlying87 rfl (by kernel_rfl) (Opn.fopens_pair (Opn.opens_int Try.underlying3) (by kernel_rfl) (by rfl) (Opn.fopens_pair (Opn.opens_int Try.underlying3) (by kernel_rfl) (by rfl) (Opn.fopens_one (Opn.opens_string Try.underlying9) (by kernel_rfl))))))) (by kernel_rfl) (by rfl) (Opn.fopens_pair (Opn.opens_int Try.underlying3) (by kernel_rfl) (by rfl) (Opn.fopens_pair (Opn.opens_int Try.underlying2) (by kernel_rfl) (by rfl) (Opn.fopens_one (Opn.opens_bool Try.underlying4) (by kernel_rfl))))))))) (by kernel_rfl) (by rfl) (Opn.fopens_one (Opn.opens_int Try.underlying3) (by kernel_rfl)))) (hval 0 26 v0 rfl rfl) h0
  obtain ⟨_, _, rfl, ⟨A0_1, c0_1, rfl, hl0_1, hC0_1⟩, rfl⟩ := hK0
  have k1 := h1
  have lt1 : ∀ x ∈ p1, x.block < W.heap.size := by obtain ⟨m, hm⟩ := k1; exact DataW.trod_lt m _ _ _ hm
  obtain ⟨a1, rfl, _, _, w1⟩ := open_int Try.underlying2 (hval 1 2 v1 rfl rfl) h1
  clear hA0 hval0
  obtain ⟨k, h⟩ := Pure.FnExactDueIds a0 w0 a1 w1
  refine (X.laws_FnExactDueIds.calls k _ _ a0.1 a0.2 a1 true W hC0_1 hl0_1 h).mono fun e W' ⟨he, bel0⟩ => ?_
  have bel : Below W.heap.size W W' := bel0
  subst he
  exact ⟨_, rfl, _, _, _, [], _, [], hW', trodAll_mk1 (shut_bool Try.underlying4 _), (trodAll_cons_mk (Below.trod laidOut (by kernel_rfl) (of_decide_eq_true (by kernel_rfl)) k0 bel lt0) (trodAll_cons_mk (Below.trod laidOut (by kernel_rfl) (of_decide_eq_true (by kernel_rfl)) k1 bel lt1) trodAll_mk0)), rfl, bel.frame _, fun h => by cases h⟩
-- each fact of the row by itself: the checker's memory is given back after each
theorem t1 : Try.pinned.checked.prog.funcNamed Rows.fnExactDueIdsRow.func = some 4 := by kernel_rfl
theorem t2 : joinedFacts Try.pinned.checked.prog 4 Try.f4 Rows.fnExactDueIdsSpec Rows.fnExactDueIdsRow = true := by kernel_rfl
theorem t3 : Try.f4.isInstance Try.pinned.checked.prog Rows.fnExactDueIdsRow.origin Rows.fnExactDueIdsRow.targs := (of_decide_eq_true (by kernel_rfl))
theorem t4 : Try.f4.isWrapper Try.pinned.checked.prog Rows.fnExactDueIdsRow.wrapper Rows.fnExactDueIdsRow.mainSum := (by unfold Func.isWrapper; first | (rw [if_pos (by decide +kernel)]; kernel_rfl) | (rw [if_neg (by decide +kernel)]; exact ⟨rfl, rfl⟩))
theorem t5 : ∀ os : Os, os.Started → ∀ (H : Type) (enc : TypeId × Value → H), (∀ a b, enc a = enc b → a = b) →
    ReturnsInHanded Rows.fnExactDueIdsRow.assume Try.pinned.checked os 4 .any (Rows.fnExactDueIdsRow.pre enc Try.pinned.checked.prog Try.f4 (OpenSpec.ofChange Rows.fnExactDueIdsSpec)) (Rows.fnExactDueIdsSpec.post enc Try.pinned.checked.prog Try.f4 Rows.fnExactDueIdsRow.apart Rows.fnExactDueIdsRow.fresh Rows.fnExactDueIdsRow.handsOn Rows.fnExactDueIdsRow.again) := fun os started H enc _ => lifted os started H enc
theorem over : Rows.fnExactDueIdsRow.holds Try.pinned (OpenSpec.ofChange Rows.fnExactDueIdsSpec) :=
  OpenClaim.holds_of_wide 4 Try.f4 rfl rfl rfl rfl rfl rfl rfl ⟨rfl, rfl, rfl, rfl, rfl⟩ rfl rfl rfl rfl rfl t1 Try.func4 t2 t3 t4 t5
end Go.Proofs.Ytnhhbdhkhdbanaa.fnExactDueIds
namespace Go.Proofs.Ytnhhbdhkhdbanaa
theorem fnExactDueIds_holds : Rows.FnExactDueIdsSaid := fnExactDueIds.over
#print axioms fnExactDueIds_holds
end Go.Proofs.Ytnhhbdhkhdbanaa
