/- The row of laws.FnExactCrash: the printed walk of the law, over the pure statement that this session proved. No condition beyond the given statement's. -/
import Derived.Test.YtlaalimfmjfnnaaRows
import Derived.Test.YtlaalimfmjfnnaaX1
import Derived.Test.YtlaalimfmjfnnaaPureFnExactCrash
import Derived.Test.YtlaalimfmjfnnaaOpn
import Derived.WalkKit
import Derived.ProofKit
import Derived.OpenShut
import Derived.ShutString
import Derived.ChangeOld
import Derived.Below
import Derived.SizedLaws
import Derived.Carry
import Derived.LaidMore
import Derived.Lay
import Derived.SevenTiedAt
import Derived.Stop.Joined
namespace Go.Proofs.Ytlaalimfmjfnnaa.fnExactCrash
open Go.ChangeShapes Go.WideShapes Go.ChangeAt Go.RowKit Go.Proofs.YtlaalimfmjfnnaaW.PrintWords
open Go.ChangeMaps (open_string shut_string)
set_option linter.unusedVariables false
theorem own : ownKnob Try.prog.godebug = none := by kernel_rfl
theorem laidOut : laidOutB Try.prog = true := by kernel_rfl
set_option maxRecDepth 100000 in
set_option maxHeartbeats 1000000 in
theorem lifted (os : Os) (started : os.Started) (H : Type) (enc : TypeId × Value → H) :
    ReturnsInHanded {} Try.checked os 7 .any (Rows.fnExactCrashSpec.pre6 enc Try.prog Try.f7 Rows.fnExactCrashRow.domain false) (Rows.fnExactCrashSpec.post enc Try.prog Try.f7 false true false false) := by
  refine returnsInHanded_of_change_sized (C := Try.checked) own started (by kernel_rfl) Try.func7
    (ChangeSpec.witness6 (enc := enc) (C := Try.checked) false ⟨#[], #[.agg #[.string ByteArray.empty, .string ByteArray.empty, .bool false, .string ByteArray.empty, .string ByteArray.empty], .int .i64 0, .int .i64 0], []⟩ 8 (by kernel_rfl) (by kernel_rfl) (by kernel_rfl) (by kernel_rfl)) ?_
  intro W base args ds gs before hval0 hW hcnd _ _
  have hval : ∀ (j : Nat) t v, Try.f7.params[j]? = some t → args[j]? = some v → Value.okWide Try.prog W .any base t v := hval0
  have hW' := hW
  obtain ⟨p, q, hA0, hV, rfl, hfz, hnd⟩ := hW
  have hA : DataW.TrodAll enc Try.prog W 0 (fun _ => true) true Try.f7.params.toList args.toList ds p := hA0
  rw [Try.params7] at hA hval
  obtain ⟨v0, vs0, d0, ds0, p0, q0, hargs, rfl, rfl, h0, r0⟩ := trodAll_cons hA
  obtain ⟨v1, vs1, d1, ds1, p1, q1, rfl, rfl, rfl, h1, r1⟩ := trodAll_cons r0
  obtain ⟨v2, vs2, d2, ds2, p2, q2, rfl, rfl, rfl, h2, r2⟩ := trodAll_cons r1
  obtain ⟨rfl, rfl, rfl⟩ := trodAll_nil r2
  obtain rfl : args = #[v0, v1, v2] := by cases args; simp_all
  obtain ⟨rfl, rfl⟩ := trodVars_none hV
  have k0 := h0
  have lt0 : ∀ x ∈ p0, x.block < W.heap.size := by obtain ⟨m, hm⟩ := k0; exact DataW.trod_lt m _ _ _ hm
  obtain ⟨a0, cs0, rfl, hK0, w0⟩ := Opn.open_val Try.underlying28 (Opn.opens_struct Try.underlying28 rfl (by kernel_rfl) (Opn.fopens_pair (Opn.opens_string Try.underlying9) (by kernel_rfl) (by rfl) (Opn.fopens_pair (Opn.opens_string Try.underlying9) (by kernel_rfl) (by rfl) (Opn.fopens_pair (Opn.opens_bool Try.underlying4) (by kernel_rfl) (by rfl) (Opn.fopens_pair (Opn.opens_string Try.underlying9) (by kernel_rfl) (by rfl) (Opn.fopens_one (Opn.opens_string Try.underlying9) (by kernel_rfl))))))) (hval 0 28 v0 rfl rfl) h0
  obtain ⟨_, _, rfl, rfl, ⟨_, _, rfl, rfl, ⟨_, _, rfl, rfl, ⟨_, _, rfl, rfl, rfl⟩⟩⟩⟩ := hK0
  have k1 := h1
  have lt1 : ∀ x ∈ p1, x.block < W.heap.size := by obtain ⟨m, hm⟩ := k1; exact DataW.trod_lt m _ _ _ hm
  obtain ⟨a1, rfl, _, _, w1⟩ := open_int Try.underlying3 (hval 1 3 v1 rfl rfl) h1
  have k2 := h2
  have lt2 : ∀ x ∈ p2, x.block < W.heap.size := by obtain ⟨m, hm⟩ := k2; exact DataW.trod_lt m _ _ _ hm
  obtain ⟨a2, rfl, _, _, w2⟩ := open_int Try.underlying3 (hval 2 3 v2 rfl rfl) h2
  clear hA0 hval0
  have h := Pure.FnExactCrash a0 w0 a1 w1 a2 w2
  refine (X.laws_FnExactCrash.calls a0.1 a0.2.1 a0.2.2.1 a0.2.2.2.1 a0.2.2.2.2 a1 a2 true W h).mono fun e W' ⟨he, bel0⟩ => ?_
  have bel : Below W.heap.size W W' := bel0
  subst he
  exact ⟨_, rfl, _, _, _, [], _, [], hW', trodAll_mk1 (shut_bool Try.underlying4 _), (trodAll_cons_mk (Below.trod laidOut (by kernel_rfl) (of_decide_eq_true (by kernel_rfl)) k0 bel lt0) (trodAll_cons_mk (Below.trod laidOut (by kernel_rfl) (of_decide_eq_true (by kernel_rfl)) k1 bel lt1) (trodAll_cons_mk (Below.trod laidOut (by kernel_rfl) (of_decide_eq_true (by kernel_rfl)) k2 bel lt2) trodAll_mk0))), rfl, bel.frame _, fun h => by cases h⟩
-- each fact of the row by itself: the checker's memory is given back after each
theorem t1 : Try.pinned.checked.prog.funcNamed Rows.fnExactCrashRow.func = some 7 := by kernel_rfl
theorem t2 : joinedFacts Try.pinned.checked.prog 7 Try.f7 Rows.fnExactCrashSpec Rows.fnExactCrashRow = true := by kernel_rfl
theorem t3 : Try.f7.isInstance Try.pinned.checked.prog Rows.fnExactCrashRow.origin Rows.fnExactCrashRow.targs := (of_decide_eq_true (by kernel_rfl))
theorem t4 : Try.f7.isWrapper Try.pinned.checked.prog Rows.fnExactCrashRow.wrapper Rows.fnExactCrashRow.mainSum := (by unfold Func.isWrapper; first | (rw [if_pos (by decide +kernel)]; kernel_rfl) | (rw [if_neg (by decide +kernel)]; exact ⟨rfl, rfl⟩))
theorem t5 : ∀ os : Os, os.Started → ∀ (H : Type) (enc : TypeId × Value → H), (∀ a b, enc a = enc b → a = b) →
    ReturnsInHanded Rows.fnExactCrashRow.assume Try.pinned.checked os 7 .any (Rows.fnExactCrashRow.pre enc Try.pinned.checked.prog Try.f7 (OpenSpec.ofChange Rows.fnExactCrashSpec)) (Rows.fnExactCrashSpec.post enc Try.pinned.checked.prog Try.f7 Rows.fnExactCrashRow.apart Rows.fnExactCrashRow.fresh Rows.fnExactCrashRow.handsOn Rows.fnExactCrashRow.again) := fun os started H enc _ => lifted os started H enc
theorem over : Rows.fnExactCrashRow.holds Try.pinned (OpenSpec.ofChange Rows.fnExactCrashSpec) :=
  OpenClaim.holds_of_wide 7 Try.f7 rfl rfl rfl rfl rfl rfl rfl ⟨rfl, rfl, rfl, rfl, rfl⟩ rfl rfl rfl rfl rfl t1 Try.func7 t2 t3 t4 t5
end Go.Proofs.Ytlaalimfmjfnnaa.fnExactCrash
namespace Go.Proofs.Ytlaalimfmjfnnaa
theorem fnExactCrash_holds : Rows.FnExactCrashSaid := fnExactCrash.over
#print axioms fnExactCrash_holds
end Go.Proofs.Ytlaalimfmjfnnaa
