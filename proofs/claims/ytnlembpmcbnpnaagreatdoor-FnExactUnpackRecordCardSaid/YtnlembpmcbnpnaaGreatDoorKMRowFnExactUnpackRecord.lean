/- The row and the tied card of laws.FnExactUnpackRecord: the printed walk of the law, over the pure statement that this session proved. No condition beyond the given statement's. -/
import Derived.Below
import Derived.Carry
import Derived.ChangeOld
import Derived.LaidMore
import Derived.Lay
import Derived.OpenShut
import Derived.ProofKit
import Derived.SevenTiedAt
import Derived.ShutString
import Derived.SizedLaws
import Derived.Stop.Joined
import Derived.Test.YtnlembpmcbnpnaaGreatDoorCards
import Derived.Test.YtnlembpmcbnpnaaGreatDoorRows
import Derived.Test.YtnlembpmcbnpnaaGreatDoorTie
import Derived.WalkKit
import Derived.Test.YtnlembpmcbnpnaaGreatDoorKM10
namespace Go.Proofs.YtnlembpmcbnpnaaGreatDoor.fnExactUnpackRecord
open Go.ChangeShapes Go.WideShapes Go.ChangeAt Go.RowKit Go.Proofs.YtnlembpmcbnpnaaGreatDoorW.PrintWords
open Go.ChangeMaps (open_string shut_string)
set_option linter.unusedVariables false
theorem own : ownKnob Tryz.prog.godebug = none := by kernel_rfl
theorem laidOut : laidOutB Tryz.prog = true := by kernel_rfl
set_option maxRecDepth 100000 in
set_option maxHeartbeats 1000000 in
theorem lifted (os : Os) (started : os.Started) (H : Type) (enc : TypeId × Value → H) :
    ReturnsInHanded {} Tryz.checked os 3 .any (fun w args => (Rows.fnExactUnpackRecordSpec.pre enc Tryz.prog Tryz.f3 Rows.fnExactUnpackRecordRow.domain false w args ∧ laidMetH Tryz.prog Rows.fnExactUnpackRecordRow.laid w) ∧ sizedMet enc Tryz.prog Tryz.f3 (OpenSpec.ofChange Rows.fnExactUnpackRecordSpec) false w args)
      (Rows.fnExactUnpackRecordSpec.post enc Tryz.prog Tryz.f3 false true false false) := by
  refine Opn.handed_shaped (C := Tryz.checked) (X := fun w _ => laidMetH Tryz.prog Rows.fnExactUnpackRecordRow.laid w) (fun _ _ _ hh h => h.of_heap hh) own started (by kernel_rfl) Tryz.func3
    (ChangeSpec.witness_shaped (enc := enc) (C := Tryz.checked) (os := os) (X := fun w _ => laidMetH Tryz.prog Rows.fnExactUnpackRecordRow.laid w) false (World.laidAll Tryz.prog os Rows.fnExactUnpackRecordRow.laid) #[.string ByteArray.empty] 8 (World.laidAll_os _ _ _)
      (World.shaped_of_ZipB (by kernel_rfl) (by kernel_rfl)) (by kernel_rfl) (by kernel_rfl) (by kernel_rfl)
      (by rw [MakeChecks.laidMetH_plain _ _ _ (by kernel_rfl)]; exact laidMet_laidAll _ (by kernel_rfl) (by kernel_rfl))) ?_
  intro W base args ds gs before hval0 hW hcnd hsh hL
  have hval : ∀ (j : Nat) t v, Tryz.f3.params[j]? = some t → args[j]? = some v → Value.okWide Tryz.prog W .any base t v := hval0
  have hW' := hW
  obtain ⟨p, q, hA0, hV, rfl, hfz, hnd⟩ := hW
  have hA : DataW.TrodAll enc Tryz.prog W 0 (fun _ => true) true Tryz.f3.params.toList args.toList ds p := hA0
  rw [Tryz.params3] at hA hval
  obtain ⟨v0, vs0, d0, ds0, p0, q0, hargs, rfl, rfl, h0, r0⟩ := trodAll_cons hA
  obtain ⟨rfl, rfl, rfl⟩ := trodAll_nil r0
  obtain rfl : args = #[v0] := by cases args; simp_all
  obtain ⟨rfl, rfl⟩ := trodVars_none hV
  have k0 := h0
  have lt0 : ∀ x ∈ p0, x.block < W.heap.size := by obtain ⟨m, hm⟩ := k0; exact DataW.trod_lt m _ _ _ hm
  obtain ⟨a0, rfl, _, _, w0⟩ := open_string Tryz.underlying9 (hval 0 9 v0 rfl rfl) h0
  have hGE := GlobIn.glE hsh hL
  have hGI := GlobIn.glI hsh hL
  have hGM := GlobIn.glM hsh
  clear hA0 hval0
  obtain ⟨k, h⟩ := Pure.FnExactUnpackRecord a0 w0
  refine (X.laws_FnExactUnpackRecord.calls k a0 true W hGE hGI hGM h).mono fun e W' ⟨he, bel0⟩ => ?_
  have bel : Below W.heap.size W W' := bel0
  subst he
  exact ⟨_, rfl, _, _, _, [], _, [], hW', trodAll_mk1 (shut_bool Tryz.underlying4 _), (trodAll_cons_mk (Below.trod laidOut (by kernel_rfl) (of_decide_eq_true (by kernel_rfl)) k0 bel lt0) trodAll_mk0), rfl, bel.frame _, fun h => by cases h⟩
-- each fact of the row by itself: the checker's memory is given back after each
theorem t1 : Tryz.pinned.checked.prog.funcNamed Rows.fnExactUnpackRecordRow.func = some 3 := by kernel_rfl
theorem t2 : joinedFacts Tryz.pinned.checked.prog 3 Tryz.f3 Rows.fnExactUnpackRecordSpec Rows.fnExactUnpackRecordRow = true := by kernel_rfl
theorem t3 : Tryz.f3.isInstance Tryz.pinned.checked.prog Rows.fnExactUnpackRecordRow.origin Rows.fnExactUnpackRecordRow.targs := (of_decide_eq_true (by kernel_rfl))
theorem t4 : Tryz.f3.isWrapper Tryz.pinned.checked.prog Rows.fnExactUnpackRecordRow.wrapper Rows.fnExactUnpackRecordRow.mainSum := (by unfold Func.isWrapper; first | (rw [if_pos (by decide +kernel)]; kernel_rfl) | (rw [if_neg (by decide +kernel)]; exact ⟨rfl, rfl⟩))
theorem t5 : ∀ os : Os, os.Started → ∀ (H : Type) (enc : TypeId × Value → H), (∀ a b, enc a = enc b → a = b) →
    ReturnsInHanded Rows.fnExactUnpackRecordRow.assume Tryz.pinned.checked os 3 .any (Rows.fnExactUnpackRecordRow.pre enc Tryz.pinned.checked.prog Tryz.f3 (OpenSpec.ofChange Rows.fnExactUnpackRecordSpec)) (Rows.fnExactUnpackRecordSpec.post enc Tryz.pinned.checked.prog Tryz.f3 Rows.fnExactUnpackRecordRow.apart Rows.fnExactUnpackRecordRow.fresh Rows.fnExactUnpackRecordRow.handsOn Rows.fnExactUnpackRecordRow.again) := fun os started H enc _ => lifted os started H enc
theorem over : Rows.fnExactUnpackRecordRow.holds Tryz.pinned (OpenSpec.ofChange Rows.fnExactUnpackRecordSpec) :=
  OpenClaim.holds_of_wide 3 Tryz.f3 rfl rfl rfl rfl rfl rfl rfl ⟨rfl, rfl, rfl, rfl, rfl⟩ rfl rfl rfl rfl rfl t1 Tryz.func3 t2 t3 t4 t5
theorem c19 : Tryz.prog.wantsStandIn 9 = false := by kernel_rfl
theorem c1 : Tryz.pinned.checked.prog.mainIs = some (true, "4e4f27f5dd98a0e95343c9b733676513ca8c7a04121fb0ae117975fc6eed78f0".toList) := by kernel_rfl
theorem c2 : Rows.fnExactUnpackRecordRow.wfByText (OpenSpec.ofChange Rows.fnExactUnpackRecordSpec) = true := by kernel_rfl
theorem c3 : true = Tryz.pinned.checked.prog.looks [] := by kernel_rfl
theorem c4 : false = Rows.fnExactUnpackRecordRow.goesBy Tryz.pinned.checked.prog := by kernel_rfl
theorem c5 : ∀ f fn, Tryz.pinned.checked.prog.funcNamed Rows.fnExactUnpackRecordRow.func = some f → Tryz.pinned.checked.prog.funcs[f]? = some fn → true = Tryz.pinned.checked.prog.looks [] ∧ ∀ (j : Nat) t, fn.params[j]? = some t → Tryz.pinned.checked.prog.wantsStandIn t = false := fun f fn hf hfn => by
  obtain rfl : f = 3 := (Option.some.inj (t1.symm.trans hf)).symm
  obtain rfl : fn = Tryz.f3 := (Option.some.inj (Tryz.func3.symm.trans hfn)).symm
  refine ⟨c3, fun j t ht => ?_⟩
  rw [Tryz.params3] at ht
  have hm : t ∈ [9] := by have := Array.mem_of_getElem? ht; simp at this ⊢; first | omega | grind | (rcases this with h | h | h | h <;> subst h <;> simp)
  simp only [List.mem_cons, List.not_mem_nil, or_false] at hm
  rcases hm with rfl
  · exact c19
theorem card_holds : Rows.FnExactUnpackRecordCardSaid :=
  Claim7.holds_tied_plain_at .later [] [.data, .data, .data, .sentinel, .sentinel] true (true, "4e4f27f5dd98a0e95343c9b733676513ca8c7a04121fb0ae117975fc6eed78f0") true over (fun _ h => by cases h) c2 (fun _ h => by cases h) fnExactUnpackRecord_row_tie rfl ⟨rfl, rfl⟩ c1 rfl c5 c4
end Go.Proofs.YtnlembpmcbnpnaaGreatDoor.fnExactUnpackRecord
namespace Go.Proofs.YtnlembpmcbnpnaaGreatDoor
theorem fnExactUnpackRecord_holds : Rows.FnExactUnpackRecordCardSaid := fnExactUnpackRecord.card_holds
#print axioms fnExactUnpackRecord_holds
end Go.Proofs.YtnlembpmcbnpnaaGreatDoor
