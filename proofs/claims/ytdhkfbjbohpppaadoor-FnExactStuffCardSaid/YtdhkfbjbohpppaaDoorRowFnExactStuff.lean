/- The row and the tied card of laws.FnExactStuff: the printed walk of the law, over the pure statement that this session proved. No condition beyond the given statement's. -/
import Derived.Test.YtdhkfbjbohpppaaDoorRows
import Derived.Test.YtdhkfbjbohpppaaDoorCards
import Derived.Test.YtdhkfbjbohpppaaDoorTie
import Derived.Test.YtdhkfbjbohpppaaDoorX8
import Derived.Test.YtdhkfbjbohpppaaDoorPureFnExactStuff
import Derived.Test.YtdhkfbjbohpppaaDoorOpn
import Derived.Test.YtdhkfbjbohpppaaDoorGlobIn
import Derived.WalkKit
import Derived.ProofKit
import Derived.OpenShut
import Derived.ShutString
import Derived.ChangeOld
import Derived.Below
import Derived.SizedLaws
import Derived.Carry
import Derived.LaidMore
import Derived.Lay
import Derived.SevenTiedAt
import Derived.Stop.Joined
namespace Go.Proofs.YtdhkfbjbohpppaaDoor.fnExactStuff
open Go.ChangeShapes Go.WideShapes Go.ChangeAt Go.RowKit Go.Proofs.YtdhkfbjbohpppaaDoorW.PrintWords
open Go.ChangeMaps (open_string shut_string)
set_option linter.unusedVariables false
theorem own : ownKnob Tryd.prog.godebug = none := by kernel_rfl
theorem laidOut : laidOutB Tryd.prog = true := by kernel_rfl
set_option maxRecDepth 100000 in
set_option maxHeartbeats 1000000 in
theorem lifted (os : Os) (started : os.Started) (H : Type) (enc : TypeId × Value → H) :
    ReturnsInHanded {} Tryd.checked os 8 .any (fun w args => (Rows.fnExactStuffSpec.pre enc Tryd.prog Tryd.f8 Rows.fnExactStuffRow.domain false w args ∧ laidMetH Tryd.prog Rows.fnExactStuffRow.laid w) ∧ sizedMet enc Tryd.prog Tryd.f8 (OpenSpec.ofChange Rows.fnExactStuffSpec) false w args)
      (Rows.fnExactStuffSpec.post enc Tryd.prog Tryd.f8 false true false false) := by
  refine Opn.handed_shaped (C := Tryd.checked) (X := fun w _ => laidMetH Tryd.prog Rows.fnExactStuffRow.laid w) (fun _ _ _ hh h => h.of_heap hh) own started (by kernel_rfl) Tryd.func8
    (ChangeSpec.witness_shaped (enc := enc) (C := Tryd.checked) (os := os) (X := fun w _ => laidMetH Tryd.prog Rows.fnExactStuffRow.laid w) false (World.laidAll Tryd.prog os Rows.fnExactStuffRow.laid) #[.string ByteArray.empty] 8 (World.laidAll_os _ _ _)
      (World.shaped_of_ZipB (by kernel_rfl) (by kernel_rfl)) (by kernel_rfl) (by kernel_rfl) (by kernel_rfl)
      (by rw [MakeChecks.laidMetH_plain _ _ _ (by kernel_rfl)]; exact laidMet_laidAll _ (by kernel_rfl) (by kernel_rfl))) ?_
  intro W base args ds gs before hval0 hW hcnd hsh hL
  have hval : ∀ (j : Nat) t v, Tryd.f8.params[j]? = some t → args[j]? = some v → Value.okWide Tryd.prog W .any base t v := hval0
  have hW' := hW
  obtain ⟨p, q, hA0, hV, rfl, hfz, hnd⟩ := hW
  have hA : DataW.TrodAll enc Tryd.prog W 0 (fun _ => true) true Tryd.f8.params.toList args.toList ds p := hA0
  rw [Tryd.params8] at hA hval
  obtain ⟨v0, vs0, d0, ds0, p0, q0, hargs, rfl, rfl, h0, r0⟩ := trodAll_cons hA
  obtain ⟨rfl, rfl, rfl⟩ := trodAll_nil r0
  obtain rfl : args = #[v0] := by cases args; simp_all
  obtain ⟨rfl, rfl⟩ := trodVars_none hV
  have k0 := h0
  have lt0 : ∀ x ∈ p0, x.block < W.heap.size := by obtain ⟨m, hm⟩ := k0; exact DataW.trod_lt m _ _ _ hm
  obtain ⟨a0, rfl, _, _, w0⟩ := open_string Tryd.underlying9 (hval 0 9 v0 rfl rfl) h0
  have hGM := GlobIn.glM hsh
  clear hA0 hval0
  obtain ⟨k, h⟩ := Pure.FnExactStuff a0 w0
  refine (X.laws_FnExactStuff.calls k a0 true W hGM h).mono fun e W' ⟨he, bel0⟩ => ?_
  have bel : Below W.heap.size W W' := bel0
  subst he
  exact ⟨_, rfl, _, _, _, [], _, [], hW', trodAll_mk1 (shut_bool Tryd.underlying4 _), (trodAll_cons_mk (Below.trod laidOut (by kernel_rfl) (of_decide_eq_true (by kernel_rfl)) k0 bel lt0) trodAll_mk0), rfl, bel.frame _, fun h => by cases h⟩
-- each fact of the row by itself: the checker's memory is given back after each
theorem t1 : Tryd.pinned.checked.prog.funcNamed Rows.fnExactStuffRow.func = some 8 := by kernel_rfl
theorem t2 : joinedFacts Tryd.pinned.checked.prog 8 Tryd.f8 Rows.fnExactStuffSpec Rows.fnExactStuffRow = true := by kernel_rfl
theorem t3 : Tryd.f8.isInstance Tryd.pinned.checked.prog Rows.fnExactStuffRow.origin Rows.fnExactStuffRow.targs := (of_decide_eq_true (by kernel_rfl))
theorem t4 : Tryd.f8.isWrapper Tryd.pinned.checked.prog Rows.fnExactStuffRow.wrapper Rows.fnExactStuffRow.mainSum := (by unfold Func.isWrapper; first | (rw [if_pos (by decide +kernel)]; kernel_rfl) | (rw [if_neg (by decide +kernel)]; exact ⟨rfl, rfl⟩))
theorem t5 : ∀ os : Os, os.Started → ∀ (H : Type) (enc : TypeId × Value → H), (∀ a b, enc a = enc b → a = b) →
    ReturnsInHanded Rows.fnExactStuffRow.assume Tryd.pinned.checked os 8 .any (Rows.fnExactStuffRow.pre enc Tryd.pinned.checked.prog Tryd.f8 (OpenSpec.ofChange Rows.fnExactStuffSpec)) (Rows.fnExactStuffSpec.post enc Tryd.pinned.checked.prog Tryd.f8 Rows.fnExactStuffRow.apart Rows.fnExactStuffRow.fresh Rows.fnExactStuffRow.handsOn Rows.fnExactStuffRow.again) := fun os started H enc _ => lifted os started H enc
theorem over : Rows.fnExactStuffRow.holds Tryd.pinned (OpenSpec.ofChange Rows.fnExactStuffSpec) :=
  OpenClaim.holds_of_wide 8 Tryd.f8 rfl rfl rfl rfl rfl rfl rfl ⟨rfl, rfl, rfl, rfl, rfl⟩ rfl rfl rfl rfl rfl t1 Tryd.func8 t2 t3 t4 t5
theorem c19 : Tryd.prog.wantsStandIn 9 = false := by kernel_rfl
theorem c1 : Tryd.pinned.checked.prog.mainIs = some (true, "7cdb360ebcec73258ebd7084415426944a75f4c7585ea13634f9268bdb653a25".toList) := by kernel_rfl
theorem c2 : Rows.fnExactStuffRow.wfByText (OpenSpec.ofChange Rows.fnExactStuffSpec) = true := by kernel_rfl
theorem c3 : true = Tryd.pinned.checked.prog.looks [] := by kernel_rfl
theorem c4 : false = Rows.fnExactStuffRow.goesBy Tryd.pinned.checked.prog := by kernel_rfl
theorem c5 : ∀ f fn, Tryd.pinned.checked.prog.funcNamed Rows.fnExactStuffRow.func = some f → Tryd.pinned.checked.prog.funcs[f]? = some fn → true = Tryd.pinned.checked.prog.looks [] ∧ ∀ (j : Nat) t, fn.params[j]? = some t → Tryd.pinned.checked.prog.wantsStandIn t = false := fun f fn hf hfn => by
  obtain rfl : f = 8 := (Option.some.inj (t1.symm.trans hf)).symm
  obtain rfl : fn = Tryd.f8 := (Option.some.inj (Tryd.func8.symm.trans hfn)).symm
  refine ⟨c3, fun j t ht => ?_⟩
  rw [Tryd.params8] at ht
  have hm : t ∈ [9] := by have := Array.mem_of_getElem? ht; simp at this ⊢; omega
  simp only [List.mem_cons, List.not_mem_nil, or_false] at hm
  rcases hm with rfl
  · exact c19
theorem card_holds : Rows.FnExactStuffCardSaid :=
  Claim7.holds_tied_plain_at .later [] [.data, .pinned] true (true, "7cdb360ebcec73258ebd7084415426944a75f4c7585ea13634f9268bdb653a25") true over (fun _ h => by cases h) c2 (fun _ h => by cases h) fnExactStuff_row_tie rfl ⟨rfl, rfl⟩ c1 rfl c5 c4
end Go.Proofs.YtdhkfbjbohpppaaDoor.fnExactStuff
namespace Go.Proofs.YtdhkfbjbohpppaaDoor
theorem fnExactStuff_holds : Rows.FnExactStuffCardSaid := fnExactStuff.card_holds
#print axioms fnExactStuff_holds
end Go.Proofs.YtdhkfbjbohpppaaDoor
