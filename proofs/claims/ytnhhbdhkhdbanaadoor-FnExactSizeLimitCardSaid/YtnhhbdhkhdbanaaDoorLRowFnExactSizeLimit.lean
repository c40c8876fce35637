/- The row and the tied card of laws.FnExactSizeLimit: the printed walk of the law, over the pure statement that this session proved. No condition beyond the given statement's. -/
import Derived.Test.YtnhhbdhkhdbanaaDoorRows
import Derived.Test.YtnhhbdhkhdbanaaDoorCards
import Derived.Test.YtnhhbdhkhdbanaaDoorTie
import Derived.Test.YtnhhbdhkhdbanaaDoorLX5
import Derived.Test.YtnhhbdhkhdbanaaDoorLPureFnExactSizeLimit
import Derived.Test.YtnhhbdhkhdbanaaDoorLOpn
import Derived.Test.YtnhhbdhkhdbanaaDoorLGlobInF
import Derived.WalkKit
import Derived.ProofKit
import Derived.OpenShut
import Derived.ShutString
import Derived.ChangeOld
import Derived.Below
import Derived.SizedLaws
import Derived.Carry
import Derived.LaidMore
import Derived.Lay
import Derived.SevenTiedAt
import Derived.Stop.Joined
namespace Go.Proofs.YtnhhbdhkhdbanaaDoor.fnExactSizeLimit
open Go.ChangeShapes Go.WideShapes Go.ChangeAt Go.RowKit Go.Proofs.YtnhhbdhkhdbanaaDoorW.PrintWords
open Go.ChangeMaps (open_string shut_string)
set_option linter.unusedVariables false
theorem own : ownKnob Tryd.prog.godebug = none := by kernel_rfl
theorem laidOut : laidOutB Tryd.prog = true := by kernel_rfl
set_option maxRecDepth 100000 in
set_option maxHeartbeats 1000000 in
theorem lifted (os : Os) (started : os.Started) (H : Type) (enc : TypeId × Value → H) :
    ReturnsInHanded {} Tryd.checked os 4 .any (fun w args => (Rows.fnExactSizeLimitSpec.pre enc Tryd.prog Tryd.f4 Rows.fnExactSizeLimitRow.domain false w args ∧ laidMetH Tryd.prog Rows.fnExactSizeLimitRow.laid w) ∧ sizedMet enc Tryd.prog Tryd.f4 (OpenSpec.ofChange Rows.fnExactSizeLimitSpec) false w args)
      (Rows.fnExactSizeLimitSpec.post enc Tryd.prog Tryd.f4 false true false false) := by
  refine Opn.handed_shaped (C := Tryd.checked) (X := fun w _ => laidMetH Tryd.prog Rows.fnExactSizeLimitRow.laid w) (fun _ _ _ hh h => h.of_heap hh) own started (by kernel_rfl) Tryd.func4
    (ChangeSpec.witness_shaped (enc := enc) (C := Tryd.checked) (os := os) (X := fun w _ => laidMetH Tryd.prog Rows.fnExactSizeLimitRow.laid w) false (World.laidAll Tryd.prog os Rows.fnExactSizeLimitRow.laid) #[.slice none 0 0] 8 (World.laidAll_os _ _ _)
      (World.shaped_of_ZipB (by kernel_rfl) (by kernel_rfl)) (by kernel_rfl) (by kernel_rfl) (by kernel_rfl)
      (by rw [MakeChecks.laidMetH_plain _ _ _ (by kernel_rfl)]; exact laidMet_laidAll _ (by kernel_rfl) (by kernel_rfl))) ?_
  intro W base args ds gs before hval0 hW hcnd hsh hL
  have hval : ∀ (j : Nat) t v, Tryd.f4.params[j]? = some t → args[j]? = some v → Value.okWide Tryd.prog W .any base t v := hval0
  have hW' := hW
  obtain ⟨p, q, hA0, hV, rfl, hfz, hnd⟩ := hW
  have hA : DataW.TrodAll enc Tryd.prog W 0 (fun _ => true) true Tryd.f4.params.toList args.toList ds p := hA0
  rw [Tryd.params4] at hA hval
  obtain ⟨v0, vs0, d0, ds0, p0, q0, hargs, rfl, rfl, h0, r0⟩ := trodAll_cons hA
  obtain ⟨rfl, rfl, rfl⟩ := trodAll_nil r0
  obtain rfl : args = #[v0] := by cases args; simp_all
  obtain ⟨rfl, rfl⟩ := trodVars_none hV
  have k0 := h0
  have lt0 : ∀ x ∈ p0, x.block < W.heap.size := by obtain ⟨m, hm⟩ := k0; exact DataW.trod_lt m _ _ _ hm
  obtain ⟨a0, A0, c0, rfl, hl0, hC0, w0⟩ := Opn.open_sl Tryd.underlying30 (Opn.opens_slice Tryd.underlying30 (by kernel_rfl) (Opn.opens_string Tryd.underlying9)) (hval 0 30 v0 rfl rfl) h0
  have hGF := GlobIn.glF hsh hL
  clear hA0 hval0
  obtain ⟨k, h⟩ := Pure.FnExactSizeLimit a0 w0
  refine (X.laws_FnExactSizeLimit.calls k _ _ a0 true W hGF hC0 hl0 h).mono fun e W' ⟨he, bel0⟩ => ?_
  have bel : Below W.heap.size W W' := bel0
  subst he
  exact ⟨_, rfl, _, _, _, [], _, [], hW', trodAll_mk1 (shut_bool Tryd.underlying4 _), (trodAll_cons_mk (Below.trod laidOut (by kernel_rfl) (of_decide_eq_true (by kernel_rfl)) k0 bel lt0) trodAll_mk0), rfl, bel.frame _, fun h => by cases h⟩
-- each fact of the row by itself: the checker's memory is given back after each
theorem t1 : Tryd.pinned.checked.prog.funcNamed Rows.fnExactSizeLimitRow.func = some 4 := by kernel_rfl
theorem t2 : joinedFacts Tryd.pinned.checked.prog 4 Tryd.f4 Rows.fnExactSizeLimitSpec Rows.fnExactSizeLimitRow = true := by kernel_rfl
theorem t3 : Tryd.f4.isInstance Tryd.pinned.checked.prog Rows.fnExactSizeLimitRow.origin Rows.fnExactSizeLimitRow.targs := (of_decide_eq_true (by kernel_rfl))
theorem t4 : Tryd.f4.isWrapper Tryd.pinned.checked.prog Rows.fnExactSizeLimitRow.wrapper Rows.fnExactSizeLimitRow.mainSum := (by unfold Func.isWrapper; first | (rw [if_pos (by decide +kernel)]; kernel_rfl) | (rw [if_neg (by decide +kernel)]; exact ⟨rfl, rfl⟩))
theorem t5 : ∀ os : Os, os.Started → ∀ (H : Type) (enc : TypeId × Value → H), (∀ a b, enc a = enc b → a = b) →
    ReturnsInHanded Rows.fnExactSizeLimitRow.assume Tryd.pinned.checked os 4 .any (Rows.fnExactSizeLimitRow.pre enc Tryd.pinned.checked.prog Tryd.f4 (OpenSpec.ofChange Rows.fnExactSizeLimitSpec)) (Rows.fnExactSizeLimitSpec.post enc Tryd.pinned.checked.prog Tryd.f4 Rows.fnExactSizeLimitRow.apart Rows.fnExactSizeLimitRow.fresh Rows.fnExactSizeLimitRow.handsOn Rows.fnExactSizeLimitRow.again) := fun os started H enc _ => lifted os started H enc
theorem over : Rows.fnExactSizeLimitRow.holds Tryd.pinned (OpenSpec.ofChange Rows.fnExactSizeLimitSpec) :=
  OpenClaim.holds_of_wide 4 Tryd.f4 rfl rfl rfl rfl rfl rfl rfl ⟨rfl, rfl, rfl, rfl, rfl⟩ rfl rfl rfl rfl rfl t1 Tryd.func4 t2 t3 t4 t5
theorem c40 : Tryd.prog.wantsStandIn 30 = false := by kernel_rfl
theorem c1 : Tryd.pinned.checked.prog.mainIs = some (true, "d58e11a26aa26c10d085f1a868e0e8166d6bf3e06591f4f4f95f412261ce4559".toList) := by kernel_rfl
theorem c2 : Rows.fnExactSizeLimitRow.wfByText (OpenSpec.ofChange Rows.fnExactSizeLimitSpec) = true := by kernel_rfl
theorem c3 : true = Tryd.pinned.checked.prog.looks [] := by kernel_rfl
theorem c4 : false = Rows.fnExactSizeLimitRow.goesBy Tryd.pinned.checked.prog := by kernel_rfl
theorem c5 : ∀ f fn, Tryd.pinned.checked.prog.funcNamed Rows.fnExactSizeLimitRow.func = some f → Tryd.pinned.checked.prog.funcs[f]? = some fn → true = Tryd.pinned.checked.prog.looks [] ∧ ∀ (j : Nat) t, fn.params[j]? = some t → Tryd.pinned.checked.prog.wantsStandIn t = false := fun f fn hf hfn => by
  obtain rfl : f = 4 := (Option.some.inj (t1.symm.trans hf)).symm
  obtain rfl : fn = Tryd.f4 := (Option.some.inj (Tryd.func4.symm.trans hfn)).symm
  refine ⟨c3, fun j t ht => ?_⟩
  rw [Tryd.params4] at ht
  have hm : t ∈ [30] := by have := Array.mem_of_getElem? ht; simp at this ⊢; first | omega | grind | (rcases this with h | h | h | h <;> subst h <;> simp)
  simp only [List.mem_cons, List.not_mem_nil, or_false] at hm
  rcases hm with rfl
  · exact c40
theorem card_holds : Rows.FnExactSizeLimitCardSaid :=
  Claim7.holds_tied_plain_at .later [] [.data, .data, .data, .data, .sentinel, .sentinel, .data, .data, .pinned, .pinned] true (true, "d58e11a26aa26c10d085f1a868e0e8166d6bf3e06591f4f4f95f412261ce4559") true over (fun _ h => by cases h) c2 (fun _ h => by cases h) fnExactSizeLimit_row_tie rfl ⟨rfl, rfl⟩ c1 rfl c5 c4
end Go.Proofs.YtnhhbdhkhdbanaaDoor.fnExactSizeLimit
namespace Go.Proofs.YtnhhbdhkhdbanaaDoor
theorem fnExactSizeLimit_holds : Rows.FnExactSizeLimitCardSaid := fnExactSizeLimit.card_holds
#print axioms fnExactSizeLimit_holds
end Go.Proofs.YtnhhbdhkhdbanaaDoor
