/- The row and the tied card of laws.FnExactProper: the printed walk of the law, over the pure statement that this session proved. No condition beyond the given statement's. -/
import Derived.Test.YtnhhbdhkhdbanaaDoorRows
import Derived.Test.YtnhhbdhkhdbanaaDoorCards
import Derived.Test.YtnhhbdhkhdbanaaDoorTie
import Derived.Test.YtnhhbdhkhdbanaaDoorX12
import Derived.Test.YtnhhbdhkhdbanaaDoorPureFnExactProper
import Derived.Test.YtnhhbdhkhdbanaaDoorOpn
import Derived.Test.YtnhhbdhkhdbanaaDoorGlobIn
import Derived.WalkKit
import Derived.ProofKit
import Derived.OpenShut
import Derived.ShutString
import Derived.ChangeOld
import Derived.Below
import Derived.SizedLaws
import Derived.Carry
import Derived.LaidMore
import Derived.Lay
import Derived.SevenTiedAt
import Derived.Stop.Joined
namespace Go.Proofs.YtnhhbdhkhdbanaaDoor.fnExactProper
open Go.ChangeShapes Go.WideShapes Go.ChangeAt Go.RowKit Go.Proofs.YtnhhbdhkhdbanaaDoorW.PrintWords
open Go.ChangeMaps (open_string shut_string)
set_option linter.unusedVariables false
theorem own : ownKnob Tryd.prog.godebug = none := by kernel_rfl
theorem laidOut : laidOutB Tryd.prog = true := by kernel_rfl
set_option maxRecDepth 100000 in
set_option maxHeartbeats 1000000 in
theorem lifted (os : Os) (started : os.Started) (H : Type) (enc : TypeId × Value → H) :
    ReturnsInHanded {} Tryd.checked os 6 .any (fun w args => (Rows.fnExactProperSpec.pre enc Tryd.prog Tryd.f6 Rows.fnExactProperRow.domain false w args ∧ laidMetH Tryd.prog Rows.fnExactProperRow.laid w) ∧ sizedMet enc Tryd.prog Tryd.f6 (OpenSpec.ofChange Rows.fnExactProperSpec) false w args)
      (Rows.fnExactProperSpec.post enc Tryd.prog Tryd.f6 false true false false) := by
  refine Opn.handed_shaped (C := Tryd.checked) (X := fun w _ => laidMetH Tryd.prog Rows.fnExactProperRow.laid w) (fun _ _ _ hh h => h.of_heap hh) own started (by kernel_rfl) Tryd.func6
    (ChangeSpec.witness_shaped (enc := enc) (C := Tryd.checked) (os := os) (X := fun w _ => laidMetH Tryd.prog Rows.fnExactProperRow.laid w) false (World.laidAll Tryd.prog os Rows.fnExactProperRow.laid) #[.agg #[.int .i64 0, .string ByteArray.empty, .string ByteArray.empty, .string ByteArray.empty, .string ByteArray.empty, .slice none 0 0, .int .i64 0, .slice none 0 0, .slice none 0 0]] 8 (World.laidAll_os _ _ _)
      (World.shaped_of_ZipB (by kernel_rfl) (by kernel_rfl)) (by kernel_rfl) (by kernel_rfl) (by kernel_rfl)
      (by rw [MakeChecks.laidMetH_plain _ _ _ (by kernel_rfl)]; exact laidMet_laidAll _ (by kernel_rfl) (by kernel_rfl))) ?_
  intro W base args ds gs before hval0 hW hcnd hsh hL
  have hval : ∀ (j : Nat) t v, Tryd.f6.params[j]? = some t → args[j]? = some v → Value.okWide Tryd.prog W .any base t v := hval0
  have hW' := hW
  obtain ⟨p, q, hA0, hV, rfl, hfz, hnd⟩ := hW
  have hA : DataW.TrodAll enc Tryd.prog W 0 (fun _ => true) true Tryd.f6.params.toList args.toList ds p := hA0
  rw [Tryd.params6] at hA hval
  obtain ⟨v0, vs0, d0, ds0, p0, q0, hargs, rfl, rfl, h0, r0⟩ := trodAll_cons hA
  obtain ⟨rfl, rfl, rfl⟩ := trodAll_nil r0
  obtain rfl : args = #[v0] := by cases args; simp_all
  obtain ⟨rfl, rfl⟩ := trodVars_none hV
  have k0 := h0
  have lt0 : ∀ x ∈ p0, x.block < W.heap.size := by obtain ⟨m, hm⟩ := k0; exact DataW.trod_lt m _ _ _ hm
  obtain ⟨a0, cs0, rfl, hK0, w0⟩ := Opn.open_val Tryd.underlying47 (Opn.opens_struct Tryd.underlying47 rfl (by kernel_rfl) (Opn.fopens_pair (Opn.opens_int Tryd.underlying3) (by kernel_rfl) (by rfl) (Opn.fopens_pair (Opn.opens_string Tryd.underlying9) (by kernel_rfl) (by rfl) (Opn.fopens_pair (Opn.opens_string Tryd.underlying9) (by kernel_rfl) (by rfl) (Opn.fopens_pair (Opn.opens_string Tryd.underlying9) (by kernel_rfl) (by rfl) (Opn.fopens_pair (Opn.opens_string Tryd.underlying9) (by kernel_rfl) (by rfl) (Opn.fopens_pair (Opn.opens_slice Tryd.underlying30 (by kernel_rfl) (Opn.opens_string Tryd.underlying9)) (by kernel_rfl) (by rfl) (Opn.fopens_pair (Opn.opens_int Tryd.underlying3) (by kernel_rfl) (by rfl) (Opn.fopens_pair (Opn.opens_slice Tryd.underlying37 (by kernel_rfl) (Opn.opens_bool Tryd.underlying4)) (by kernel_rfl) (by rfl) (Opn.fopens_one (Opn.opens_slice Tryd.underlying45 (by kernel_rfl) (Opn.opens_iso (f := fun x : X.S130 => (x.f0, x.f1, x.f2)) (fun a => (⟨a.1, a.2.1, a.2.2⟩ : X.S130)) (fun _ => rfl) (Opn.opens_struct Tryd.underlying130 rfl (by kernel_rfl) (Opn.fopens_pair (Opn.opens_int Tryd.underlying3) (by kernel_rfl) (by rfl) (Opn.fopens_pair (Opn.opens_int Tryd.underlying3) (by kernel_rfl) (by rfl) (Opn.fopens_one (Opn.opens_string Tryd.underlying9) (by kernel_rfl))))))) (by kernel_rfl))))))))))) (hval 0 47 v0 rfl rfl) h0
  obtain ⟨_, _, rfl, rfl, ⟨_, _, rfl, rfl, ⟨_, _, rfl, rfl, ⟨_, _, rfl, rfl, ⟨_, _, rfl, rfl, ⟨_, _, rfl, ⟨A0_1, c0_1, rfl, hl0_1, hC0_1⟩, ⟨_, _, rfl, rfl, ⟨_, _, rfl, ⟨A0_2, c0_2, rfl, hl0_2, hC0_2⟩, ⟨A0_3, c0_3, rfl, hl0_3, hC0_3⟩⟩⟩⟩⟩⟩⟩⟩⟩ := hK0
  have hGM := GlobIn.glM hsh
  clear hA0 hval0
  obtain ⟨k, h⟩ := Pure.FnExactProper a0 w0
  refine (X.laws_FnExactProper.calls k a0.1 a0.2.1 a0.2.2.1 a0.2.2.2.1 a0.2.2.2.2.1 _ _ a0.2.2.2.2.2.1 a0.2.2.2.2.2.2.1 _ _ a0.2.2.2.2.2.2.2.1 _ _ a0.2.2.2.2.2.2.2.2 true W hGM hC0_1 hl0_1 hC0_2 hl0_2 hC0_3 hl0_3 h).mono fun e W' ⟨he, bel0⟩ => ?_
  have bel : Below W.heap.size W W' := bel0
  subst he
  exact ⟨_, rfl, _, _, _, [], _, [], hW', trodAll_mk1 (shut_bool Tryd.underlying4 _), (trodAll_cons_mk (Below.trod laidOut (by kernel_rfl) (of_decide_eq_true (by kernel_rfl)) k0 bel lt0) trodAll_mk0), rfl, bel.frame _, fun h => by cases h⟩
-- each fact of the row by itself: the checker's memory is given back after each
theorem t1 : Tryd.pinned.checked.prog.funcNamed Rows.fnExactProperRow.func = some 6 := by kernel_rfl
theorem t2 : joinedFacts Tryd.pinned.checked.prog 6 Tryd.f6 Rows.fnExactProperSpec Rows.fnExactProperRow = true := by kernel_rfl
theorem t3 : Tryd.f6.isInstance Tryd.pinned.checked.prog Rows.fnExactProperRow.origin Rows.fnExactProperRow.targs := (of_decide_eq_true (by kernel_rfl))
theorem t4 : Tryd.f6.isWrapper Tryd.pinned.checked.prog Rows.fnExactProperRow.wrapper Rows.fnExactProperRow.mainSum := (by unfold Func.isWrapper; first | (rw [if_pos (by decide +kernel)]; kernel_rfl) | (rw [if_neg (by decide +kernel)]; exact ⟨rfl, rfl⟩))
theorem t5 : ∀ os : Os, os.Started → ∀ (H : Type) (enc : TypeId × Value → H), (∀ a b, enc a = enc b → a = b) →
    ReturnsInHanded Rows.fnExactProperRow.assume Tryd.pinned.checked os 6 .any (Rows.fnExactProperRow.pre enc Tryd.pinned.checked.prog Tryd.f6 (OpenSpec.ofChange Rows.fnExactProperSpec)) (Rows.fnExactProperSpec.post enc Tryd.pinned.checked.prog Tryd.f6 Rows.fnExactProperRow.apart Rows.fnExactProperRow.fresh Rows.fnExactProperRow.handsOn Rows.fnExactProperRow.again) := fun os started H enc _ => lifted os started H enc
theorem over : Rows.fnExactProperRow.holds Tryd.pinned (OpenSpec.ofChange Rows.fnExactProperSpec) :=
  OpenClaim.holds_of_wide 6 Tryd.f6 rfl rfl rfl rfl rfl rfl rfl ⟨rfl, rfl, rfl, rfl, rfl⟩ rfl rfl rfl rfl rfl t1 Tryd.func6 t2 t3 t4 t5
theorem c57 : Tryd.prog.wantsStandIn 47 = false := by kernel_rfl
theorem c1 : Tryd.pinned.checked.prog.mainIs = some (true, "d58e11a26aa26c10d085f1a868e0e8166d6bf3e06591f4f4f95f412261ce4559".toList) := by kernel_rfl
theorem c2 : Rows.fnExactProperRow.wfByText (OpenSpec.ofChange Rows.fnExactProperSpec) = true := by kernel_rfl
theorem c3 : true = Tryd.pinned.checked.prog.looks [] := by kernel_rfl
theorem c4 : false = Rows.fnExactProperRow.goesBy Tryd.pinned.checked.prog := by kernel_rfl
theorem c5 : ∀ f fn, Tryd.pinned.checked.prog.funcNamed Rows.fnExactProperRow.func = some f → Tryd.pinned.checked.prog.funcs[f]? = some fn → true = Tryd.pinned.checked.prog.looks [] ∧ ∀ (j : Nat) t, fn.params[j]? = some t → Tryd.pinned.checked.prog.wantsStandIn t = false := fun f fn hf hfn => by
  obtain rfl : f = 6 := (Option.some.inj (t1.symm.trans hf)).symm
  obtain rfl : fn = Tryd.f6 := (Option.some.inj (Tryd.func6.symm.trans hfn)).symm
  refine ⟨c3, fun j t ht => ?_⟩
  rw [Tryd.params6] at ht
  have hm : t ∈ [47] := by have := Array.mem_of_getElem? ht; simp at this ⊢; omega
  simp only [List.mem_cons, List.not_mem_nil, or_false] at hm
  rcases hm with rfl
  · exact c57
theorem card_holds : Rows.FnExactProperCardSaid :=
  Claim7.holds_tied_plain_at .later [] [.data, .pinned] true (true, "d58e11a26aa26c10d085f1a868e0e8166d6bf3e06591f4f4f95f412261ce4559") true over (fun _ h => by cases h) c2 (fun _ h => by cases h) fnExactProper_row_tie rfl ⟨rfl, rfl⟩ c1 rfl c5 c4
end Go.Proofs.YtnhhbdhkhdbanaaDoor.fnExactProper
namespace Go.Proofs.YtnhhbdhkhdbanaaDoor
theorem fnExactProper_holds : Rows.FnExactProperCardSaid := fnExactProper.card_holds
#print axioms fnExactProper_holds
end Go.Proofs.YtnhhbdhkhdbanaaDoor
