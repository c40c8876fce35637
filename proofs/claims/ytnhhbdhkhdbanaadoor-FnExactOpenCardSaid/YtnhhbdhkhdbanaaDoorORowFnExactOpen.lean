/- The row and the tied card of laws.FnExactOpen: the printed walk of the law, over the pure statement that this session proved. No condition beyond the given statement's. -/
import Derived.Test.YtnhhbdhkhdbanaaDoorRows
import Derived.Test.YtnhhbdhkhdbanaaDoorCards
import Derived.Test.YtnhhbdhkhdbanaaDoorTie
import Derived.Test.YtnhhbdhkhdbanaaDoorOX14
import Derived.Test.YtnhhbdhkhdbanaaDoorOPureFnExactOpen
import Derived.Test.YtnhhbdhkhdbanaaDoorOOpn
import Derived.Test.YtnhhbdhkhdbanaaDoorOGlobIn
import Derived.WalkKit
import Derived.ProofKit
import Derived.OpenShut
import Derived.ShutString
import Derived.ChangeOld
import Derived.Below
import Derived.SizedLaws
import Derived.Carry
import Derived.LaidMore
import Derived.Lay
import Derived.SevenTiedAt
import Derived.Stop.Joined
namespace Go.Proofs.YtnhhbdhkhdbanaaDoor.fnExactOpen
open Go.ChangeShapes Go.WideShapes Go.ChangeAt Go.RowKit Go.Proofs.YtnhhbdhkhdbanaaDoorW.PrintWords
open Go.ChangeMaps (open_string shut_string)
set_option linter.unusedVariables false
theorem own : ownKnob Tryd.prog.godebug = none := by kernel_rfl
theorem laidOut : laidOutB Tryd.prog = true := by kernel_rfl
set_option maxRecDepth 100000 in
set_option maxHeartbeats 1000000 in
theorem lifted (os : Os) (started : os.Started) (H : Type) (enc : TypeId × Value → H) :
    ReturnsInHanded {} Tryd.checked os 5 .any (fun w args => (Rows.fnExactOpenSpec.pre enc Tryd.prog Tryd.f5 Rows.fnExactOpenRow.domain false w args ∧ laidMetH Tryd.prog Rows.fnExactOpenRow.laid w) ∧ sizedMet enc Tryd.prog Tryd.f5 (OpenSpec.ofChange Rows.fnExactOpenSpec) false w args)
      (Rows.fnExactOpenSpec.post enc Tryd.prog Tryd.f5 false true false false) := by
  refine Opn.handed_shaped (C := Tryd.checked) (X := fun w _ => laidMetH Tryd.prog Rows.fnExactOpenRow.laid w) (fun _ _ _ hh h => h.of_heap hh) own started (by kernel_rfl) Tryd.func5
    (ChangeSpec.witness_shaped (enc := enc) (C := Tryd.checked) (os := os) (X := fun w _ => laidMetH Tryd.prog Rows.fnExactOpenRow.laid w) false (World.laidAll Tryd.prog os Rows.fnExactOpenRow.laid) #[.string ByteArray.empty, .string ByteArray.empty, .slice none 0 0, .string ByteArray.empty] 8 (World.laidAll_os _ _ _)
      (World.shaped_of_ZipB (by kernel_rfl) (by kernel_rfl)) (by kernel_rfl) (by kernel_rfl) (by kernel_rfl)
      (by rw [MakeChecks.laidMetH_plain _ _ _ (by kernel_rfl)]; exact laidMet_laidAll _ (by kernel_rfl) (by kernel_rfl))) ?_
  intro W base args ds gs before hval0 hW hcnd hsh hL
  have hval : ∀ (j : Nat) t v, Tryd.f5.params[j]? = some t → args[j]? = some v → Value.okWide Tryd.prog W .any base t v := hval0
  have hW' := hW
  obtain ⟨p, q, hA0, hV, rfl, hfz, hnd⟩ := hW
  have hA : DataW.TrodAll enc Tryd.prog W 0 (fun _ => true) true Tryd.f5.params.toList args.toList ds p := hA0
  rw [Tryd.params5] at hA hval
  obtain ⟨v0, vs0, d0, ds0, p0, q0, hargs, rfl, rfl, h0, r0⟩ := trodAll_cons hA
  obtain ⟨v1, vs1, d1, ds1, p1, q1, rfl, rfl, rfl, h1, r1⟩ := trodAll_cons r0
  obtain ⟨v2, vs2, d2, ds2, p2, q2, rfl, rfl, rfl, h2, r2⟩ := trodAll_cons r1
  obtain ⟨v3, vs3, d3, ds3, p3, q3, rfl, rfl, rfl, h3, r3⟩ := trodAll_cons r2
  obtain ⟨rfl, rfl, rfl⟩ := trodAll_nil r3
  obtain rfl : args = #[v0, v1, v2, v3] := by cases args; simp_all
  obtain ⟨rfl, rfl⟩ := trodVars_none hV
  have k0 := h0
  have lt0 : ∀ x ∈ p0, x.block < W.heap.size := by obtain ⟨m, hm⟩ := k0; exact DataW.trod_lt m _ _ _ hm
  obtain ⟨a0, rfl, _, _, w0⟩ := open_string Tryd.underlying9 (hval 0 9 v0 rfl rfl) h0
  have k1 := h1
  have lt1 : ∀ x ∈ p1, x.block < W.heap.size := by obtain ⟨m, hm⟩ := k1; exact DataW.trod_lt m _ _ _ hm
  obtain ⟨a1, rfl, _, _, w1⟩ := open_string Tryd.underlying9 (hval 1 9 v1 rfl rfl) h1
  have k2 := h2
  have lt2 : ∀ x ∈ p2, x.block < W.heap.size := by obtain ⟨m, hm⟩ := k2; exact DataW.trod_lt m _ _ _ hm
  obtain ⟨a2, A2, c2, rfl, hl2, hC2, w2⟩ := Opn.open_sl Tryd.underlying30 (Opn.opens_slice Tryd.underlying30 (by kernel_rfl) (Opn.opens_string Tryd.underlying9)) (hval 2 30 v2 rfl rfl) h2
  have k3 := h3
  have lt3 : ∀ x ∈ p3, x.block < W.heap.size := by obtain ⟨m, hm⟩ := k3; exact DataW.trod_lt m _ _ _ hm
  obtain ⟨a3, rfl, _, _, w3⟩ := open_string Tryd.underlying9 (hval 3 9 v3 rfl rfl) h3
  have hGM := GlobIn.glM hsh
  clear hA0 hval0
  obtain ⟨k, h⟩ := Pure.FnExactOpen a0 w0 a1 w1 a2 w2 a3 w3
  refine (X.laws_FnExactOpen.calls k a0 a1 _ _ a2 a3 true W hGM hC2 hl2 h).mono fun e W' ⟨he, bel0⟩ => ?_
  have bel : Below W.heap.size W W' := bel0
  subst he
  exact ⟨_, rfl, _, _, _, [], _, [], hW', trodAll_mk1 (shut_bool Tryd.underlying4 _), (trodAll_cons_mk (Below.trod laidOut (by kernel_rfl) (of_decide_eq_true (by kernel_rfl)) k0 bel lt0) (trodAll_cons_mk (Below.trod laidOut (by kernel_rfl) (of_decide_eq_true (by kernel_rfl)) k1 bel lt1) (trodAll_cons_mk (Below.trod laidOut (by kernel_rfl) (of_decide_eq_true (by kernel_rfl)) k2 bel lt2) (trodAll_cons_mk (Below.trod laidOut (by kernel_rfl) (of_decide_eq_true (by kernel_rfl)) k3 bel lt3) trodAll_mk0)))), rfl, bel.frame _, fun h => by cases h⟩
-- each fact of the row by itself: the checker's memory is given back after each
theorem t1 : Tryd.pinned.checked.prog.funcNamed Rows.fnExactOpenRow.func = some 5 := by kernel_rfl
theorem t2 : joinedFacts Tryd.pinned.checked.prog 5 Tryd.f5 Rows.fnExactOpenSpec Rows.fnExactOpenRow = true := by kernel_rfl
theorem t3 : Tryd.f5.isInstance Tryd.pinned.checked.prog Rows.fnExactOpenRow.origin Rows.fnExactOpenRow.targs := (of_decide_eq_true (by kernel_rfl))
theorem t4 : Tryd.f5.isWrapper Tryd.pinned.checked.prog Rows.fnExactOpenRow.wrapper Rows.fnExactOpenRow.mainSum := (by unfold Func.isWrapper; first | (rw [if_pos (by decide +kernel)]; kernel_rfl) | (rw [if_neg (by decide +kernel)]; exact ⟨rfl, rfl⟩))
theorem t5 : ∀ os : Os, os.Started → ∀ (H : Type) (enc : TypeId × Value → H), (∀ a b, enc a = enc b → a = b) →
    ReturnsInHanded Rows.fnExactOpenRow.assume Tryd.pinned.checked os 5 .any (Rows.fnExactOpenRow.pre enc Tryd.pinned.checked.prog Tryd.f5 (OpenSpec.ofChange Rows.fnExactOpenSpec)) (Rows.fnExactOpenSpec.post enc Tryd.pinned.checked.prog Tryd.f5 Rows.fnExactOpenRow.apart Rows.fnExactOpenRow.fresh Rows.fnExactOpenRow.handsOn Rows.fnExactOpenRow.again) := fun os started H enc _ => lifted os started H enc
theorem over : Rows.fnExactOpenRow.holds Tryd.pinned (OpenSpec.ofChange Rows.fnExactOpenSpec) :=
  OpenClaim.holds_of_wide 5 Tryd.f5 rfl rfl rfl rfl rfl rfl rfl ⟨rfl, rfl, rfl, rfl, rfl⟩ rfl rfl rfl rfl rfl t1 Tryd.func5 t2 t3 t4 t5
theorem c19 : Tryd.prog.wantsStandIn 9 = false := by kernel_rfl
theorem c40 : Tryd.prog.wantsStandIn 30 = false := by kernel_rfl
theorem c1 : Tryd.pinned.checked.prog.mainIs = some (true, "d58e11a26aa26c10d085f1a868e0e8166d6bf3e06591f4f4f95f412261ce4559".toList) := by kernel_rfl
theorem c2 : Rows.fnExactOpenRow.wfByText (OpenSpec.ofChange Rows.fnExactOpenSpec) = true := by kernel_rfl
theorem c3 : true = Tryd.pinned.checked.prog.looks [] := by kernel_rfl
theorem c4 : false = Rows.fnExactOpenRow.goesBy Tryd.pinned.checked.prog := by kernel_rfl
theorem c5 : ∀ f fn, Tryd.pinned.checked.prog.funcNamed Rows.fnExactOpenRow.func = some f → Tryd.pinned.checked.prog.funcs[f]? = some fn → true = Tryd.pinned.checked.prog.looks [] ∧ ∀ (j : Nat) t, fn.params[j]? = some t → Tryd.pinned.checked.prog.wantsStandIn t = false := fun f fn hf hfn => by
  obtain rfl : f = 5 := (Option.some.inj (t1.symm.trans hf)).symm
  obtain rfl : fn = Tryd.f5 := (Option.some.inj (Tryd.func5.symm.trans hfn)).symm
  refine ⟨c3, fun j t ht => ?_⟩
  rw [Tryd.params5] at ht
  have hm : t ∈ [9, 30] := by have := Array.mem_of_getElem? ht; simp at this ⊢; first | omega | grind | (rcases this with h | h | h | h <;> subst h <;> simp)
  simp only [List.mem_cons, List.not_mem_nil, or_false] at hm
  rcases hm with rfl | rfl
  · exact c19
  · exact c40
theorem card_holds : Rows.FnExactOpenCardSaid :=
  Claim7.holds_tied_plain_at .later [] [.data, .pinned] true (true, "d58e11a26aa26c10d085f1a868e0e8166d6bf3e06591f4f4f95f412261ce4559") true over (fun _ h => by cases h) c2 (fun _ h => by cases h) fnExactOpen_row_tie rfl ⟨rfl, rfl⟩ c1 rfl c5 c4
end Go.Proofs.YtnhhbdhkhdbanaaDoor.fnExactOpen
namespace Go.Proofs.YtnhhbdhkhdbanaaDoor
theorem fnExactOpen_holds : Rows.FnExactOpenCardSaid := fnExactOpen.card_holds
#print axioms fnExactOpen_holds
end Go.Proofs.YtnhhbdhkhdbanaaDoor
