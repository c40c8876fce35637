/- The heap's methods as heap.Interface reaches them, and what Swap does. No condition on inputs. -/
import Derived.Test.YtnhhbdhkhdbanaaUHp0
import Derived.Handy
namespace Go.Proofs.Ytnhhbdhkhdbanaa.X
open Go Go.RowKit Go.Proofs.YtnhhbdhkhdbanaaW.PrintWords Go.Proofs.YtnhhbdhkhdbanaaW.PrintLast Go.Proofs.YtnhhbdhkhdbanaaW.PrintMore
set_option linter.unusedVariables false
set_option linter.unusedSimpArgs false
theorem load_at {P : Program} {w : World} {a : Addr} {v : Value} (h : w.cell? a = some v) : (load a).run P w = .ok v w := by
  unfold load Sem.run
  simp [h, go_sem]
theorem mLen {g : Nat} {w : World} {v : Value} (h : w.cell? ⟨g, 0, none⟩ = some v) : (method 208 50 (.pointer (some ⟨g, 0, none⟩)) "Len").run Try.prog w = .ok (22, v) w := by
  refine (show _ = ((load ⟨g, 0, none⟩) >>= fun v => pure (22, v) : Sem (FuncId × Value)).run Try.prog w by kernel_rfl).trans ?_
  rw [Sem.run_bind, load_at h]; rfl
theorem mLess {g : Nat} {w : World} {v : Value} (h : w.cell? ⟨g, 0, none⟩ = some v) : (method 208 50 (.pointer (some ⟨g, 0, none⟩)) "Less").run Try.prog w = .ok (62, v) w := by
  refine (show _ = ((load ⟨g, 0, none⟩) >>= fun v => pure (62, v) : Sem (FuncId × Value)).run Try.prog w by kernel_rfl).trans ?_
  rw [Sem.run_bind, load_at h]; rfl
theorem mSwap {g : Nat} {w : World} {v : Value} (h : w.cell? ⟨g, 0, none⟩ = some v) : (method 208 50 (.pointer (some ⟨g, 0, none⟩)) "Swap").run Try.prog w = .ok (65, v) w := by
  refine (show _ = ((load ⟨g, 0, none⟩) >>= fun v => pure (65, v) : Sem (FuncId × Value)).run Try.prog w by kernel_rfl).trans ?_
  rw [Sem.run_bind, load_at h]; rfl
theorem mPush {g : Nat} {w : World} : (method 208 50 (.pointer (some ⟨g, 0, none⟩)) "Push").run Try.prog w = .ok (64, .pointer (some ⟨g, 0, none⟩)) w := by kernel_rfl
theorem mPop {g : Nat} {w : World} : (method 208 50 (.pointer (some ⟨g, 0, none⟩)) "Pop").run Try.prog w = .ok (63, .pointer (some ⟨g, 0, none⟩)) w := by kernel_rfl
theorem len_calls (A : Option Addr) (n c : Nat) (w : World) : Calls Try.prog 22 #[.slice A n c] w fun e w' => e = .returned (.int .i64 n) ∧ w' = w := by
  go_enter Try.func22, Try.ntmps22
  go_wp2
  go_ret
  exact ⟨rfl, rfl⟩
/-- The order of the heap: at, then id, then place. -/
def ltD (a b : S55) : Bool := if a.f0 = b.f0 then if a.f1 = b.f1 then decide (a.f2 < b.f2) else decide (a.f1 < b.f1) else decide (a.f0 < b.f0)
theorem less_f (l : List S55) (i j : Int) (h0 : 0 ≤ i) (h1 : i < l.length) (h2 : 0 ≤ j) (h3 : j < l.length) : impl_dueHeap_Less.f l i j = some (ltD (rd_T55 l i) (rd_T55 l j)) := by
  unfold impl_dueHeap_Less.f ltD
  rw [if_pos h0, if_pos h1, if_pos h2, if_pos h3]
  split
  · split <;> rfl
  · rfl
end Go.Proofs.Ytnhhbdhkhdbanaa.X
