/- container/heap.up over the heap of due items. -/
import Derived.Test.YtnhhbdhkhdbanaaUHp4
namespace Go.Proofs.Ytnhhbdhkhdbanaa.X
open Go Go.RowKit Go.Proofs.YtnhhbdhkhdbanaaW.PrintWords Go.Proofs.YtnhhbdhkhdbanaaW.PrintLast Go.Proofs.YtnhhbdhkhdbanaaW.PrintMore
set_option linter.unusedVariables false
set_option linter.unusedSimpArgs false
/-- Two elements change places. -/
def swpD (l : List S55) (i j : Int) : List S55 := (l.set i.toNat (rd_T55 l j)).set j.toNat (rd_T55 l i)
theorem swpD_length (l : List S55) (i j : Int) : (swpD l i j).length = l.length := by unfold swpD; rw [List.length_set, List.length_set]
theorem less_m {w0 w : World} {g : Nat} {v : Value} {l : List S55} (h : Hs w0 w g v l) (i j : Int) (h0 : 0 ≤ i) (h1 : i < l.length) (h2 : 0 ≤ j) (h3 : j < l.length) :
    Calls Try.prog 62 #[v, .int .i64 i, .int .i64 j] w fun e w' => e = .returned (.bool (ltD (rd_T55 l i) (rd_T55 l j))) ∧ Stp w0 w w' g v v l := by
  obtain ⟨A, c, rfl, hc, hC⟩ := Kd.R_reads h.row
  refine (impl_dueHeap_Less.calls A c l i j _ w hC hc (less_f l i j h0 h1 h2 h3)).mono ?_
  rintro e w' ⟨rfl, hb⟩
  exact ⟨rfl, (Stp.refl h).below_ hb⟩
theorem swap_m {w0 w : World} {g : Nat} {v : Value} {l : List S55} (h : Hs w0 w g v l) (i j : Int) (h0 : 0 ≤ i) (h1 : i < l.length) (h2 : 0 ≤ j) (h3 : j < l.length) :
    Calls Try.prog 65 #[v, .int .i64 i, .int .i64 j] w fun e w' => e = .returned (.tuple #[]) ∧ Stp w0 w w' g v v (swpD l i j) := by
  obtain ⟨r, c, rfl, hbr, hlr, cells, hcr⟩ := Kd.R_form h.row (by omega)
  have hne : r ≠ g := h.row.1 r rfl
  refine (swap_calls r c l i j _ _ w h.row h0 h1 h2 h3).mono ?_
  rintro e w' ⟨rfl, hR, hg⟩
  have e1 : (Value.slice (some ⟨r, 0, none⟩) l.length c).ownBlock = some r := rfl
  refine ⟨rfl, ⟨pw_below_grown h.below (some r) h.below.size hg (fun k hk => by cases hk; exact hbr), h.ge, blk_grown h.blk hg (fun hk => hne (Option.some.inj hk).symm), hR⟩, e1 ▸ KeepBut.of_grown hg g, .inl rfl⟩
theorem len_m {w0 w : World} {g : Nat} {v : Value} {l : List S55} (h : Hs w0 w g v l) : Calls Try.prog 22 #[v] w fun e w' => e = .returned (.int .i64 l.length) ∧ w' = w := by
  obtain ⟨A, c, rfl, hc, hC⟩ := Kd.R_reads h.row
  exact len_calls A l.length c w
theorem enters62 (args : Array Value) (w : World) : (callFunc 62 args).run Try.prog w = .ok (.enter 62 args) w := enters_ (by kernel_rfl) (fn := Try.f62) (by kernel_rfl) rfl args w
theorem enters65 (args : Array Value) (w : World) : (callFunc 65 args).run Try.prog w = .ok (.enter 65 args) w := enters_ (by kernel_rfl) (fn := Try.f65) (by kernel_rfl) rfl args w
theorem enters22 (args : Array Value) (w : World) : (callFunc 22 args).run Try.prog w = .ok (.enter 22 args) w := enters_ (by kernel_rfl) (fn := Try.f22) (by kernel_rfl) rfl args w
theorem enters63 (args : Array Value) (w : World) : (callFunc 63 args).run Try.prog w = .ok (.enter 63 args) w := enters_ (by kernel_rfl) (fn := Try.f63) (by kernel_rfl) rfl args w
theorem enters64 (args : Array Value) (w : World) : (callFunc 64 args).run Try.prog w = .ok (.enter 64 args) w := enters_ (by kernel_rfl) (fn := Try.f64) (by kernel_rfl) rfl args w
/-- heap.up: the element goes up as long as it is less than the one above it. -/
def upL : Nat → List S55 → Nat → List S55
  | 0, l, _ => l
  | k + 1, l, j => if (j - 1) / 2 = j then l else if ltD (rd_T55 l (j : Int)) (rd_T55 l (((j - 1) / 2 : Nat) : Int)) = true then upL k (swpD l (((j - 1) / 2 : Nat) : Int) (j : Int)) ((j - 1) / 2) else l
theorem tdiv2 (j : Nat) : Int.tdiv ((j : Int) - 1) 2 = (((j - 1) / 2 : Nat) : Int) := by
  rcases Nat.eq_zero_or_pos j with rfl | h
  · rfl
  · rw [show (j : Int) - 1 = ((j - 1 : Nat) : Int) by omega]; rfl
set_option maxHeartbeats 4000000 in
set_option maxRecDepth 100000 in
theorem up_calls (w0 w : World) (g : Nat) (v : Value) (l : List S55) (j : Nat) (h : Hs w0 w g v l) (hj : j < l.length) (hl : l.length < 1000000000) :
    Calls Try.prog 28 #[.iface 50 (.pointer (some ⟨g, 0, none⟩)), .int .i64 (j : Int)] w fun e w' => e = .returned (.tuple #[]) ∧ ∃ v', Stp w0 w w' g v v' (upL (j + 1) l j) := by
  have e62 := enters62
  have e65 := enters65
  go_enter Try.func28, Try.ntmps28
  go_wp2
  go_loopg [1] (j + 1) (fun kq v1 w' => ∃ (j1 : Nat) (l1 : List S55) (u : Value), v1 = .int .i64 (j1 : Int) ∧ Aside0 (j1 < kq) ∧ Aside0 (Stp w0 w w' g v u l1) ∧ Aside0 (l1.length = l.length) ∧ Aside0 (j1 < l.length) ∧ Aside0 (upL kq l1 j1 = upL (j + 1) l j))
  case atStart => exact ⟨j, l, v, rfl, ⟨Nat.lt_succ_self _⟩, ⟨Stp.refl h⟩, ⟨rfl⟩, ⟨hj⟩, ⟨rfl⟩⟩
  case round =>
    obtain ⟨j1, l1, u, rfl, hk, hS, hL, hj1, hU⟩ := hrel
    cases gk with
    | zero => exact absurd hk.out (Nat.not_lt_zero _)
    | succ k1 =>
      have hI := hS.out.now
      have hn := hL.out
      have hjl := hj1.out
      have hu := hU.out
      rw [upL] at hu
      have et : Int.tdiv ((j1 : Int) - 1) 2 = (((j1 - 1) / 2 : Nat) : Int) := tdiv2 j1
      have ew1 : wrap64 ((j1 : Int) - 1) = (j1 : Int) - 1 := by unfold wrap64; omega
      have ew2 : wrap64 (((j1 - 1) / 2 : Nat) : Int) = (((j1 - 1) / 2 : Nat) : Int) := by unfold wrap64; omega
      by_cases c : (j1 - 1) / 2 = j1
      · rw [if_pos c] at hu
        subst hu
        have cb0 : ((((j1 - 1) / 2 : Nat) : Int) == (j1 : Int)) = true := by rw [c]; exact beq_self_eq_true _
        clear hU hk hL hj1
        go_wp2
        first | go_end0 | ((try simp only [Exit.inBlock, Exit.then]); refine bodyPost_ret (results_none rfl _ _ _) rfl ?_)
        exact ⟨rfl, _, hS.out⟩
      · rw [if_neg c] at hu
        have cb0 : ((((j1 - 1) / 2 : Nat) : Int) == (j1 : Int)) = false := beq_eq_false_iff_ne.2 (by omega)
        have c' : ¬ (((j1 - 1) / 2 : Nat) : Int) = (j1 : Int) := by omega
        have hlt : (j1 - 1) / 2 < j1 := by omega
        have mL := mLess hI.cell
        have hcl := less_m hI (j1 : Int) (((j1 - 1) / 2 : Nat) : Int) (by omega) (by omega) (by omega) (by omega)
        have hn2 := swpD_length l1 (((j1 - 1) / 2 : Nat) : Int) (j1 : Int)
        have hsw : ∀ {w2 : World}, Hs w0 w2 g u l1 → Calls Try.prog 65 #[u, .int .i64 (((j1 - 1) / 2 : Nat) : Int), .int .i64 (j1 : Int)] w2 fun e w' => e = .returned (.tuple #[]) ∧ Stp w0 w2 w' g u u (swpD l1 (((j1 - 1) / 2 : Nat) : Int) (j1 : Int)) := fun h2 => swap_m h2 _ _ (by omega) (by omega) (by omega) (by omega)
        have HSW := Aside0.mk @hsw
        clear hsw
        have hk1 : (j1 - 1) / 2 < k1 := by have := hk.out; omega
        have hN := Aside0.mk hlt
        have HI := Aside0.mk hI
        clear hI hlt
        by_cases d : ltD (rd_T55 l1 (j1 : Int)) (rd_T55 l1 (((j1 - 1) / 2 : Nat) : Int)) = true
        · rw [if_pos d] at hu
          rw [d] at hcl
          have HU := Aside0.mk hu
          clear hU hu c d hk hj1 hL
          generalize (j1 - 1) / 2 = i1 at HU cb0 c' mL hcl HSW hk1 hN et ew2 hn2 ⊢
          go_wp2_with (first | (go_at_call 62; refine hcl.mono ?_; rintro e w2 ⟨rfl, hS2⟩; have HS2 := Aside0.mk hS2; clear hS2; have mS := mSwap HS2.out.now.cell) | (go_at_call 65; refine (HSW.out HS2.out.now).mono ?_; rintro e w3 ⟨rfl, hS3⟩; have HS3 := Aside0.mk hS3; clear hS3))
          go_roundg k1
          case measure => omega
          case rel => exact ⟨i1, _, u, rfl, ⟨hk1⟩, ⟨hS.out.trans (HS2.out.trans HS3.out)⟩, ⟨hn2.trans hn⟩, ⟨by have := hN.out; omega⟩, HU⟩
        · rw [if_neg d] at hu
          subst hu
          rw [Bool.not_eq_true] at d
          rw [d] at hcl
          clear hU c d hk hj1 hL
          generalize (j1 - 1) / 2 = i1 at cb0 c' mL hcl HSW hk1 hN et ew2 hn2 ⊢
          go_wp2_with (go_at_call 62; refine hcl.mono ?_; rintro e w2 ⟨rfl, hS2⟩; have HS2 := Aside0.mk hS2; clear hS2)
          first | go_end0 | ((try simp only [Exit.inBlock, Exit.then]); refine bodyPost_ret (results_none rfl _ _ _) rfl ?_)
          exact ⟨rfl, _, hS.out.trans HS2.out⟩
end Go.Proofs.Ytnhhbdhkhdbanaa.X
