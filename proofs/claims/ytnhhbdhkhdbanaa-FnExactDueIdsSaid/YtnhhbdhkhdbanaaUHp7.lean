/- container/heap.Push and Pop over the heap of due items. -/
import Derived.Test.YtnhhbdhkhdbanaaUHp6
namespace Go.Proofs.Ytnhhbdhkhdbanaa.X
open Go Go.RowKit Go.Proofs.YtnhhbdhkhdbanaaW.PrintWords Go.Proofs.YtnhhbdhkhdbanaaW.PrintLast Go.Proofs.YtnhhbdhkhdbanaaW.PrintMore
set_option linter.unusedVariables false
set_option linter.unusedSimpArgs false
theorem upL_length : ∀ (k : Nat) (l : List S55) (j : Nat), (upL k l j).length = l.length
  | 0, _, _ => rfl
  | k + 1, l, j => by
    rw [upL]
    split
    · rfl
    · split
      · rw [upL_length k, swpD_length]
      · rfl
theorem downL_length : ∀ (k : Nat) (l : List S55) (i n : Nat), (downL k l i n).length = l.length
  | 0, _, _, _ => rfl
  | k + 1, l, i, n => by
    rw [downL]
    split
    · rfl
    · split
      · split
        · rw [downL_length k, swpD_length]
        · rfl
      · split
        · rw [downL_length k, swpD_length]
        · rfl
def pushL (l : List S55) (x : S55) : List S55 := upL (l.length + 1) (l ++ [x]) l.length
/-- What stands in the row when heap.Pop takes its last element off. -/
def sunkL (l : List S55) : List S55 := downL (l.length - 1 + 1) (swpD l 0 ((l.length - 1 : Nat) : Int)) 0 (l.length - 1)
set_option maxHeartbeats 4000000 in
set_option maxRecDepth 100000 in
theorem heapPush (w0 w : World) (g : Nat) (v : Value) (l : List S55) (x : S55) (h : Hs w0 w g v l) (hl : l.length < 999999999) :
    Calls Try.prog 21 #[.iface 50 (.pointer (some ⟨g, 0, none⟩)), dueV x] w fun e w' => e = .returned (.tuple #[]) ∧ ∃ v', Stp w0 w w' g v v' (pushL l x) := by
  have e64 := enters64
  have e22 := enters22
  have m1 := @mPush g w
  have hp := push_m w0 w g v l x h (by omega)
  have HP := Aside0.mk hp
  clear hp
  have hN : (l ++ [x]).length = l.length + 1 := by rw [List.length_append]; rfl
  have ew : wrap64 ((l.length : Int) + 1 - 1) = (l.length : Int) := by unfold wrap64; omega
  go_enter Try.func21, Try.ntmps21
  go_wp2_with (first
    | (go_at_call 64; with_reducible refine (HP.out).mono ?_; rintro e w2 ⟨rfl, v2, hS2⟩; have HS2 := Aside0.mk hS2; clear hS2; have m2 := mLen HS2.out.now.cell)
    | (go_at_call 22; with_reducible refine (len_m HS2.out.now).mono ?_; rintro e w3 ⟨rfl, rfl⟩; rw [show (((l ++ [x]).length : Nat) : Int) = (l.length : Int) + 1 by omega])
    | (go_at_call 28; with_reducible refine (up_calls w0 _ g v2 (l ++ [x]) l.length HS2.out.now (by omega) (by omega)).mono ?_; rintro e w4 ⟨rfl, v4, hS4⟩; have HS4 := Aside0.mk hS4; clear hS4))
  first | go_end0 | ((try simp only [Exit.inBlock, Exit.then]); refine bodyPost_ret (results_none rfl _ _ _) rfl ?_)
  exact ⟨rfl, _, HS2.out.trans HS4.out⟩
set_option maxHeartbeats 4000000 in
set_option maxRecDepth 100000 in
theorem heapPop (w0 w : World) (g : Nat) (v : Value) (l : List S55) (h : Hs w0 w g v l) (hp : 0 < l.length) (hl : l.length < 999999999) :
    Calls Try.prog 23 #[.iface 50 (.pointer (some ⟨g, 0, none⟩))] w fun e w' => e = .returned (dueV (rd_T55 (sunkL l) ((l.length : Int) - 1))) ∧ ∃ v', Stp w0 w w' g v v' ((sunkL l).take (l.length - 1)) := by
  have e63 := enters63
  have e65 := enters65
  have e22 := enters22
  have m1 := mLen h.cell
  have ms := mSwap h.cell
  have hlen := len_m h
  have hsw := swap_m h 0 ((l.length - 1 : Nat) : Int) (by omega) (by omega) (by omega) (by omega)
  have HL := Aside0.mk hlen
  have HW := Aside0.mk hsw
  clear hlen hsw
  have ew : wrap64 ((l.length : Int) - 1) = (l.length : Int) - 1 := by unfold wrap64; omega
  have en : ((l.length - 1 : Nat) : Int) = (l.length : Int) - 1 := by omega
  have hd : ∀ (W : World) (hW : Hs w0 W g v (swpD l 0 ((l.length - 1 : Nat) : Int))), Calls Try.prog 29 #[.iface 50 (.pointer (some ⟨g, 0, none⟩)), .int .i64 0, .int .i64 ((l.length - 1 : Nat) : Int)] W fun e w' => (∃ b : Bool, e = .returned (.bool b)) ∧ ∃ v', Stp w0 W w' g v v' (sunkL l) := fun W hW => down_calls w0 W g v _ 0 (l.length - 1) hW (by rw [swpD_length]; omega) (by omega) (by rw [swpD_length]; omega)
  have HD := Aside0.mk hd
  have hq := fun (W : World) (u : Value) (hW : Hs w0 W g u (sunkL l)) => pop_m w0 W g u _ hW (by unfold sunkL; rw [downL_length, swpD_length]; exact hp) (by unfold sunkL; rw [downL_length, swpD_length]; omega)
  have HQ := Aside0.mk hq
  have hz : (sunkL l).length = l.length := by unfold sunkL; rw [downL_length, swpD_length]
  clear hd hq
  go_enter Try.func23, Try.ntmps23
  go_wp2_with (first
    | (go_at_call 22; with_reducible refine (HL.out).mono ?_; rintro e w3 ⟨rfl, rfl⟩)
    | (go_at_call 65; (try rw [← en]); with_reducible refine (HW.out).mono ?_; rintro e w4 ⟨rfl, hS4⟩; have HS4 := Aside0.mk hS4; clear hS4)
    | (go_at_call 29; (try rw [← en]); with_reducible refine (HD.out _ HS4.out.now).mono ?_; rintro e w5 ⟨⟨b5, rfl⟩, v5, hS5⟩; have HS5 := Aside0.mk hS5; clear hS5; have m5 := @mPop g w5)
    | (go_at_call 63; with_reducible refine (HQ.out _ v5 HS5.out.now).mono ?_; rintro e w6 ⟨rfl, v6, hS6⟩; have HS6 := Aside0.mk hS6; clear hS6))
  go_ret
  refine ⟨rfl, v6, ?_⟩
  have := HS4.out.trans (HS5.out.trans HS6.out)
  rw [hz] at this
  exact this
end Go.Proofs.Ytnhhbdhkhdbanaa.X
