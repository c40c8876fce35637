/- container/heap.down over the heap of due items. -/
import Derived.Test.YtnhhbdhkhdbanaaUHp5
namespace Go.Proofs.Ytnhhbdhkhdbanaa.X
open Go Go.RowKit Go.Proofs.YtnhhbdhkhdbanaaW.PrintWords Go.Proofs.YtnhhbdhkhdbanaaW.PrintLast Go.Proofs.YtnhhbdhkhdbanaaW.PrintMore
set_option linter.unusedVariables false
set_option linter.unusedSimpArgs false
theorem less_b {w0 w : World} {g : Nat} {v : Value} {l : List S55} (h : Hs w0 w g v l) (i j : Int) (b : Bool) (d : ltD (rd_T55 l i) (rd_T55 l j) = b) (h0 : 0 ≤ i) (h1 : i < l.length) (h2 : 0 ≤ j) (h3 : j < l.length) :
    Calls Try.prog 62 #[v, .int .i64 i, .int .i64 j] w fun e w' => e = .returned (.bool b) ∧ Stp w0 w w' g v v l := d ▸ less_m h i j h0 h1 h2 h3
/-- heap.down: the element goes down as long as one below it, among the first n, is less. -/
def downL : Nat → List S55 → Nat → Nat → List S55
  | 0, l, _, _ => l
  | k + 1, l, i, n => if (n : Int) ≤ 2 * (i : Int) + 1 then l else
    if 2 * (i : Int) + 1 + 1 < (n : Int) ∧ ltD (rd_T55 l (2 * (i : Int) + 1 + 1)) (rd_T55 l (2 * (i : Int) + 1)) = true then
      (if ltD (rd_T55 l (2 * (i : Int) + 1 + 1)) (rd_T55 l (i : Int)) = true then downL k (swpD l (i : Int) (2 * (i : Int) + 1 + 1)) (2 * i + 2) n else l)
    else (if ltD (rd_T55 l (2 * (i : Int) + 1)) (rd_T55 l (i : Int)) = true then downL k (swpD l (i : Int) (2 * (i : Int) + 1)) (2 * i + 1) n else l)
set_option maxHeartbeats 8000000 in
set_option maxRecDepth 100000 in
theorem down_calls (w0 w : World) (g : Nat) (v : Value) (l : List S55) (i n : Nat) (h : Hs w0 w g v l) (hn : n ≤ l.length) (hi : i ≤ n) (hl : l.length < 1000000000) :
    Calls Try.prog 29 #[.iface 50 (.pointer (some ⟨g, 0, none⟩)), .int .i64 (i : Int), .int .i64 (n : Int)] w fun e w' => (∃ b : Bool, e = .returned (.bool b)) ∧ ∃ v', Stp w0 w w' g v v' (downL (n + 1 - i) l i n) := by
  have e62 := enters62
  have e65 := enters65
  go_enter Try.func29, Try.ntmps29
  go_wp2
  go_loopg [7] (n + 1 - i) (fun kq v1 w' => ∃ (j1 : Nat) (l1 : List S55) (u : Value), v1 = .int .i64 (j1 : Int) ∧ Aside0 (n + 1 - j1 ≤ kq) ∧ Aside0 (Stp w0 w w' g v u l1) ∧ Aside0 (l1.length = l.length) ∧ Aside0 (j1 ≤ n) ∧ Aside0 (downL kq l1 j1 n = downL (n + 1 - i) l i n))
  case atStart => exact ⟨i, l, v, rfl, ⟨Nat.le_refl _⟩, ⟨Stp.refl h⟩, ⟨rfl⟩, ⟨hi⟩, ⟨rfl⟩⟩
  case round =>
    obtain ⟨j1, l1, u, rfl, hk, hS, hL, hj1, hU⟩ := hrel
    cases gk with
    | zero => exact absurd hk.out (by have := hj1.out; omega)
    | succ k1 =>
      have hI := hS.out.now
      have hln := hL.out
      have hjn := hj1.out
      have hkk := hk.out
      have hu := hU.out
      rw [downL] at hu
      have ew1 : wrap64 (2 * (j1 : Int)) = 2 * (j1 : Int) := by unfold wrap64; omega
      have ew2 : wrap64 (2 * (j1 : Int) + 1) = 2 * (j1 : Int) + 1 := by unfold wrap64; omega
      have ew3 : wrap64 (2 * (j1 : Int) + 1 + 1) = 2 * (j1 : Int) + 1 + 1 := by unfold wrap64; omega
      have mL := mLess hI.cell
      have HI := Aside0.mk hI
      have HU := Aside0.mk hu
      clear hU hk hj1 hu
      by_cases c : (n : Int) ≤ 2 * (j1 : Int) + 1
      · have hu := HU.out
        rw [if_pos c] at hu
        subst hu
        clear mL
        go_wp2
        go_ret
        exact ⟨⟨_, rfl⟩, _, hS.out⟩
      · have c0 : ¬ (2 * (j1 : Int) + 1 < 0) := by omega
        by_cases c2 : 2 * (j1 : Int) + 1 + 1 < (n : Int)
        · by_cases d1 : ltD (rd_T55 l1 (2 * (j1 : Int) + 1 + 1)) (rd_T55 l1 (2 * (j1 : Int) + 1)) = true
          · have hc1 := fun (W : World) (hW : Hs w0 W g u l1) => less_b hW (2 * (j1 : Int) + 1 + 1) (2 * (j1 : Int) + 1) true d1 (by omega) (by omega) (by omega) (by omega)
            have HC1 := Aside0.mk hc1
            clear hc1
            by_cases d2 : ltD (rd_T55 l1 (2 * (j1 : Int) + 1 + 1)) (rd_T55 l1 (j1 : Int)) = true
            · have hu := HU.out
              rw [if_neg c, if_pos ⟨c2, d1⟩, if_pos d2] at hu
              have hc2 := fun (W : World) (hW : Hs w0 W g u l1) => less_b hW (2 * (j1 : Int) + 1 + 1) (j1 : Int) true d2 (by omega) (by omega) (by omega) (by omega)
              have HC2 := Aside0.mk hc2
              have hsw := fun (W : World) (hW : Hs w0 W g u l1) => swap_m hW (j1 : Int) (2 * (j1 : Int) + 1 + 1) (by omega) (by omega) (by omega) (by omega)
              have HSW := Aside0.mk hsw
              have hn2 := swpD_length l1 (j1 : Int) (2 * (j1 : Int) + 1 + 1)
              have hN : Aside0 (2 * j1 + 2 ≤ n ∧ n + 1 - (2 * j1 + 2) ≤ k1 ∧ (((2 * j1 + 2 : Nat)) : Int) = (2 * (j1 : Int) + 1 + 1)) := ⟨by omega, by omega, by omega⟩
              have HU2 := Aside0.mk hu
              clear hsw hu HU
              clear hc2 d2 hkk hL
              go_wp2_with (first | (go_at_call 62; with_reducible refine (HC1.out _ HI.out).mono ?_; rintro e w2 ⟨rfl, hS2⟩; have HS2 := Aside0.mk hS2; clear hS2; have mL2 := mLess HS2.out.now.cell) | (go_at_call 62; with_reducible refine (HC2.out _ HS2.out.now).mono ?_; rintro e w3 ⟨rfl, hS3⟩; have HS3 := Aside0.mk hS3; clear hS3; have mS := mSwap HS3.out.now.cell) | (go_at_call 65; with_reducible refine (HSW.out _ HS3.out.now).mono ?_; rintro e w4 ⟨rfl, hS4⟩; have HS4 := Aside0.mk hS4; clear hS4))
              go_roundg k1
              case measure => omega
              case rel => exact ⟨2 * j1 + 2, _, u, by rw [hN.out.2.2], ⟨hN.out.2.1⟩, ⟨hS.out.trans ((HS2.out.trans HS3.out).trans HS4.out)⟩, ⟨hn2.trans hln⟩, ⟨hN.out.1⟩, HU2⟩
            · rw [Bool.not_eq_true] at d2
              have hu := HU.out
              rw [if_neg c, if_pos ⟨c2, d1⟩, if_neg (by rw [d2]; decide)] at hu
              have hc2 := fun (W : World) (hW : Hs w0 W g u l1) => less_b hW (2 * (j1 : Int) + 1 + 1) (j1 : Int) false d2 (by omega) (by omega) (by omega) (by omega)
              have HC2 := Aside0.mk hc2
              subst hu
              clear HU
              clear hc2 d2 hkk hL
              go_wp2_with (first | (go_at_call 62; with_reducible refine (HC1.out _ HI.out).mono ?_; rintro e w2 ⟨rfl, hS2⟩; have HS2 := Aside0.mk hS2; clear hS2; have mL2 := mLess HS2.out.now.cell) | (go_at_call 62; with_reducible refine (HC2.out _ HS2.out.now).mono ?_; rintro e w3 ⟨rfl, hS3⟩; have HS3 := Aside0.mk hS3; clear hS3))
              go_ret
              exact ⟨⟨_, rfl⟩, _, hS.out.trans (HS2.out.trans HS3.out)⟩
          · rw [Bool.not_eq_true] at d1
            have hc1 := fun (W : World) (hW : Hs w0 W g u l1) => less_b hW (2 * (j1 : Int) + 1 + 1) (2 * (j1 : Int) + 1) false d1 (by omega) (by omega) (by omega) (by omega)
            have HC1 := Aside0.mk hc1
            clear hc1
            by_cases d2 : ltD (rd_T55 l1 (2 * (j1 : Int) + 1)) (rd_T55 l1 (j1 : Int)) = true
            · have hu := HU.out
              rw [if_neg c, if_neg (fun hh => by rw [d1] at hh; cases hh.2), if_pos d2] at hu
              have hc2 := fun (W : World) (hW : Hs w0 W g u l1) => less_b hW (2 * (j1 : Int) + 1) (j1 : Int) true d2 (by omega) (by omega) (by omega) (by omega)
              have HC2 := Aside0.mk hc2
              have hsw := fun (W : World) (hW : Hs w0 W g u l1) => swap_m hW (j1 : Int) (2 * (j1 : Int) + 1) (by omega) (by omega) (by omega) (by omega)
              have HSW := Aside0.mk hsw
              have hn2 := swpD_length l1 (j1 : Int) (2 * (j1 : Int) + 1)
              have hN : Aside0 (2 * j1 + 1 ≤ n ∧ n + 1 - (2 * j1 + 1) ≤ k1 ∧ (((2 * j1 + 1 : Nat)) : Int) = (2 * (j1 : Int) + 1)) := ⟨by omega, by omega, by omega⟩
              have HU2 := Aside0.mk hu
              clear hsw hu HU
              clear hc2 d2 hkk hL
              go_wp2_with (first | (go_at_call 62; with_reducible refine (HC1.out _ HI.out).mono ?_; rintro e w2 ⟨rfl, hS2⟩; have HS2 := Aside0.mk hS2; clear hS2; have mL2 := mLess HS2.out.now.cell) | (go_at_call 62; with_reducible refine (HC2.out _ HS2.out.now).mono ?_; rintro e w3 ⟨rfl, hS3⟩; have HS3 := Aside0.mk hS3; clear hS3; have mS := mSwap HS3.out.now.cell) | (go_at_call 65; with_reducible refine (HSW.out _ HS3.out.now).mono ?_; rintro e w4 ⟨rfl, hS4⟩; have HS4 := Aside0.mk hS4; clear hS4))
              go_roundg k1
              case measure => omega
              case rel => exact ⟨2 * j1 + 1, _, u, by rw [hN.out.2.2], ⟨hN.out.2.1⟩, ⟨hS.out.trans ((HS2.out.trans HS3.out).trans HS4.out)⟩, ⟨hn2.trans hln⟩, ⟨hN.out.1⟩, HU2⟩
            · rw [Bool.not_eq_true] at d2
              have hu := HU.out
              rw [if_neg c, if_neg (fun hh => by rw [d1] at hh; cases hh.2), if_neg (by rw [d2]; decide)] at hu
              have hc2 := fun (W : World) (hW : Hs w0 W g u l1) => less_b hW (2 * (j1 : Int) + 1) (j1 : Int) false d2 (by omega) (by omega) (by omega) (by omega)
              have HC2 := Aside0.mk hc2
              subst hu
              clear HU
              clear hc2 d2 hkk hL
              go_wp2_with (first | (go_at_call 62; with_reducible refine (HC1.out _ HI.out).mono ?_; rintro e w2 ⟨rfl, hS2⟩; have HS2 := Aside0.mk hS2; clear hS2; have mL2 := mLess HS2.out.now.cell) | (go_at_call 62; with_reducible refine (HC2.out _ HS2.out.now).mono ?_; rintro e w3 ⟨rfl, hS3⟩; have HS3 := Aside0.mk hS3; clear hS3))
              go_ret
              exact ⟨⟨_, rfl⟩, _, hS.out.trans (HS2.out.trans HS3.out)⟩
        · by_cases d2 : ltD (rd_T55 l1 (2 * (j1 : Int) + 1)) (rd_T55 l1 (j1 : Int)) = true
          · have hu := HU.out
            rw [if_neg c, if_neg (fun hh => c2 hh.1), if_pos d2] at hu
            have hc2 := fun (W : World) (hW : Hs w0 W g u l1) => less_b hW (2 * (j1 : Int) + 1) (j1 : Int) true d2 (by omega) (by omega) (by omega) (by omega)
            have HC2 := Aside0.mk hc2
            have hsw := fun (W : World) (hW : Hs w0 W g u l1) => swap_m hW (j1 : Int) (2 * (j1 : Int) + 1) (by omega) (by omega) (by omega) (by omega)
            have HSW := Aside0.mk hsw
            have hn2 := swpD_length l1 (j1 : Int) (2 * (j1 : Int) + 1)
            have hN : Aside0 (2 * j1 + 1 ≤ n ∧ n + 1 - (2 * j1 + 1) ≤ k1 ∧ (((2 * j1 + 1 : Nat)) : Int) = (2 * (j1 : Int) + 1)) := ⟨by omega, by omega, by omega⟩
            have HU2 := Aside0.mk hu
            clear hsw hu HU
            clear hc2 d2 hkk hL
            go_wp2_with (first | (go_at_call 62; with_reducible refine (HC2.out _ HI.out).mono ?_; rintro e w3 ⟨rfl, hS3⟩; have HS3 := Aside0.mk hS3; clear hS3; have mS := mSwap HS3.out.now.cell) | (go_at_call 65; with_reducible refine (HSW.out _ HS3.out.now).mono ?_; rintro e w4 ⟨rfl, hS4⟩; have HS4 := Aside0.mk hS4; clear hS4))
            go_roundg k1
            case measure => omega
            case rel => exact ⟨2 * j1 + 1, _, u, by rw [hN.out.2.2], ⟨hN.out.2.1⟩, ⟨hS.out.trans (HS3.out.trans HS4.out)⟩, ⟨hn2.trans hln⟩, ⟨hN.out.1⟩, HU2⟩
          · rw [Bool.not_eq_true] at d2
            have hu := HU.out
            rw [if_neg c, if_neg (fun hh => c2 hh.1), if_neg (by rw [d2]; decide)] at hu
            have hc2 := fun (W : World) (hW : Hs w0 W g u l1) => less_b hW (2 * (j1 : Int) + 1) (j1 : Int) false d2 (by omega) (by omega) (by omega) (by omega)
            have HC2 := Aside0.mk hc2
            subst hu
            clear HU
            clear hc2 d2 hkk hL
            go_wp2_with (go_at_call 62; with_reducible refine (HC2.out _ HI.out).mono ?_; rintro e w3 ⟨rfl, hS3⟩; have HS3 := Aside0.mk hS3; clear hS3)
            go_ret
            exact ⟨⟨_, rfl⟩, _, hS.out.trans HS3.out⟩
end Go.Proofs.Ytnhhbdhkhdbanaa.X
