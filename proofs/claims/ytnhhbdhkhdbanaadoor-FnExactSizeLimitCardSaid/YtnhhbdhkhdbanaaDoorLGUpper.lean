/- The contract of spec.l2upper: each small letter turned to the great one. Condition: a text of at most 2^40 bytes. -/
import Derived.Test.YtnhhbdhkhdbanaaDoorLX0
import Derived.Test.YtnhhbdhkhdbanaaDoorLGRow
import Derived.Lib.ConvBytes
import Derived.Lib.Hide
import Derived.Lib.Strings
import Derived.Deep.LoopGhost
import Derived.WalkKit
import Derived.Lib.Walk
namespace Go.Proofs.YtnhhbdhkhdbanaaDoor.X
open Go Go.RowKit Go.Proofs.YtnhhbdhkhdbanaaDoorW.PrintWords
set_option linter.unusedVariables false
set_option linter.unusedSimpArgs false
def upC (b : UInt8) : UInt8 := if 97 ≤ b ∧ b ≤ 122 then b - 32 else b
def spec_l2upper.f (a0 : ByteArray) : Option ByteArray := if a0.size ≤ 1099511627776 then some ⟨(a0.data.toList.map upC).toArray⟩ else none
set_option maxHeartbeats 4000000 in
set_option maxRecDepth 100000 in
theorem spec_l2upper.calls (a0 : ByteArray) (r : ByteArray) (w : World) (h : spec_l2upper.f a0 = some r) :
    Calls Tryd.prog 55 #[.string a0] w fun e w' => e = .returned (.string r) ∧ Below w.heap.size w w' := by
  unfold spec_l2upper.f at h
  by_cases hz : a0.size ≤ 1099511627776
  case neg => rw [if_neg hz] at h; cases h
  rw [if_pos hz] at h
  obtain rfl := Option.some.inj h
  clear h
  generalize a0 = s at hz
  have hsl : s.data.toList.length = s.size := (Lib.size_eq s).symm
  have HSL := Lib.hid hsl
  clear hsl
  have kc := fun (W : World) => Lib.run_convert_string_bytes (P := Tryd.prog) W 9 22 5 s Tryd.underlying9 Tryd.underlying22 Tryd.underlying5
  go_enter Tryd.func55, Tryd.ntmps55
  go_wp2
  have HB := Aside0.mk (bytes_below (Below.refl w.heap.size w) (Nat.le_refl _) 5 s)
  have HC := Aside0.mk (show CRow (Lib.bytesWorld w 5 s) w.heap.size s.data.toList from crow_new w 5 s)
  clear kc
  go_loopg [10] s.size (fun k p wx => ∃ i : Nat, i + k = s.size ∧ p = .int .i64 i ∧ Aside0 (CRow wx w.heap.size (cleanL upC s.data.toList i)) ∧ Aside0 (Below w.heap.size w wx))
  case atStart => exact ⟨0, by omega, rfl, ⟨by rw [cleanL_zero]; exact HC.out⟩, HB⟩
  case round =>
    clear HC HB
    obtain ⟨i, hik, rfl, HC, HB⟩ := hrel
    cases gk with
    | zero =>
      obtain rfl : i = s.size := by omega
      have hnl : ¬ ((s.size : Int) < (s.size : Int)) := by omega
      have kd := run_convert_bytes_arg (P := Tryd.prog) wr 22 5 Tryd.underlying22 Tryd.underlying5 w.heap.size 0 s.size (grownCap w s.size 0 5) ((s.data.toList.map upC).map fun b => (b.toNat : Int)) (by rw [List.length_map, List.length_map]; exact HSL.out) (fun j hj => by
        have hj' : j < (s.data.toList.map upC).length := by rw [List.length_map, HSL.out]; exact hj
        have h1 := HC.out
        rw [show s.size = s.data.toList.length from HSL.out.symm, cleanL_all] at h1
        have h2 := (h1 j hj').1
        rw [Nat.zero_add, h2, List.getD_eq_getElem?_getD, List.getElem?_map, List.getElem?_eq_getElem hj']; rfl) 9 Tryd.underlying9
      rw [str_of] at kd
      go_wp2
      go_ret
      exact ⟨rfl, HB.out⟩
    | succ k =>
      have hi : i < s.size := by omega
      have hi' : (i : Int) < (s.size : Int) := by omega
      have hil : i < s.data.toList.length := by rw [HSL.out]; exact hi
      have hcl : i < (cleanL upC s.data.toList i).length := by rw [cleanL_len _ _ _ (by omega)]; exact hil
      have hat := cleanL_at upC s.data.toList i hil
      obtain ⟨hc, hf⟩ := HC.out i hcl
      rw [List.getElem?_eq_getElem hcl] at hat
      rw [Option.some.inj hat] at hc
      have HS := Aside0.mk (cleanL_succ upC s.data.toList i hil)
      have HKP := Aside0.mk (cleanL_keep upC s.data.toList i hil)
      have HL := Aside0.mk hcl
      clear hat hcl
      generalize s.data.toList[i] = x at hc HS HKP
      clear hil
      have hx := x.toNat_lt
      have e97 : (97 : UInt8).toNat = 97 := rfl
      have e122 : (122 : UInt8).toNat = 122 := rfl
      have HE97 := Aside0.mk e97
      have HE122 := Aside0.mk e122
      clear e97 e122
      by_cases c1 : (97 : Int) ≤ x.toNat
      · by_cases c2 : (x.toNat : Int) ≤ 122
        · have HE := Aside0.mk (show ((upC x).toNat : Int) = (x.toNat : Int) - 32 by
            have e1 := HE97.out
            have e2 := HE122.out
            unfold upC
            rw [if_pos ⟨UInt8.le_iff_toNat_le.2 (by omega), UInt8.le_iff_toNat_le.2 (by omega)⟩, UInt8.toNat_sub_of_le _ _ (UInt8.le_iff_toNat_le.2 (by show 32 ≤ x.toNat; omega))]
            show ((x.toNat - 32 : Nat) : Int) = _
            omega)
          go_wp2
          go_roundg k
          case measure => omega
          case rel => exact ⟨i + 1, by omega, by first | rfl | simp, ⟨by rw [HS.out, ← HE.out]; exact crow_set _ _ _ i _ HC.out HL.out⟩, ⟨HB.out.setCell (Nat.le_refl _) _⟩⟩
        · have HE := Aside0.mk (show upC x = x by
            have e2 := HE122.out
            unfold upC
            rw [if_neg]
            rintro ⟨_, h⟩
            have := UInt8.le_iff_toNat_le.1 h
            omega)
          go_wp2
          go_roundg k
          case measure => omega
          case rel => exact ⟨i + 1, by omega, by first | rfl | simp, ⟨by rw [HKP.out HE.out]; exact HC.out⟩, HB⟩
      · have HE := Aside0.mk (show upC x = x by
          have e1 := HE97.out
          unfold upC
          rw [if_neg]
          rintro ⟨h, _⟩
          have := UInt8.le_iff_toNat_le.1 h
          omega)
        go_wp2
        go_roundg k
        case measure => omega
        case rel => exact ⟨i + 1, by omega, by first | rfl | simp, ⟨by rw [HKP.out HE.out]; exact HC.out⟩, HB⟩
end Go.Proofs.YtnhhbdhkhdbanaaDoor.X
