/- The contracts of spec.Clean and impl.Clean: at most 200 bytes, each that is not printable turned to '?'. No condition. -/
import Derived.Test.YtnhhbdhkhdbanaaX0
import Derived.Test.YtnhhbdhkhdbanaaX1
import Derived.Test.YtnhhbdhkhdbanaaX2
import Derived.Test.YtnhhbdhkhdbanaaX2
import Derived.Lib.ConvBytes
import Derived.Lib.Hide
import Derived.Lib.Strings
import Derived.Deep.LoopGhost
import Derived.WalkKit
import Derived.Lib.Walk
namespace Go.Proofs.Ytnhhbdhkhdbanaa.X
open Go Go.RowKit Go.Proofs.YtnhhbdhkhdbanaaW.PrintWords
set_option linter.unusedVariables false
set_option linter.unusedSimpArgs false
def clC (b : UInt8) : UInt8 := if b < 32 ∨ b > 126 then 63 else b
def cleanL (f : UInt8 → UInt8) (l : List UInt8) (i : Nat) : List UInt8 := (l.take i).map f ++ l.drop i
theorem cleanL_len (f : UInt8 → UInt8) (l : List UInt8) (i : Nat) (h : i ≤ l.length) : (cleanL f l i).length = l.length := by
  unfold cleanL; rw [List.length_append, List.length_map, List.length_take, List.length_drop]; omega
theorem cleanL_zero (f : UInt8 → UInt8) (l : List UInt8) : cleanL f l 0 = l := by simp [cleanL]
theorem cleanL_all (f : UInt8 → UInt8) (l : List UInt8) : cleanL f l l.length = l.map f := by simp [cleanL]
theorem cleanL_at (f : UInt8 → UInt8) (l : List UInt8) (i : Nat) (h : i < l.length) : (cleanL f l i)[i]? = some l[i] := by
  unfold cleanL
  rw [List.getElem?_append_right (by rw [List.length_map, List.length_take]; omega), List.length_map, List.length_take, Nat.min_eq_left (by omega), Nat.sub_self, List.getElem?_drop, Nat.add_zero, List.getElem?_eq_getElem h]
theorem cleanL_succ (f : UInt8 → UInt8) (l : List UInt8) (i : Nat) (h : i < l.length) : cleanL f l (i + 1) = (cleanL f l i).set i (f l[i]) := by
  have e : (l.drop i).set 0 (f l[i]) = f l[i] :: l.drop (i + 1) := by rw [List.drop_eq_getElem_cons h]; rfl
  unfold cleanL
  rw [List.take_succ_eq_append_getElem h, List.map_append, List.set_append_right _ _ (by rw [List.length_map, List.length_take]; omega), List.length_map, List.length_take, Nat.min_eq_left (by omega), Nat.sub_self, e]
  simp
/-- Block g of W holds these bytes, which may be written. -/
def CRow (W : World) (g : Nat) (l : List UInt8) : Prop := ∀ j (h : j < l.length), W.cell? ⟨g, j, none⟩ = some (.int .u8 (l[j].toNat : Int)) ∧ W.frozen? ⟨g, j, none⟩ = false
theorem crow_new (w : World) (e : TypeId) (s : ByteArray) : CRow (Lib.bytesWorld w e s) w.heap.size s.data.toList := by
  intro j h
  have hs : s.data.toList.length = s.size := (Lib.size_eq s).symm
  refine ⟨?_, ?_⟩
  · rw [Lib.bytesWorld_cell w e s j (by omega), List.getD_eq_getElem?_getD, List.getElem?_eq_getElem h]; rfl
  · have hsz : s.size ≤ (Lib.bytesCells w e s).size := by
      unfold Lib.bytesCells
      rw [Array.size_append, Array.size_map]
      exact Nat.le_add_right _ _
    unfold World.frozen?
    rw [Lib.bytesWorld_at_new]
    simp; omega
theorem crow_set (W : World) (g : Nat) (l : List UInt8) (i : Nat) (x : UInt8) (h : CRow W g l) (hi : i < l.length) : CRow (W.setCell ⟨g, i, none⟩ (.int .u8 (x.toNat : Int))) g (l.set i x) := by
  intro j hj
  rw [List.length_set] at hj
  obtain ⟨h1, h2⟩ := h j hj
  refine ⟨?_, by rw [World.frozen?_setCell]; exact h2⟩
  by_cases e : i = j
  · subst e
    rw [World.cell?_setCell_same _ _ _ h1, List.getElem_set_self]
  · rw [World.cell?_setCell_other _ _ _ _ (by intro hh; injection hh with _ h3; exact e h3), h1, List.getElem_set_ne e]
theorem cleanL_keep (f : UInt8 → UInt8) (l : List UInt8) (i : Nat) (h : i < l.length) (hf : f l[i] = l[i]) : cleanL f l (i + 1) = cleanL f l i := by
  have hl := cleanL_len f l i (by omega)
  have h1 := cleanL_at f l i h
  rw [List.getElem?_eq_getElem (by omega)] at h1
  have h2 := Option.some.inj h1
  rw [cleanL_succ f l i h, hf, ← h2, List.set_getElem_self]
def cut200 (a0 : ByteArray) : ByteArray := if (200 : Int) > (a0.size : Int) then a0 else a0.extract 0 200
def cleanV (s : ByteArray) : ByteArray := ⟨(s.data.toList.map clC).toArray⟩
def spec_Clean.f (a0 : ByteArray) : Option ByteArray := some (cleanV (cut200 a0))
def impl_Clean.f (a0 : ByteArray) : Option ByteArray := some (cleanV (cut200 a0))
theorem cut_size (a0 : ByteArray) : (cut200 a0).size ≤ 200 := by
  unfold cut200; split
  · omega
  · rw [ByteArray.size_extract]; omega
theorem keep200 (a0 : ByteArray) : spec_l1keep.f a0 200 = some (cut200 a0) := by
  unfold spec_l1keep.f cut200
  rw [if_neg (by decide)]
  by_cases h : (200 : Int) > (a0.size : Int)
  · rw [if_pos h, if_pos h]
  · rw [if_neg h, if_neg h, if_pos (by decide), if_pos (by omega)]; rfl
theorem str_of (l : List UInt8) : strOfNums (l.map fun b => (b.toNat : Int)) = ⟨l.toArray⟩ := by
  unfold strOfNums
  congr 1
  simp [Function.comp_def]
set_option maxHeartbeats 4000000 in
set_option maxRecDepth 100000 in
theorem spec_Clean.calls (a0 : ByteArray) (r : ByteArray) (w : World) (h : spec_Clean.f a0 = some r) :
    Calls Try.prog 5 #[.string a0] w fun e w' => e = .returned (.string r) ∧ Below w.heap.size w w' := by
  obtain rfl := Option.some.inj h
  clear h
  have hz := cut_size a0
  have hk := keep200 a0
  generalize cut200 a0 = s at hz hk
  have HK := Lib.hid hk
  clear hk
  have hsl : s.data.toList.length = s.size := (Lib.size_eq s).symm
  have HSL := Lib.hid hsl
  clear hsl
  have kc := fun (W : World) => Lib.run_convert_string_bytes (P := Try.prog) W 9 39 5 s Try.underlying9 Try.underlying39 Try.underlying5
  go_enter Try.func5, Try.ntmps5
  go_wp2_with (go_at_call 16; refine (spec_l1keep.calls a0 200 s _ HK.out).mono ?_; rintro e w' ⟨rfl, ⟨⟨nd, rfl⟩⟩⟩)
  have HB := Aside0.mk (bytes_below (pw_below_drewN (Below.refl w.heap.size w) nd) (Nat.le_refl _) 5 s)
  have HC := Aside0.mk (show CRow (Lib.bytesWorld (w.drewN nd) 5 s) w.heap.size s.data.toList from crow_new (w.drewN nd) 5 s)
  clear kc
  go_loopg [11] s.size (fun k p wx => ∃ i : Nat, i + k = s.size ∧ p = .int .i64 i ∧ Aside0 (CRow wx w.heap.size (cleanL clC s.data.toList i)) ∧ Aside0 (Below w.heap.size w wx))
  case atStart => exact ⟨0, by omega, rfl, ⟨by rw [cleanL_zero]; exact HC.out⟩, HB⟩
  case round =>
    clear HC HB
    obtain ⟨i, hik, rfl, HC, HB⟩ := hrel
    cases gk with
    | zero =>
      obtain rfl : i = s.size := by omega
      have hnl : ¬ ((s.size : Int) < (s.size : Int)) := by omega
      have kd := run_convert_bytes_arg (P := Try.prog) wr 39 5 Try.underlying39 Try.underlying5 w.heap.size 0 s.size (grownCap (w.drewN nd) s.size 0 5) ((s.data.toList.map clC).map fun b => (b.toNat : Int)) (by rw [List.length_map, List.length_map]; exact HSL.out) (fun j hj => by
        have hj' : j < (s.data.toList.map clC).length := by rw [List.length_map, HSL.out]; exact hj
        have h1 := HC.out
        rw [show s.size = s.data.toList.length from HSL.out.symm, cleanL_all] at h1
        have h2 := (h1 j hj').1
        rw [Nat.zero_add, h2, List.getD_eq_getElem?_getD, List.getElem?_map, List.getElem?_eq_getElem hj']; rfl) 9 Try.underlying9
      rw [str_of] at kd
      go_wp2
      go_ret
      exact ⟨rfl, HB.out⟩
    | succ k =>
      have hi : i < s.size := by omega
      have hi' : (i : Int) < (s.size : Int) := by omega
      have hil : i < s.data.toList.length := by rw [HSL.out]; exact hi
      have hcl : i < (cleanL clC s.data.toList i).length := by rw [cleanL_len _ _ _ (by omega)]; exact hil
      have hat := cleanL_at clC s.data.toList i hil
      obtain ⟨hc, hf⟩ := HC.out i hcl
      rw [List.getElem?_eq_getElem hcl] at hat
      rw [Option.some.inj hat] at hc
      have HS := Aside0.mk (cleanL_succ clC s.data.toList i hil)
      have HKP := Aside0.mk (cleanL_keep clC s.data.toList i hil)
      have HL := Aside0.mk hcl
      clear hat hcl
      generalize s.data.toList[i] = x at hc HS HKP
      clear hil
      have hx := x.toNat_lt
      by_cases c1 : (x.toNat : Int) < 32
      · have HE := Aside0.mk (show clC x = 63 by unfold clC; rw [if_pos (.inl (UInt8.lt_iff_toNat_lt.2 (by show x.toNat < 32; omega)))])
        go_wp2
        go_roundg k
        case measure => omega
        case rel => exact ⟨i + 1, by omega, by first | rfl | simp, ⟨by rw [HS.out, HE.out]; exact crow_set _ _ _ i 63 HC.out HL.out⟩, ⟨HB.out.setCell (Nat.le_refl _) _⟩⟩
      · by_cases c2 : (126 : Int) < x.toNat
        · have HE := Aside0.mk (show clC x = 63 by unfold clC; rw [if_pos (.inr (UInt8.lt_iff_toNat_lt.2 (by show 126 < x.toNat; omega)))])
          go_wp2
          go_roundg k
          case measure => omega
          case rel => exact ⟨i + 1, by omega, by first | rfl | simp, ⟨by rw [HS.out, HE.out]; exact crow_set _ _ _ i 63 HC.out HL.out⟩, ⟨HB.out.setCell (Nat.le_refl _) _⟩⟩
        · have HE := Aside0.mk (show clC x = x by
            unfold clC
            rw [if_neg]
            rintro (h | h)
            · have := UInt8.lt_iff_toNat_lt.1 h
              have e : (32 : UInt8).toNat = 32 := rfl
              omega
            · have := UInt8.lt_iff_toNat_lt.1 h
              have e : (126 : UInt8).toNat = 126 := rfl
              omega)
          go_wp2
          go_roundg k
          case measure => omega
          case rel => exact ⟨i + 1, by omega, by first | rfl | simp, ⟨by rw [HKP.out HE.out]; exact HC.out⟩, HB⟩
theorem prn_f (x : UInt8) : impl_isPrintable.f (x.toNat : Int) = some (decide (32 ≤ x.toNat) && decide (x.toNat ≤ 126)) := by
  unfold impl_isPrintable.f
  by_cases h : (x.toNat : Int) ≥ 32
  · rw [if_pos h, decide_eq_true (p := 32 ≤ x.toNat) (by omega), Bool.true_and]
    congr 1
    rw [Bool.eq_iff_iff]; simp; omega
  · rw [if_neg h, decide_eq_false (p := 32 ≤ x.toNat) (by omega)]; rfl
theorem front200 (a0 : ByteArray) : impl_front.f a0 200 = some (cut200 a0) := by
  have hm : mx 0 (mn 200 (a0.size : Int)) = min 200 (a0.size : Int) := by unfold mx mn; omega
  unfold impl_front.f cut200
  rw [hm, if_pos (by omega), if_pos (by omega)]
  by_cases h : (200 : Int) > (a0.size : Int)
  · rw [if_pos h, show (min 200 (a0.size : Int)).toNat = a0.size by omega]; simp
  · rw [if_neg h, show (min 200 (a0.size : Int)).toNat = 200 by omega]
set_option maxHeartbeats 4000000 in
set_option maxRecDepth 100000 in
theorem impl_Clean.calls (a0 : ByteArray) (r : ByteArray) (w : World) (h : impl_Clean.f a0 = some r) :
    Calls Try.prog 6 #[.string a0] w fun e w' => e = .returned (.string r) ∧ Below w.heap.size w w' := by
  obtain rfl := Option.some.inj h
  clear h
  have hz := cut_size a0
  have hk := front200 a0
  generalize cut200 a0 = s at hz hk
  have HK := Lib.hid hk
  clear hk
  have hsl : s.data.toList.length = s.size := (Lib.size_eq s).symm
  have HSL := Lib.hid hsl
  clear hsl
  have kc := fun (W : World) => Lib.run_convert_string_bytes (P := Try.prog) W 9 39 5 s Try.underlying9 Try.underlying39 Try.underlying5
  go_enter Try.func6, Try.ntmps6
  go_wp2_with (go_at_call 17; refine (impl_front.calls a0 200 s _ HK.out).mono ?_; rintro e w1 ⟨rfl, hb1⟩; have HB1 := Aside0.mk hb1; clear hb1)
  have HB := Aside0.mk (bytes_below HB1.out HB1.out.size 5 s)
  have HC := Aside0.mk (show CRow (Lib.bytesWorld w1 5 s) w1.heap.size s.data.toList from crow_new w1 5 s)
  clear kc
  go_loopg [11] s.size (fun k p wx => ∃ i : Nat, i + k = s.size ∧ p = .int .i64 i ∧ Aside0 (CRow wx w1.heap.size (cleanL clC s.data.toList i)) ∧ Aside0 (Below w.heap.size w wx))
  case atStart => exact ⟨0, by omega, rfl, ⟨by rw [cleanL_zero]; exact HC.out⟩, HB⟩
  case round =>
    clear HC HB
    obtain ⟨i, hik, rfl, HC, HB⟩ := hrel
    cases gk with
    | zero =>
      obtain rfl : i = s.size := by omega
      have hnl : ¬ ((s.size : Int) < (s.size : Int)) := by omega
      have kd := run_convert_bytes_arg (P := Try.prog) wr 39 5 Try.underlying39 Try.underlying5 w1.heap.size 0 s.size (grownCap w1 s.size 0 5) ((s.data.toList.map clC).map fun b => (b.toNat : Int)) (by rw [List.length_map, List.length_map]; exact HSL.out) (fun j hj => by
        have hj' : j < (s.data.toList.map clC).length := by rw [List.length_map, HSL.out]; exact hj
        have h1 := HC.out
        rw [show s.size = s.data.toList.length from HSL.out.symm, cleanL_all] at h1
        have h2 := (h1 j hj').1
        rw [Nat.zero_add, h2, List.getD_eq_getElem?_getD, List.getElem?_map, List.getElem?_eq_getElem hj']; rfl) 9 Try.underlying9
      rw [str_of] at kd
      go_wp2
      go_ret
      exact ⟨rfl, HB.out⟩
    | succ k =>
      have hi : i < s.size := by omega
      have hi' : (i : Int) < (s.size : Int) := by omega
      have hil : i < s.data.toList.length := by rw [HSL.out]; exact hi
      have hcl : i < (cleanL clC s.data.toList i).length := by rw [cleanL_len _ _ _ (by omega)]; exact hil
      have hat := cleanL_at clC s.data.toList i hil
      obtain ⟨hc, hf⟩ := HC.out i hcl
      rw [List.getElem?_eq_getElem hcl] at hat
      rw [Option.some.inj hat] at hc
      have HS := Aside0.mk (cleanL_succ clC s.data.toList i hil)
      have HKP := Aside0.mk (cleanL_keep clC s.data.toList i hil)
      have HL := Aside0.mk hcl
      clear hat hcl
      generalize s.data.toList[i] = x at hc HS HKP
      clear hil
      have hx := x.toNat_lt
      have hp := prn_f x
      by_cases c1 : (x.toNat : Int) < 32
      · have HE := Aside0.mk (show clC x = 63 by unfold clC; rw [if_pos (.inl (UInt8.lt_iff_toNat_lt.2 (by show x.toNat < 32; omega)))])
        rw [decide_eq_false (p := 32 ≤ x.toNat) (by omega), Bool.false_and] at hp
        have HP := Aside0.mk hp
        clear hp
        go_wp2_with (go_at_call 18; refine (impl_isPrintable.calls (x.toNat : Int) false _ HP.out).mono ?_; rintro e w' ⟨rfl, ⟨⟨nq, rfl⟩⟩⟩)
        go_roundg k
        case measure => omega
        case rel => exact ⟨i + 1, by omega, by first | rfl | simp, ⟨by rw [HS.out, HE.out]; exact crow_set _ _ _ i 63 HC.out HL.out⟩, ⟨(pw_below_drewN HB.out nq).setCell HB1.out.size _⟩⟩
      · by_cases c2 : (126 : Int) < x.toNat
        · have HE := Aside0.mk (show clC x = 63 by unfold clC; rw [if_pos (.inr (UInt8.lt_iff_toNat_lt.2 (by show 126 < x.toNat; omega)))])
          rw [decide_eq_false (p := x.toNat ≤ 126) (by omega), Bool.and_false] at hp
          have HP := Aside0.mk hp
          clear hp
          go_wp2_with (go_at_call 18; refine (impl_isPrintable.calls (x.toNat : Int) false _ HP.out).mono ?_; rintro e w' ⟨rfl, ⟨⟨nq, rfl⟩⟩⟩)
          go_roundg k
          case measure => omega
          case rel => exact ⟨i + 1, by omega, by first | rfl | simp, ⟨by rw [HS.out, HE.out]; exact crow_set _ _ _ i 63 HC.out HL.out⟩, ⟨(pw_below_drewN HB.out nq).setCell HB1.out.size _⟩⟩
        · have HE := Aside0.mk (show clC x = x by
            unfold clC
            rw [if_neg]
            rintro (h | h)
            · have := UInt8.lt_iff_toNat_lt.1 h
              have e : (32 : UInt8).toNat = 32 := rfl
              omega
            · have := UInt8.lt_iff_toNat_lt.1 h
              have e : (126 : UInt8).toNat = 126 := rfl
              omega)
          rw [decide_eq_true (p := 32 ≤ x.toNat) (by omega), decide_eq_true (p := x.toNat ≤ 126) (by omega), Bool.true_and] at hp
          have HP := Aside0.mk hp
          clear hp
          go_wp2_with (go_at_call 18; refine (impl_isPrintable.calls (x.toNat : Int) true _ HP.out).mono ?_; rintro e w' ⟨rfl, ⟨⟨nq, rfl⟩⟩⟩)
          go_roundg k
          case measure => omega
          case rel => exact ⟨i + 1, by omega, by first | rfl | simp, ⟨by rw [HKP.out HE.out]; exact HC.out⟩, ⟨pw_below_drewN HB.out nq⟩⟩
end Go.Proofs.Ytnhhbdhkhdbanaa.X
