/- Contracts of impl.all, one for each function that the program hands to it: every byte of the text meets it. Condition: a text within the model's bound. -/
import Derived.Test.YtnhhbdhkhdbanaaDoorLX3
import Derived.Test.YtnhhbdhkhdbanaaDoorLX4
namespace Go.Proofs.YtnhhbdhkhdbanaaDoor.X
open Go.RowKit Go.Proofs.YtnhhbdhkhdbanaaDoorW.PrintWords

/-- Every byte meets p. -/
def allB (p : Int → Bool) (s : ByteArray) : Bool := s.data.toList.all fun c => p (c.toNat : Int)
theorem allB_iff (p : Int → Bool) (s : ByteArray) : allB p s = true ↔ ∀ j : Nat, j < s.size → p (bt s j) = true := by
  unfold allB
  rw [List.all_eq_true]
  constructor
  · intro h j hj
    have hl : j < s.data.toList.length := by rw [data_length]; exact hj
    have := h s.data.toList[j] (List.getElem_mem hl)
    unfold bt
    rw [dif_pos (show (j : Int).toNat < s.size by simpa using hj)]
    exact this
  · intro h c hc
    obtain ⟨j, hj, rfl⟩ := List.getElem_of_mem hc
    have hj' : j < s.size := by rw [data_length] at hj; exact hj
    have := h j hj'
    unfold bt at this
    rw [dif_pos (show (j : Int).toNat < s.size by simpa using hj')] at this
    exact this

set_option maxHeartbeats 2000000 in
theorem all_any_59 (p : Int → Bool) (hK : ∀ (c : Int) (w : World), 0 ≤ c → c ≤ 255 → Calls Tryd.prog 59 #[.int .u8 c] w fun e w' => e = .returned (.bool (p c)) ∧ Drawn0 w w') (s : ByteArray) (w : World) (hs : s.size ≤ 9223372036854775807) :
    Calls Tryd.prog 58 #[.string s, .func (.func 59) #[] #[]] w fun e w' => e = .returned (.bool (allB p s)) ∧ Drawn0 w w' := by
  have HK := Lib.hid hK
  clear hK
  go_enter Tryd.func58, Tryd.ntmps58
  go_wp2
  go_loopw [8] (fun v W => ∃ i : Int, 0 ≤ i ∧ i ≤ s.size ∧ v = .int .i64 i ∧ Aside0 (∀ j : Nat, (j : Int) < i → p (bt s j) = true) ∧ Drawn0 w W) (fun v _ => s.size - (intOf v).toNat)
  case atStart => exact ⟨0, Int.le_refl _, by omega, rfl, ⟨fun j hj => absurd hj (by omega)⟩, Drawn0.refl _⟩
  case round =>
    obtain ⟨i, h0, hk, rfl, hp, hd⟩ := hrel
    obtain ⟨⟨n, rfl⟩⟩ := hd
    by_cases hlt : i < (s.size : Int)
    · have HB := Lib.hid (bt_range s i)
      have HL := Lib.hid hlt
      have H0 := Lib.hid h0
      have hx5 := bt_at s i
      have c3b0 : decide (i < (s.size : Int)) = true := decide_eq_true hlt
      replace h0 := eq_true h0
      replace hlt := eq_true hlt
      cases hpc : p (bt s i) with
      | true =>
        have HP := Lib.hid hpc
        clear hpc
        go_wp2_with fail
        refine (HK.out _ _ HB.out.1 HB.out.2).mono ?_
        rw [HP.out]
        rintro e w' ⟨rfl, ⟨nd, rfl⟩⟩
        go_wp2_with fail
        have h0' := H0.out
        have hl' := HL.out
        have key : ∀ j : Nat, (j : Int) < wrap64 (i + 1) → p (bt s j) = true := by
          intro j hj
          by_cases h : (j : Int) < i
          · exact hp.out j h
          · obtain rfl : i = j := by unfold wrap64 at hj; omega
            exact HP.out
        go_roundw
        case rel => exact ⟨wrap64 (i + 1), by unfold wrap64; omega, by unfold wrap64; omega, rfl, ⟨key⟩, by repeat (first | exact Drawn0.refl _ | apply Drawn0.step)⟩
        case measure => simp only [intOf, wrap64]; omega
      | false =>
        have HP := Lib.hid hpc
        clear hpc
        go_wp2_with fail
        refine (HK.out _ _ HB.out.1 HB.out.2).mono ?_
        rw [HP.out]
        rintro e w' ⟨rfl, ⟨nd, rfl⟩⟩
        go_wp2_with fail
        go_ret
        refine ⟨?_, by repeat (first | exact Drawn0.refl _ | apply Drawn0.step)⟩
        have : allB p s = false := by
          rcases Bool.eq_false_or_eq_true (allB p s) with h | h
          · obtain ⟨j, hj⟩ := Int.eq_ofNat_of_zero_le H0.out
            have hl' := HL.out
            rw [hj] at HP hl'
            rw [(allB_iff p s).1 h j (by omega)] at HP; exact absurd HP.out (by simp)
          · exact h
        rw [this]; rfl
    · have c3b0 : decide (i < (s.size : Int)) = false := decide_eq_false hlt
      have HL := Lib.hid hlt
      clear hlt
      go_wp2
      go_ret
      refine ⟨?_, by repeat (first | exact Drawn0.refl _ | apply Drawn0.step)⟩
      have hl' := HL.out
      have : allB p s = true := (allB_iff p s).2 fun j hj => hp.out j (by omega)
      rw [this]; rfl

set_option maxHeartbeats 2000000 in
theorem all_any_142 (p : Int → Bool) (hK : ∀ (c : Int) (w : World), 0 ≤ c → c ≤ 255 → Calls Tryd.prog 142 #[.int .u8 c] w fun e w' => e = .returned (.bool (p c)) ∧ Drawn0 w w') (s : ByteArray) (w : World) (hs : s.size ≤ 9223372036854775807) :
    Calls Tryd.prog 58 #[.string s, .func (.func 142) #[] #[]] w fun e w' => e = .returned (.bool (allB p s)) ∧ Drawn0 w w' := by
  have HK := Lib.hid hK
  clear hK
  go_enter Tryd.func58, Tryd.ntmps58
  go_wp2
  go_loopw [8] (fun v W => ∃ i : Int, 0 ≤ i ∧ i ≤ s.size ∧ v = .int .i64 i ∧ Aside0 (∀ j : Nat, (j : Int) < i → p (bt s j) = true) ∧ Drawn0 w W) (fun v _ => s.size - (intOf v).toNat)
  case atStart => exact ⟨0, Int.le_refl _, by omega, rfl, ⟨fun j hj => absurd hj (by omega)⟩, Drawn0.refl _⟩
  case round =>
    obtain ⟨i, h0, hk, rfl, hp, hd⟩ := hrel
    obtain ⟨⟨n, rfl⟩⟩ := hd
    by_cases hlt : i < (s.size : Int)
    · have HB := Lib.hid (bt_range s i)
      have HL := Lib.hid hlt
      have H0 := Lib.hid h0
      have hx5 := bt_at s i
      have c3b0 : decide (i < (s.size : Int)) = true := decide_eq_true hlt
      replace h0 := eq_true h0
      replace hlt := eq_true hlt
      cases hpc : p (bt s i) with
      | true =>
        have HP := Lib.hid hpc
        clear hpc
        go_wp2_with fail
        refine (HK.out _ _ HB.out.1 HB.out.2).mono ?_
        rw [HP.out]
        rintro e w' ⟨rfl, ⟨nd, rfl⟩⟩
        go_wp2_with fail
        have h0' := H0.out
        have hl' := HL.out
        have key : ∀ j : Nat, (j : Int) < wrap64 (i + 1) → p (bt s j) = true := by
          intro j hj
          by_cases h : (j : Int) < i
          · exact hp.out j h
          · obtain rfl : i = j := by unfold wrap64 at hj; omega
            exact HP.out
        go_roundw
        case rel => exact ⟨wrap64 (i + 1), by unfold wrap64; omega, by unfold wrap64; omega, rfl, ⟨key⟩, by repeat (first | exact Drawn0.refl _ | apply Drawn0.step)⟩
        case measure => simp only [intOf, wrap64]; omega
      | false =>
        have HP := Lib.hid hpc
        clear hpc
        go_wp2_with fail
        refine (HK.out _ _ HB.out.1 HB.out.2).mono ?_
        rw [HP.out]
        rintro e w' ⟨rfl, ⟨nd, rfl⟩⟩
        go_wp2_with fail
        go_ret
        refine ⟨?_, by repeat (first | exact Drawn0.refl _ | apply Drawn0.step)⟩
        have : allB p s = false := by
          rcases Bool.eq_false_or_eq_true (allB p s) with h | h
          · obtain ⟨j, hj⟩ := Int.eq_ofNat_of_zero_le H0.out
            have hl' := HL.out
            rw [hj] at HP hl'
            rw [(allB_iff p s).1 h j (by omega)] at HP; exact absurd HP.out (by simp)
          · exact h
        rw [this]; rfl
    · have c3b0 : decide (i < (s.size : Int)) = false := decide_eq_false hlt
      have HL := Lib.hid hlt
      clear hlt
      go_wp2
      go_ret
      refine ⟨?_, by repeat (first | exact Drawn0.refl _ | apply Drawn0.step)⟩
      have hl' := HL.out
      have : allB p s = true := (allB_iff p s).2 fun j hj => hp.out j (by omega)
      rw [this]; rfl

set_option maxHeartbeats 2000000 in
theorem all_any_145 (p : Int → Bool) (hK : ∀ (c : Int) (w : World), 0 ≤ c → c ≤ 255 → Calls Tryd.prog 145 #[.int .u8 c] w fun e w' => e = .returned (.bool (p c)) ∧ Drawn0 w w') (s : ByteArray) (w : World) (hs : s.size ≤ 9223372036854775807) :
    Calls Tryd.prog 58 #[.string s, .func (.func 145) #[] #[]] w fun e w' => e = .returned (.bool (allB p s)) ∧ Drawn0 w w' := by
  have HK := Lib.hid hK
  clear hK
  go_enter Tryd.func58, Tryd.ntmps58
  go_wp2
  go_loopw [8] (fun v W => ∃ i : Int, 0 ≤ i ∧ i ≤ s.size ∧ v = .int .i64 i ∧ Aside0 (∀ j : Nat, (j : Int) < i → p (bt s j) = true) ∧ Drawn0 w W) (fun v _ => s.size - (intOf v).toNat)
  case atStart => exact ⟨0, Int.le_refl _, by omega, rfl, ⟨fun j hj => absurd hj (by omega)⟩, Drawn0.refl _⟩
  case round =>
    obtain ⟨i, h0, hk, rfl, hp, hd⟩ := hrel
    obtain ⟨⟨n, rfl⟩⟩ := hd
    by_cases hlt : i < (s.size : Int)
    · have HB := Lib.hid (bt_range s i)
      have HL := Lib.hid hlt
      have H0 := Lib.hid h0
      have hx5 := bt_at s i
      have c3b0 : decide (i < (s.size : Int)) = true := decide_eq_true hlt
      replace h0 := eq_true h0
      replace hlt := eq_true hlt
      cases hpc : p (bt s i) with
      | true =>
        have HP := Lib.hid hpc
        clear hpc
        go_wp2_with fail
        refine (HK.out _ _ HB.out.1 HB.out.2).mono ?_
        rw [HP.out]
        rintro e w' ⟨rfl, ⟨nd, rfl⟩⟩
        go_wp2_with fail
        have h0' := H0.out
        have hl' := HL.out
        have key : ∀ j : Nat, (j : Int) < wrap64 (i + 1) → p (bt s j) = true := by
          intro j hj
          by_cases h : (j : Int) < i
          · exact hp.out j h
          · obtain rfl : i = j := by unfold wrap64 at hj; omega
            exact HP.out
        go_roundw
        case rel => exact ⟨wrap64 (i + 1), by unfold wrap64; omega, by unfold wrap64; omega, rfl, ⟨key⟩, by repeat (first | exact Drawn0.refl _ | apply Drawn0.step)⟩
        case measure => simp only [intOf, wrap64]; omega
      | false =>
        have HP := Lib.hid hpc
        clear hpc
        go_wp2_with fail
        refine (HK.out _ _ HB.out.1 HB.out.2).mono ?_
        rw [HP.out]
        rintro e w' ⟨rfl, ⟨nd, rfl⟩⟩
        go_wp2_with fail
        go_ret
        refine ⟨?_, by repeat (first | exact Drawn0.refl _ | apply Drawn0.step)⟩
        have : allB p s = false := by
          rcases Bool.eq_false_or_eq_true (allB p s) with h | h
          · obtain ⟨j, hj⟩ := Int.eq_ofNat_of_zero_le H0.out
            have hl' := HL.out
            rw [hj] at HP hl'
            rw [(allB_iff p s).1 h j (by omega)] at HP; exact absurd HP.out (by simp)
          · exact h
        rw [this]; rfl
    · have c3b0 : decide (i < (s.size : Int)) = false := decide_eq_false hlt
      have HL := Lib.hid hlt
      clear hlt
      go_wp2
      go_ret
      refine ⟨?_, by repeat (first | exact Drawn0.refl _ | apply Drawn0.step)⟩
      have hl' := HL.out
      have : allB p s = true := (allB_iff p s).2 fun j hj => hp.out j (by omega)
      rw [this]; rfl

def isDigitB (c : Int) : Bool := decide (48 ≤ c ∧ c ≤ 57)
def isLetterB (c : Int) : Bool := decide (97 ≤ c ∧ c ≤ 122)
theorem digit_f (c : Int) : impl_isDigit.f c = some (isDigitB c) := by
  unfold impl_isDigit.f isDigitB
  by_cases h : c ≥ 48 <;> by_cases h' : c ≤ 57 <;> simp [h, h'] <;> omega
theorem letter_f (c : Int) : impl_isLetter.f c = some (isLetterB c) := by
  unfold impl_isLetter.f isLetterB
  by_cases h : c ≥ 97 <;> by_cases h' : c ≤ 122 <;> simp [h, h'] <;> omega
def domB (c : Int) : Bool := isLetterB c || isDigitB c || (c == 45)
theorem dom_f (c : Int) : impl_ValidDomain_1.f c = some (domB c) := by
  unfold impl_ValidDomain_1.f domB
  simp only [letter_f, digit_f, Option.bind_some]
  cases isLetterB c <;> cases isDigitB c <;> simp

def impl_all_impl_isDigit.f (a0 : ByteArray) : Option Bool := if a0.size ≤ 9223372036854775807 then some (allB isDigitB a0) else none
theorem impl_all_impl_isDigit.calls (a0 : ByteArray) (r : Bool) (w : World) (h : impl_all_impl_isDigit.f a0 = some r) :
    Calls Tryd.prog 58 #[.string a0, .func (.func 59) #[] #[]] w fun e w' => e = .returned (.bool r) ∧ Drawn0 w w' := by
  unfold impl_all_impl_isDigit.f at h
  split at h
  · rename_i hs
    obtain rfl := Option.some.inj h
    exact all_any_59 isDigitB (fun c w _ _ => impl_isDigit.calls c _ w (digit_f c)) a0 w hs
  · cases h
def impl_all_impl_ValidDomain_1.f (a0 : ByteArray) : Option Bool := if a0.size ≤ 9223372036854775807 then some (allB domB a0) else none
theorem impl_all_impl_ValidDomain_1.calls (a0 : ByteArray) (r : Bool) (w : World) (h : impl_all_impl_ValidDomain_1.f a0 = some r) :
    Calls Tryd.prog 58 #[.string a0, .func (.func 142) #[] #[]] w fun e w' => e = .returned (.bool r) ∧ Drawn0 w w' := by
  unfold impl_all_impl_ValidDomain_1.f at h
  split at h
  · rename_i hs
    obtain rfl := Option.some.inj h
    exact all_any_142 domB (fun c w _ _ => impl_ValidDomain_1.calls c _ w (dom_f c)) a0 w hs
  · cases h
/-- A letter, a digit, or one of . + _ - -/
def locB (c : Int) : Bool := isLetterB c || isDigitB c || decide (0 ≤ Lib.indexByte [46, 43, 95, 45] c.toNat.toUInt8)
theorem loc_f (c : Int) : impl_ValidAddress_1.f c = some (locB c) := by
  unfold impl_ValidAddress_1.f locB strings_IndexByte.f
  simp only [letter_f, digit_f, Option.bind_some]
  cases isLetterB c <;> cases isDigitB c <;> simp
def impl_all_impl_ValidAddress_1.f (a0 : ByteArray) : Option Bool := if a0.size ≤ 9223372036854775807 then some (allB locB a0) else none
theorem impl_all_impl_ValidAddress_1.calls (a0 : ByteArray) (r : Bool) (w : World) (h : impl_all_impl_ValidAddress_1.f a0 = some r) :
    Calls Tryd.prog 58 #[.string a0, .func (.func 145) #[] #[]] w fun e w' => e = .returned (.bool r) ∧ Drawn0 w w' := by
  unfold impl_all_impl_ValidAddress_1.f at h
  split at h
  · rename_i hs
    obtain rfl := Option.some.inj h
    exact all_any_145 locB (fun c w _ _ => impl_ValidAddress_1.calls c _ w (loc_f c)) a0 w hs
  · cases h
end Go.Proofs.YtnhhbdhkhdbanaaDoor.X
