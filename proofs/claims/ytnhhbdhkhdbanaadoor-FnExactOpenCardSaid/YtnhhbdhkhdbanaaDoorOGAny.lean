/- Contract of strings.ContainsAny at a cutset of two ASCII bytes or more, at every text shorter than 4294967281 bytes, in the form in which this seat's printed functions are told. -/
import Derived.Test.YtnhhbdhkhdbanaaDoorOGStr
import Derived.Laws.Runes
import Derived.Laws.RangeAny
import Derived.Lib.ShelfFacts
import Derived.WalkMore
import Derived.WalkSpells
import Derived.Outline
import Derived.Deep.QuietTactic
import Derived.BigQuiet
import Derived.IntWalk
import Derived.Lib.OthersKept
namespace Go.Proofs.YtnhhbdhkhdbanaaDoor.X
open Go.RowKit Go.Proofs.YtnhhbdhkhdbanaaDoorW.PrintWords

theorem indexByte_none : ∀ (l : List UInt8) (c : UInt8), (∀ b ∈ l, b ≠ c) → Lib.indexByte l c = -1
  | [], _, _ => rfl
  | b :: l, c, h => by
    have hb : b ≠ c := h b List.mem_cons_self
    have ih := indexByte_none l c (fun x hx => h x (List.mem_cons_of_mem _ hx))
    unfold Lib.indexByte
    simp [hb, ih]

set_option maxHeartbeats 4000000 in
set_option maxRecDepth 1000000 in
/-- strings.IndexRune at a rune beyond ASCII, in an ASCII text: it isn't there. -/
theorem indexRune_high (chars : ByteArray) (r : Int) (w : World) (hc : chars.size ≤ 1000) (hA : ∀ (j : Nat) b, chars.data.toList[j]? = some b → b.toNat < 128) (h128 : 128 ≤ r) (hr : r ≤ 2147483647) :
    Calls Tryd.prog 127 #[.string chars, .int .i32 r] w fun e w' => e = .returned (.int .i64 (-1)) ∧ Below w.heap.size w w' := by
  have HA := Lib.hid hA
  clear hA
  have b0 : decide ((0 : Int) ≤ r) = true := decide_eq_true (by omega)
  have b1 : decide (r < (128 : Int)) = false := decide_eq_false (by omega)
  by_cases he : r = 65533
  · have b2 : (r == (65533 : Int)) = true := beq_iff_eq.2 he
    clear he
    go_enter Tryd.func127, Tryd.ntmps127
    go_wp2_with fail
    go_loopg [5, 6] chars.size (fun g _ _ wx => ∃ i : Nat, i + g = chars.size ∧ wx = w.iter chars i)
    case atStart => exact ⟨0, by omega, rfl⟩
    case round =>
      obtain ⟨i, hig, rfl⟩ := hrel
      cases gk with
      | zero =>
        obtain rfl : i = chars.size := by omega
        have hnx := run_next_end (P := Tryd.prog) w chars chars.size
        go_wp2
        go_ret
        exact ⟨rfl, (Below.refl _ _).alloc (Nat.le_refl _) _⟩
      | succ g =>
        have hi : i < chars.size := by omega
        obtain ⟨x, hx⟩ : ∃ x : UInt8, chars[i]'hi = x := ⟨_, rfl⟩
        have hx128 : x.toNat < 128 := HA.out i x (by rw [← hx]; exact Lib.data_getElem? chars i hi)
        have hnx := fun ty => run_next_ascii (P := Tryd.prog) w chars i ty hi (by rw [hx]; exact hx128)
        rw [hx] at hnx
        have hq : ((x.toNat : Int) == 65533) = false := beq_eq_false_iff_ne.2 (by omega)
        clear hx hx128
        go_wp2_with fail
        go_roundg g
        case measure => omega
        case rel => exact ⟨i + 1, by omega, rfl⟩
  · have b2 : (r == (65533 : Int)) = false := beq_eq_false_iff_ne.2 he
    clear he
    cases hv : Lib.validRune r with
    | false =>
      have HV := Lib.hid hv
      clear hv
      go_enter Tryd.func127, Tryd.ntmps127
      go_wp2_with fail
      refine (Tryd.utf8_ValidRune r _).mono ?_
      rintro e w' ⟨rfl, rfl⟩
      rw [HV.out]
      go_wp2_with fail
      go_ret
      exact ⟨rfl, Below.refl _ _⟩
    | true =>
      have hval : Utf8.valid r = true := by
        unfold Lib.validRune at hv
        have := of_decide_eq_true hv
        unfold Utf8.valid
        simp
        omega
      obtain ⟨e2, e4, e128⟩ := encode_facts r hval h128
      have HE := Lib.hid e128
      have HV := Lib.hid hv
      clear hv hval e128
      obtain ⟨i, hi⟩ : ∃ i : Int, ((Utf8.encode r).size : Int) - 1 = i := ⟨_, rfl⟩
      have i0 : 0 ≤ i := by omega
      have i2 : i < ((Utf8.encode r).size : Int) := by omega
      have hrs : 128 ≤ bt (Utf8.encode r) i := by
        unfold bt
        rw [dif_pos (show i.toNat < (Utf8.encode r).size by omega)]
        have h := HE.out (by omega)
        have e : i.toNat = (Utf8.encode r).size - 1 := by omega
        simp only [e]
        omega
      have HI := Lib.hid hi
      have HRS := Lib.hid hrs
      clear hrs
      by_cases hl : (Utf8.encode r).size - 1 < chars.size
      · have i1 : i < (chars.size : Int) := by omega
        have hch : bt chars i < 128 := by
          unfold bt
          have hlt : i.toNat < chars.size := by omega
          rw [dif_pos hlt]
          have := HA.out i.toNat (chars[i.toNat]'hlt) (Lib.data_getElem? chars i.toNat hlt)
          omega
        have hin : Lib.indexByte (List.take (chars.size - (i + 1).toNat) (List.drop (i + 1).toNat chars.data.toList)) (UInt8.ofNat (bt (Utf8.encode r) i).toNat) = -1 := by
          refine indexByte_none _ _ fun b hb he => ?_
          obtain ⟨j, hj, rfl⟩ := List.getElem_of_mem (List.mem_of_mem_drop (List.mem_of_mem_take hb))
          have h1 := HA.out j _ (List.getElem?_eq_getElem hj)
          have h2 := bt_range (Utf8.encode r) i
          have h3 := HRS.out
          rw [he] at h1
          simp at h1
          omega
        have HIN := Lib.hid hin
        have HNE := Lib.hid (show (bt chars i != bt (Utf8.encode r) i) = true by rw [bne_iff_ne]; have := HRS.out; omega)
        clear hi hch hin
        go_enter Tryd.func127, Tryd.ntmps127
        go_wp2_with fail
        refine (Tryd.utf8_ValidRune r _).mono ?_
        rintro e w' ⟨rfl, rfl⟩
        rw [HV.out]
        go_wp2_with fail
        go_step3
        go_wp2_with fail
        refine wp_loop_rounds 1 ?_
        rw [rounds_succ]
        go_wp2_with fail
        go_step3
        go_wp2_with fail
        rw [HI.out]
        clear e2 e4 hl
        have p1 := eq_true i0
        have p2 := eq_true i1
        have p3 := eq_true i2
        have hx1 := bt_at chars i
        have hx2 := bt_at (Utf8.encode r) i
        have hne := HNE.out
        have HI0 := Lib.hid i0
        have HI1 := Lib.hid i1
        clear i0 i1 i2
        go_quiet (fail)
        go_wp2_with fail
        have HB1 := Aside0.mk (pw_below_drewN (Below.refl w'.heap.size w') nq)
        generalize w'.drewN nq = w2 at HB1 ⊢
        clear p1 p2 hx1 hne
        have ew : IntKind.i64.wrap (i + 1) = i + 1 := IntWalk.i64_in _ (by have := HI.out; have := HI1.out; have := HI0.out; omega)
        have p1 : (0 ≤ i) = True := eq_true HI0.out
        have q1 : (0 ≤ i + 1) = True := eq_true (by have := HI0.out; omega)
        have q2 : (i + 1 ≤ (chars.size : Int)) = True := eq_true (by have := HI1.out; omega)
        go_quiet ((go_at_call 114; exact Calls.quiet_of_same (Tryd.strings_IndexByte _ _ _)))
        have hin := HIN.out
        go_wp2_with fail
        repeat (rw [Exit.noGoto_ret]; try go_wp2_with fail)
        go_ret
        exact ⟨rfl, pw_below_drewN HB1.out _⟩
      · clear hi i0 i2
        go_enter Tryd.func127, Tryd.ntmps127
        go_wp2_with fail
        refine (Tryd.utf8_ValidRune r _).mono ?_
        rintro e w' ⟨rfl, rfl⟩
        rw [HV.out]
        go_wp2_with fail
        go_step3
        go_wp2_with fail
        refine wp_loop_rounds 1 ?_
        rw [rounds_succ]
        go_wp2_with fail
        rw [Exit.noGoto_ret]
        go_ret
        exact ⟨rfl, Below.refl _ _⟩

/-- What a high byte begins: at least one byte, all of them high, within the text. -/
theorem decode_span (s : ByteArray) (pos : Nat) (h : pos < s.size) (ha : 128 ≤ (s[pos]'h).toNat) :
    pos + (Utf8.decode s pos).2 ≤ s.size ∧ ∀ j (hj : pos + j < s.size), j < (Utf8.decode s pos).2 → 128 ≤ (s[pos + j]'hj).toNat := by
  have hg : ∀ k (hk : pos + k < s.size), s.get! (pos + k) = s[pos + k]'hk := fun k hk => by simp [ByteArray.get!, getElem!_pos, hk]; rfl
  have h0 : ∀ (hj : pos + 0 < s.size), 128 ≤ (s[pos + 0]'hj).toNat := fun _ => ha
  have key : ∀ n : Nat, (∀ k, k < n → 1 ≤ k → pos + k < s.size ∧ (s.get! (pos + k)).toNat / 64 = 2) → 1 ≤ n → pos + n ≤ s.size ∧ ∀ j (hj : pos + j < s.size), j < n → 128 ≤ (s[pos + j]'hj).toNat := by
    intro n hn h1
    refine ⟨?_, fun j hj hjn => ?_⟩
    · rcases Nat.lt_or_ge 1 n with h2 | h2
      · have := (hn (n - 1) (by omega) (by omega)).1
        omega
      · omega
    · rcases Nat.eq_zero_or_pos j with rfl | hp
      · exact h0 hj
      · have := (hn j hjn hp).2
        rw [hg j hj] at this
        omega
  have hn : ¬ (s[pos]'h).toNat < 128 := by omega
  have one : pos + 1 ≤ s.size ∧ ∀ j (hj : pos + j < s.size), j < 1 → 128 ≤ (s[pos + j]'hj).toNat := key 1 (fun k h2 h3 => by omega) (Nat.le_refl _)
  simp only [Utf8.decode, get_at s pos h, hn, if_false]
  split
  · rename_i h1
    simp only [Bool.and_eq_true, beq_iff_eq, decide_eq_true_eq] at h1
    split
    · exact key 2 (fun k h2 h3 => by obtain rfl : k = 1 := (by omega); exact ⟨h1.2.1, h1.2.2⟩) (by omega)
    · exact one
  · split
    · rename_i h1
      simp only [Bool.and_eq_true, beq_iff_eq, decide_eq_true_eq] at h1
      split
      · exact key 3 (fun k h2 h3 => by
          rcases (show k = 1 ∨ k = 2 by omega) with rfl | rfl
          · exact ⟨h1.1.2.1, h1.1.2.2⟩
          · exact ⟨h1.2.1, h1.2.2⟩) (by omega)
      · exact one
    · split
      · rename_i h1
        simp only [Bool.and_eq_true, beq_iff_eq, decide_eq_true_eq] at h1
        split
        · exact key 4 (fun k h2 h3 => by
            rcases (show k = 1 ∨ k = 2 ∨ k = 3 by omega) with rfl | rfl | rfl
            · exact ⟨h1.1.1.2.1, h1.1.1.2.2⟩
            · exact ⟨h1.1.2.1, h1.1.2.2⟩
            · exact ⟨h1.2.1, h1.2.2⟩) (by omega)
        · exact one
      · exact one

theorem noAny_span {s : ByteArray} {chars : List UInt8} {i n : Nat} (hA : ∀ (j : Nat) b, chars[j]? = some b → b.toNat < 128) (h : Lib.NoAny s.data.toList chars i) (hs : ∀ j (hj : i + j < s.size), j < n → 128 ≤ (s[i + j]'hj).toNat) : Lib.NoAny s.data.toList chars (i + n) := by
  intro j b hj hb
  rcases Nat.lt_or_ge j i with hlt | hge
  · exact h j b hlt hb
  · have hjs : j < s.size := by have := (List.getElem?_eq_some_iff.1 hb).1; rw [data_length] at this; exact this
    have e : i + (j - i) = j := by omega
    have h1 := hs (j - i) (by omega) (by omega)
    have h2 : s.data.toList[j]? = some (s[j]'hjs) := Lib.data_getElem? s j hjs
    rw [h2] at hb
    have hb' := Option.some.inj hb
    simp only [e] at h1
    rw [hb'] at h1
    cases hc : chars.contains b with
    | false => rfl
    | true =>
      have hm : b ∈ chars := by simpa using hc
      obtain ⟨k, hk, hk2⟩ := List.getElem_of_mem hm
      have := hA k b (by rw [List.getElem?_eq_getElem hk, hk2])
      omega

set_option maxHeartbeats 1000000 in
set_option maxRecDepth 1000000 in
/-- strings.IndexAny at a text of at most 8 bytes, whatever they are. -/
theorem indexAny_any (s chars : ByteArray) (w : World) (h2 : 2 ≤ chars.size) (hc : chars.size ≤ 1000) (h8 : s.size ≤ 8) (hA : ∀ (j : Nat) b, chars.data.toList[j]? = some b → b.toNat < 128) :
    Calls Tryd.prog 99 #[.string s, .string chars] w fun e w' => e = .returned (.int .i64 (Lib.indexAny s.data.toList chars.data.toList)) ∧ Below w.heap.size w w' := by
  have HA := Lib.hid hA
  clear hA
  have hemp : chars.toList.isEmpty = false := by
    rw [Lib.toList_data]
    cases h : chars.data.toList with
    | nil => have := Lib.size_eq chars; rw [h, List.length_nil] at this; omega
    | cons _ _ => rfl
  have hn1 : ((chars.size : Int) == 1) = false := beq_eq_false_iff_ne.2 (by omega)
  have h8z : decide ((8 : Int) < (s.size : Int)) = false := decide_eq_false (by omega)
  go_enter Tryd.func99, Tryd.ntmps99
  go_wp2_with fail
  refine (Tryd.strings_shouldUseASCIISet _ _).mono ?_
  rintro e w' ⟨rfl, rfl⟩
  rw [h8z]
  go_wp2_with fail
  go_loopg [9, 10] s.size (fun g _ _ wx => ∃ i : Nat, i ≤ s.size ∧ s.size ≤ i + g ∧ Aside0 (wx.heap[w'.heap.size]? = some (.stringIter s i)) ∧ Aside0 (Below w'.heap.size w' wx) ∧ Aside0 (Lib.NoAny s.data.toList chars.data.toList i))
  case atStart => exact ⟨0, by omega, by omega, ⟨World.iter_heap _ _ _⟩, ⟨(Below.refl _ _).alloc (Nat.le_refl _) _⟩, ⟨Lib.NoAny.zero _ _⟩⟩
  case round =>
    obtain ⟨i, hi, hg, hit, hb, hno⟩ := hrel
    by_cases hlt : i < s.size
    · obtain ⟨g, rfl⟩ : ∃ g, gk = g + 1 := ⟨gk - 1, by omega⟩
      obtain ⟨x, hx⟩ : ∃ x : UInt8, s[i]'hlt = x := ⟨_, rfl⟩
      have HB2 : ∀ n, Aside0 (Below w'.heap.size w' (wr.iterAt w'.heap.size s n)) := fun n => ⟨Lib.below_iterAt hb.out (Nat.le_refl _) s n⟩
      have HI2 : ∀ n, Aside0 ((wr.iterAt w'.heap.size s n).heap[w'.heap.size]? = some (.stringIter s n)) := fun n => ⟨Lib.iterAt_heap _ _ _ _ _ hit.out⟩
      by_cases hhi : 128 ≤ x.toNat
      · have hnx := fun ty => Lib.run_next_any_at (P := Tryd.prog) wr w'.heap.size s i ty hit.out hlt
        have hd := decode_high s i hlt (by rw [hx]; exact hhi)
        have hdl := decode_le s i
        have hsp := decode_span s i hlt (by rw [hx]; exact hhi)
        obtain ⟨c, hc0⟩ : ∃ c, (Utf8.decode s i).1 = c := ⟨_, rfl⟩
        obtain ⟨n, hn0⟩ : ∃ n, (Utf8.decode s i).2 = n := ⟨_, rfl⟩
        rw [hc0] at hd hdl
        rw [hn0] at hd hsp
        simp only [hc0, hn0] at hnx
        have HN : Aside0 (Lib.NoAny s.data.toList chars.data.toList (i + n)) := ⟨noAny_span HA.out hno.out hsp.2⟩
        have hb2 := HB2 (i + n)
        have hi2 := HI2 (i + n)
        generalize wr.iterAt w'.heap.size s (i + n) = wy at hnx hb2 hi2
        have HS := Lib.hid hsp.1
        clear hsp hc0 hn0 HB2 HI2 hx
        have hc128 : (128 : Int) ≤ (c : Int) := by omega
        have hcl : (c : Int) ≤ 2147483647 := by omega
        have hn1' : 1 ≤ n := hd.2
        clear hd hdl
        go_wp2_with fail
        refine (indexRune_high chars c _ hc HA.out hc128 hcl).mono ?_
        rintro e w3 ⟨rfl, hb3⟩
        have HB3 := Aside0.mk hb3
        clear hb3
        go_wp2_with fail
        have hs1 := HS.out
        go_roundg g
        case measure => omega
        case rel => exact ⟨i + n, by omega, by omega, ⟨(HB3.out.block _ (by have := (Array.getElem?_eq_some_iff.1 hi2.out).1; exact this)).trans hi2.out⟩, ⟨below_then hb2.out hb2.out.size HB3.out⟩, HN⟩
      · have hx128 : x.toNat < 128 := by omega
        have hnx := fun ty => Lib.run_next_ascii_at (P := Tryd.prog) wr w'.heap.size s i ty hit.out hlt (by rw [hx]; exact hx128)
        rw [hx] at hnx
        have Hx : Aside0 (s.data.toList[i]? = some x) := ⟨by rw [← hx]; exact Lib.data_getElem? s i hlt⟩
        have hcon := Lib.contains_iff_indexByte chars.data.toList x
        have hback : ((x.toNat : Int)).toNat.toUInt8 = x := by simp
        have hb2 := HB2 (i + 1)
        have hi2 := HI2 (i + 1)
        generalize wr.iterAt w'.heap.size s (i + 1) = wy at hnx hb2 hi2
        have HK := Lib.hid hback
        clear HB2 HI2 hx hhi hback
        cases hin : chars.data.toList.contains x
        · rw [hin] at hcon
          have hneg : decide ((0 : Int) ≤ Lib.indexByte chars.data.toList x) = false := hcon.symm
          have HN := Aside0.mk (hno.out.succ Hx.out hin)
          clear hcon hin
          go_wp2_with fail
          refine (Tryd.strings_IndexRune_ascii chars x.toNat _ (by omega) (by omega)).mono ?_
          rw [HK.out]
          rintro e w3 ⟨rfl, rfl⟩
          go_wp2_with fail
          go_roundg g
          case measure => omega
          case rel => exact ⟨i + 1, by omega, by omega, hi2, hb2, HN⟩
        · rw [hin] at hcon
          have hneg : decide ((0 : Int) ≤ Lib.indexByte chars.data.toList x) = true := hcon.symm
          have HN := Aside0.mk (Lib.indexAny_hit hno.out Hx.out hin)
          clear hcon hin
          go_wp2_with fail
          refine (Tryd.strings_IndexRune_ascii chars x.toNat _ (by omega) (by omega)).mono ?_
          rw [HK.out]
          rintro e w3 ⟨rfl, rfl⟩
          go_wp2_with fail
          go_ret
          exact ⟨by rw [HN.out]; rfl, hb2.out⟩
    · obtain rfl : i = s.size := by omega
      have hnx := fun ty => Lib.run_next_end_at (P := Tryd.prog) wr w'.heap.size s s.size ty hit.out (by omega)
      have HN := Aside0.mk (Lib.indexAny_none (chars := chars.data.toList) (s := s.data.toList) (by rw [← Lib.size_eq]; exact hno.out))
      go_wp2_with fail
      go_ret
      exact ⟨by rw [HN.out]; rfl, hb.out⟩

def strings_ContainsAny.f (a0 a1 : ByteArray) : Option Bool := if a0.size < 4294967281 ∧ 2 ≤ a1.size ∧ a1.size ≤ 1000 ∧ (a1.data.toList.all fun b => decide (b.toNat < 128)) = true then some (Lib.containsAny a0.data.toList a1.data.toList) else none
theorem zero_asciiSet (w : World) : (zeroValue 141).run Tryd.prog w = .ok (.agg (Array.replicate 256 (.bool false))) w := by kernel_rfl
set_option maxHeartbeats 1000000 in
theorem strings_ContainsAny.calls (a0 a1 : ByteArray) (r : Bool) (w : World) (h : strings_ContainsAny.f a0 a1 = some r) :
    Calls Tryd.prog 51 #[.string a0, .string a1] w fun e w' => e = .returned (.bool r) ∧ Below w.heap.size w w' := by
  unfold strings_ContainsAny.f at h
  split at h
  · rename_i hc
    obtain rfl := Option.some.inj h
    obtain ⟨hs, h2, h1000, hall⟩ := hc
    have hA : ∀ (j : Nat) b, a1.data.toList[j]? = some b → b.toNat < 128 := fun j b hb => by
      have := List.all_eq_true.1 hall b (List.mem_of_getElem? hb)
      simpa using this
    have key : Calls Tryd.prog 99 #[.string a0, .string a1] w fun e w' => e = .returned (.int .i64 (Lib.indexAny a0.data.toList a1.data.toList)) ∧ Below w.heap.size w w' := by
      by_cases h8 : a0.size ≤ 8
      · exact indexAny_any a0 a1 w h2 h1000 h8 hA
      · refine (Tryd.strings_IndexAny_long zero_asciiSet a0 a1 w h2 (by omega) hs (by omega) hA).mono ?_
        rintro e w' ⟨rfl, rfl⟩
        exact ⟨rfl, ((Below.refl _ _).alloc (Nat.le_refl _) _).alloc (by simp) _⟩
    have K := Lib.hid key
    clear key hA hall h2 hs h1000
    unfold Lib.containsAny
    go_enter Tryd.func51, Tryd.ntmps51
    go_wp2_with fail
    refine K.out.mono ?_
    rintro e w' ⟨rfl, hb⟩
    have HB := Lib.hid hb
    clear hb
    go_wp2_with fail
    go_ret
    exact ⟨rfl, HB.out⟩
  · cases h
end Go.Proofs.YtnhhbdhkhdbanaaDoor.X
