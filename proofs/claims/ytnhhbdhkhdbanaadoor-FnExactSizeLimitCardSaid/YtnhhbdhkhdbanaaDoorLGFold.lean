/- The contract of strings.EqualFold at four bytes against "SIZE", whatever the four are. Condition: just that, and the tables of unicode (GlF). -/
import Derived.Test.YtnhhbdhkhdbanaaDoorLGFold1
import Derived.Test.YtnhhbdhkhdbanaaDoorLShelf
import Derived.Test.YtnhhbdhkhdbanaaDoorLGlobF
import Derived.ScopeJumps
import Derived.WalkMore
import Derived.Lib.Fold
import Derived.Lib.OthersKept
import Derived.Laws.RangeAny
import Derived.Laws.Strings3
namespace Go
variable {P : Program} {a : Act} {w : World} {Q : Exit → Act → World → Prop}
/-- A scope from which the run may jump to its label once. -/
theorem wp_scope_once {c rest : Code} (l : Nat) (hf : findLabel c l = some rest) (first : c.wp P (Exit.jump l (fun a w => rest.wp P (Exit.noGoto Q) a w) Q) a w) : (Code.scope c).wp P Q a w :=
  wp_scope_jumps l _ (fun _ _ => 0) hf first (fun a w h => wp_mono h (fun e a w hq => by cases e <;> first | exact hq | exact hq.elim))
theorem Exit.jump_ret (l : Nat) (J : Act → World → Prop) : Exit.jump l J Q .ret a w = Q .ret a w := rfl
end Go
namespace Go.Proofs.YtnhhbdhkhdbanaaDoor.X
open Go Go.RowKit Go.Proofs.YtnhhbdhkhdbanaaDoorW.PrintWords
set_option linter.unusedVariables false
set_option linter.unusedSimpArgs false
theorem least {p : Nat → Prop} (h : ∃ n, p n) : ∃ n, p n ∧ ∀ i, i < n → ¬ p i := by
  obtain ⟨n, hn⟩ := h
  induction n using Nat.strongRecOn with
  | _ n ih =>
    by_cases hm : ∃ i, i < n ∧ p i
    · obtain ⟨i, hi, hp⟩ := hm
      exact ih i hi hp
    · exact ⟨n, hn, fun i hi hp => hm ⟨i, hi, hp⟩⟩
theorem extract_drop (s : ByteArray) (i n : Nat) (h : s.size ≤ n) : (s.extract i n).data.toList = s.data.toList.drop i := by
  rw [ByteArray.data_extract, Array.toList_extract, List.extract_eq_take_drop, List.take_of_length_le (by rw [List.length_drop, ← Lib.size_eq]; omega)]
theorem decode_one (s : ByteArray) (pos : Nat) (h : pos < s.size) (ha : 128 ≤ (s[pos]'h).toNat) (h1 : (Utf8.decode s pos).2 = 1) : (Utf8.decode s pos).1 = 65533 := by
  have hn : ¬ (s[pos]'h).toNat < 128 := by omega
  revert h1
  simp only [Utf8.decode, get_at s pos h, hn, if_false]
  repeat' split
  all_goals simp_all [Utf8.runeError]
theorem fold_span (s : ByteArray) (pos : Nat) (h : pos < s.size) (ha : 128 ≤ (s[pos]'h).toNat) :
    pos + (Utf8.decode s pos).2 ≤ s.size ∧ ∀ j (hj : pos + j < s.size), j < (Utf8.decode s pos).2 → 128 ≤ (s[pos + j]'hj).toNat := by
  have hg : ∀ k (hk : pos + k < s.size), s.get! (pos + k) = s[pos + k]'hk := fun k hk => by simp [ByteArray.get!, getElem!_pos, hk]; rfl
  have h0 : ∀ (hj : pos + 0 < s.size), 128 ≤ (s[pos + 0]'hj).toNat := fun _ => ha
  have key : ∀ n : Nat, (∀ k, k < n → 1 ≤ k → pos + k < s.size ∧ (s.get! (pos + k)).toNat / 64 = 2) → 1 ≤ n → pos + n ≤ s.size ∧ ∀ j (hj : pos + j < s.size), j < n → 128 ≤ (s[pos + j]'hj).toNat := by
    intro n hn h1
    refine ⟨?_, fun j hj hjn => ?_⟩
    · rcases Nat.lt_or_ge 1 n with h2 | h2
      · have := (hn (n - 1) (by omega) (by omega)).1
        omega
      · omega
    · rcases Nat.eq_zero_or_pos j with rfl | hp
      · exact h0 hj
      · have := (hn j hjn hp).2
        rw [hg j hj] at this
        omega
  have hn : ¬ (s[pos]'h).toNat < 128 := by omega
  have one : pos + 1 ≤ s.size ∧ ∀ j (hj : pos + j < s.size), j < 1 → 128 ≤ (s[pos + j]'hj).toNat := key 1 (fun k h2 h3 => by omega) (Nat.le_refl _)
  simp only [Utf8.decode, get_at s pos h, hn, if_false]
  split
  · rename_i h1
    simp only [Bool.and_eq_true, beq_iff_eq, decide_eq_true_eq] at h1
    split
    · exact key 2 (fun k h2 h3 => by obtain rfl : k = 1 := (by omega); exact ⟨h1.2.1, h1.2.2⟩) (by omega)
    · exact one
  · split
    · rename_i h1
      simp only [Bool.and_eq_true, beq_iff_eq, decide_eq_true_eq] at h1
      split
      · exact key 3 (fun k h2 h3 => by
          rcases (show k = 1 ∨ k = 2 by omega) with rfl | rfl
          · exact ⟨h1.1.2.1, h1.1.2.2⟩
          · exact ⟨h1.2.1, h1.2.2⟩) (by omega)
      · exact one
    · split
      · rename_i h1
        simp only [Bool.and_eq_true, beq_iff_eq, decide_eq_true_eq] at h1
        split
        · exact key 4 (fun k h2 h3 => by
            rcases (show k = 1 ∨ k = 2 ∨ k = 3 by omega) with rfl | rfl | rfl
            · exact ⟨h1.1.1.2.1, h1.1.1.2.2⟩
            · exact ⟨h1.1.2.1, h1.1.2.2⟩
            · exact ⟨h1.2.1, h1.2.2⟩) (by omega)
        · exact one
      · exact one
theorem letter (m : Nat) (z : UInt8) (h1 : 1 ≤ m) (h4 : m ≤ 4) (h : (([83, 73, 90, 69] : List UInt8).drop (4 - m))[0]? = some z) :
    (m = 4 ∧ z.toNat = 83) ∨ (m = 3 ∧ z.toNat = 73) ∨ (m = 2 ∧ z.toNat = 90) ∨ (m = 1 ∧ z.toNat = 69) := by
  obtain rfl | rfl | rfl | rfl : m = 1 ∨ m = 2 ∨ m = 3 ∨ m = 4 := by omega
  all_goals obtain rfl := Option.some.inj h
  · exact .inr (.inr (.inr ⟨rfl, rfl⟩))
  · exact .inr (.inr (.inl ⟨rfl, rfl⟩))
  · exact .inr (.inl ⟨rfl, rfl⟩)
  · exact .inl ⟨rfl, rfl⟩
set_option maxHeartbeats 40000000 in
set_option maxRecDepth 100000 in
theorem foldHigh (s t : ByteArray) (w : World) (hG : GlF w) (hs : s.size = 4) (ht : t.data.toList = [83, 73, 90, 69]) (j : Nat) (hj : j < 4) (hlow : ∀ i b, i < j → s.data.toList[i]? = some b → b.toNat < 128) (hhigh : ∀ b, s.data.toList[j]? = some b → 128 ≤ b.toNat) :
    Calls Tryd.prog 57 #[.string s, .string t] w fun e w' => e = .returned (.bool false) ∧ Below w.heap.size w w' := by
  have hts : t.size = 4 := by rw [Lib.size_eq, ht]; rfl
  have HT := Aside0.mk ht
  have HL := Aside0.mk hlow
  have HH := Aside0.mk hhigh
  have HGF := Aside0.mk hG
  clear ht hlow hhigh hG
  have hmin : min (s.size : Int) (t.size : Int) = 4 := by omega
  go_enter Tryd.func57, Tryd.ntmps57
  go_wp2
  refine wp_scope_once (rest := ?_) 0 ?_ ?_
  case refine_2 => rfl
  case refine_3 =>
  go_wp2
  go_loopg [5] j (fun g p wx => wx = w ∧ ∃ i : Nat, i + g = j ∧ p = .int .i64 i)
  case atStart => exact ⟨rfl, 0, by omega, rfl⟩
  case round =>
    obtain ⟨rfl, i, hig, rfl⟩ := hrel
    have hiM : (i : Int) < 4 := by omega
    have hisz : (i : Int) < (s.size : Int) := by omega
    have hitz : (i : Int) < (t.size : Int) := by omega
    obtain ⟨x, hx⟩ : ∃ x : UInt8, s[i]'(by omega) = x := ⟨_, rfl⟩
    obtain ⟨y, hy⟩ : ∃ y : UInt8, t[i]'(by omega) = y := ⟨_, rfl⟩
    have hxl : s.data.toList[i]? = some x := by rw [← hx]; exact Lib.data_getElem? s i (by omega)
    have hyl : t.data.toList[i]? = some y := by rw [← hy]; exact Lib.data_getElem? t i (by omega)
    have hor : bits .or .u8 (x.toNat : Int) (y.toNat : Int) = ((x.toNat ||| y.toNat : Nat) : Int) := u8_or_nat _ _ x.toNat_lt y.toNat_lt
    have hy128 : y.toNat < 128 := by
      rw [HT.out] at hyl
      have h4 : i < 4 := by omega
      have : ∀ i : Nat, i < 4 → ∀ y : UInt8, [83, 73, 90, 69][i]? = some y → y.toNat < 128 := by decide
      exact this i h4 y hyl
    have HX := Aside0.mk hxl
    have HY := Aside0.mk hyl
    clear hxl hyl
    cases gk with
    | succ g =>
      have hx128 : x.toNat < 128 := HL.out i x (by omega) HX.out
      have hor128 : ¬ ((128 : Int) ≤ ((x.toNat ||| y.toNat : Nat) : Int)) := by have := Nat.or_lt_two_pow (n := 7) hx128 hy128; omega
      go_wp2
      all_goals (try simp only [beq_iff_eq, beq_eq_false_iff_ne, ne_eq] at *)
      all_goals first
        | (go_roundg g
           case measure => omega
           case rel => exact ⟨rfl, i + 1, by omega, by first | rfl | simp⟩)
        | (rw [Exit.jump_ret]
           go_ret
           exact ⟨rfl, Below.refl _ _⟩)
    | zero =>
      obtain rfl : i = j := by omega
      have hx128 : 128 ≤ x.toNat := HH.out x HX.out
      have hor128 : ((128 : Int) ≤ ((x.toNat ||| y.toNat : Nat) : Int)) := by have := Nat.left_le_or (n := x.toNat) (m := y.toNat); omega
      go_wp2
      go_step3
      show (0 : Nat) = 0 ∧ _
      refine ⟨rfl, ?_⟩
      show Code.wp _ _ _ _ _
      clear hor128 hor HL HH hmin
      obtain ⟨w1, hw1⟩ : ∃ w1, w1 = wr := ⟨_, rfl⟩
      subst hw1
      go_wp2_with fail
      have hvs : (s.extract i 4).size = 4 - i := by rw [ByteArray.size_extract, hs]; simp
      have hus : (t.extract i 4).size = 4 - i := by rw [ByteArray.size_extract, hts]; simp
      have hul := extract_drop t i 4 (by omega)
      have hvl := extract_drop s i 4 (by omega)
      rw [HT.out] at hul
      have hv0 : ∀ b, (s.extract i 4).data.toList[0]? = some b → 128 ≤ b.toNat := by
        intro b hb
        rw [hvl, List.getElem?_drop, Nat.add_zero, HX.out] at hb
        obtain rfl := Option.some.inj hb
        exact hx128
      generalize s.extract i 4 = v at hvs hv0 ⊢
      generalize t.extract i 4 = u at hus hul ⊢
      have HU := Aside0.mk hul
      have HV := Aside0.mk hv0
      clear hul hvl hv0
      go_loopg [1] v.size (fun k p wx => ∃ (pos m : Nat) (u : ByteArray), p = .string u ∧ pos ≤ v.size ∧ v.size ≤ pos + k ∧ Aside0 (u.data.toList = ([83, 73, 90, 69] : List UInt8).drop (4 - m)) ∧ m ≤ 4 ∧ Aside0 ((pos = 0 ∧ m = v.size) ∨ (v.size < m + pos ∧ m ≤ 3)) ∧ Aside0 (wx.heap[w1.heap.size]? = some (.stringIter v pos)) ∧ Aside0 (Below w1.heap.size w1 wx))
      case atStart => exact ⟨0, 4 - i, u, rfl, by omega, by omega, ⟨by rw [HU.out]; congr 1; omega⟩, by omega, ⟨.inl ⟨rfl, hvs.symm⟩⟩, ⟨World.iter_heap _ _ _⟩, ⟨(Below.refl _ _).alloc (Nat.le_refl _) _⟩⟩
      case round =>
        clear HU hus hx hy HX HY hx128
        obtain ⟨pos, m, u, rfl, hp, hk, HU, hm4, HM, hit, hb⟩ := hrel
        have hus : u.size = m := by rw [Lib.size_eq, HU.out, List.length_drop]; show 4 - (4 - m) = m; omega
        have hm1 : 1 ≤ m := by rcases HM.out with h | h <;> omega
        have hu0 : ((u.size : Int) == 0) = false := beq_eq_false_iff_ne.2 (by omega)
        have hm0 : ((m : Int) == 0) = false := beq_eq_false_iff_ne.2 (by omega)
        have hu1 : (1 : Int) ≤ (u.size : Int) := by omega
        by_cases hlt : pos < v.size
        · obtain ⟨k, rfl⟩ : ∃ k, gk = k + 1 := ⟨gk - 1, by omega⟩
          obtain ⟨x, hx⟩ : ∃ x : UInt8, v[pos]'hlt = x := ⟨_, rfl⟩
          have HB2 : ∀ n, Aside0 (Below w1.heap.size w1 (wr.iterAt w1.heap.size v n)) := fun n => ⟨Lib.below_iterAt hb.out (Nat.le_refl _) v n⟩
          have HI2 : ∀ n, Aside0 ((wr.iterAt w1.heap.size v n).heap[w1.heap.size]? = some (.stringIter v n)) := fun n => ⟨Lib.iterAt_heap _ _ _ _ _ hit.out⟩
          obtain ⟨z, hz⟩ : ∃ z : UInt8, u.data.toList[0]? = some z := by
            have : 0 < u.data.toList.length := by rw [← Lib.size_eq]; omega
            exact ⟨_, List.getElem?_eq_getElem this⟩
          have hz4 := letter m z hm1 hm4 (by rw [← HU.out]; exact hz)
          have HZ := Aside0.mk hz
          have HZ4 := Aside0.mk hz4
          have hz128 : z.toNat < 128 := by rcases hz4 with ⟨_, h⟩ | ⟨_, h⟩ | ⟨_, h⟩ | ⟨_, h⟩ <;> omega
          have hz65 : 65 ≤ z.toNat ∧ z.toNat ≤ 90 := by rcases hz4 with ⟨_, h⟩ | ⟨_, h⟩ | ⟨_, h⟩ | ⟨_, h⟩ <;> omega
          clear hz hz4
          have hu2 : (u.extract 1 m).data.toList = ([83, 73, 90, 69] : List UInt8).drop (4 - (m - 1)) := by
            rw [extract_drop u 1 m (by omega), HU.out, List.drop_drop]; congr 1; omega
          have HU2 := Aside0.mk hu2
          clear hu2
          by_cases hhi : 128 ≤ x.toNat
          · have hnx := fun ty => Lib.run_next_any_at (P := Tryd.prog) wr w1.heap.size v pos ty hit.out hlt
            have hd := decode_high v pos hlt (by rw [hx]; exact hhi)
            have hd1 := decode_one v pos hlt (by rw [hx]; exact hhi)
            have hdl := decode_le v pos
            have hsp := (fold_span v pos hlt (by rw [hx]; exact hhi)).1
            obtain ⟨c, hc0⟩ : ∃ c, (Utf8.decode v pos).1 = c := ⟨_, rfl⟩
            obtain ⟨n, hn0⟩ : ∃ n, (Utf8.decode v pos).2 = n := ⟨_, rfl⟩
            rw [hc0] at hd hdl hd1
            rw [hn0] at hd hsp hd1
            simp only [hc0, hn0] at hnx
            have hb2 := HB2 (pos + n)
            have hi2 := HI2 (pos + n)
            generalize wr.iterAt w1.heap.size v (pos + n) = wy at hnx hb2 hi2
            have HS := Lib.hid hsp
            have HD1 := Lib.hid hd1
            have HD := Lib.hid hd
            have HDL := Lib.hid hdl
            have hc128 : (128 : Int) ≤ (c : Int) := by omega
            have hcl : (c : Int) ≤ 2147483647 := by omega
            clear hsp hd1 hd hdl HB2 HI2 hx hc0 hn0
            have hzc : ((z.toNat : Int) == (c : Int)) = false := beq_eq_false_iff_ne.2 (by omega)
            have hzl : (z.toNat : Int) < (c : Int) := by omega
            have hc8 : ¬ ((c : Int) < 128) := by omega
            have HGY := Aside0.mk (GlF.below HGF.out hb2.out)
            go_wp2_with fail
            refine (decodeAscii u z _ HZ.out hz128).mono ?_
            rintro e w' ⟨rfl, rfl⟩
            go_wp2_with fail
            have hz4 := HZ4.out
            by_cases h3 : m ≤ 3
            · obtain ⟨lo, hlo⟩ : ∃ lo, z.toNat + 32 = lo := ⟨_, rfl⟩
              have hc1 : w'.cell? ⟨0, z.toNat, none⟩ = some (.int .u16 lo) := HGY.out.1 _ _ (by
                rcases hz4 with ⟨h, _⟩ | ⟨_, h⟩ | ⟨_, h⟩ | ⟨_, h⟩
                · omega
                all_goals obtain rfl : lo = _ := hlo.symm
                all_goals rw [h]
                all_goals decide)
              have hc2 : w'.cell? ⟨0, lo, none⟩ = some (.int .u16 z.toNat) := HGY.out.1 _ _ (by
                rcases hz4 with ⟨h, _⟩ | ⟨_, h⟩ | ⟨_, h⟩ | ⟨_, h⟩
                · omega
                all_goals obtain rfl : lo = _ := hlo.symm
                all_goals rw [h]
                all_goals decide)
              have HC2 := Aside0.mk hc2
              clear hz4
              refine (foldAscii z.toNat lo _ hz128 hc1 (by omega)).mono ?_
              rintro e w2 ⟨rfl, rfl⟩
              clear hc1 hc2
              have hn1 : ((lo : Int) == (z.toNat : Int)) = false := beq_eq_false_iff_ne.2 (by omega)
              have hl1 : (lo : Int) < (c : Int) := by omega
              go_wp2_with fail
              go_loopg [13] 1 (fun k p wx => wx = w2 ∧ ((k = 1 ∧ p = .int .i32 lo) ∨ (k = 0 ∧ p = .int .i32 z.toNat)))
              case atStart => exact ⟨rfl, .inl ⟨rfl, rfl⟩⟩
              case round =>
                obtain ⟨rfl, ⟨rfl, rfl⟩ | ⟨rfl, rfl⟩⟩ := hrel
                · go_wp2_with fail
                  refine (foldAscii lo z.toNat _ (by omega) HC2.out (by omega)).mono ?_
                  rintro e w3 ⟨rfl, rfl⟩
                  go_wp2_with fail
                  go_roundg 0
                  case measure => omega
                  case rel => exact ⟨rfl, .inr ⟨rfl, rfl⟩⟩
                · have hn2 : ((z.toNat : Int) == (z.toNat : Int)) = true := beq_iff_eq.2 rfl
                  go_wp2
                  try rw [Exit.noGoto_ret]
                  go_ret
                  exact ⟨rfl, hb2.out⟩
            · have hm4' : m = 4 := by omega
              have hz83 : z.toNat = 83 := by rcases hz4 with ⟨_, h⟩ | ⟨_, h⟩ | ⟨_, h⟩ | ⟨_, h⟩ <;> omega
              have hpv : pos = 0 ∧ v.size = 4 := by rcases HM.out with h | h <;> omega
              have HPV := Aside0.mk hpv
              clear hpv hm4'
              obtain ⟨lo, hlo⟩ : ∃ lo : Nat, lo = 115 := ⟨_, rfl⟩
              obtain ⟨o, ho⟩ : ∃ o : Nat, o = 383 := ⟨_, rfl⟩
              have hc1 : w'.cell? ⟨0, z.toNat, none⟩ = some (.int .u16 lo) := HGY.out.1 _ _ (by rw [hz83, hlo]; decide)
              have hc2 : w'.cell? ⟨0, lo, none⟩ = some (.int .u16 o) := HGY.out.1 _ _ (by rw [ho, hlo]; decide)
              have hc3 : Calls Tryd.prog 103 #[.int .i32 o] w' fun e w'' => e = .returned (.int .i32 z.toNat) ∧ w'' = w' := by rw [ho, hz83]; exact foldOrbit w' HGY.out
              have HC2 := Aside0.mk hc2
              have HC3 := Aside0.mk hc3
              have hlo128 : lo < 128 := by omega
              have ho1 : o < 65536 := by omega
              have hne1 : lo ≠ z.toNat := by omega
              have hne3 : o ≠ z.toNat := by omega
              have HO := Lib.hid ho
              clear hz4 hc2 hc3 hz83 hlo ho
              refine (foldAscii z.toNat lo _ hz128 hc1 (by omega)).mono ?_
              rintro e w2 ⟨rfl, rfl⟩
              clear hc1
              have hn1 : ((lo : Int) == (z.toNat : Int)) = false := beq_eq_false_iff_ne.2 (by omega)
              have hn3 : ((o : Int) == (z.toNat : Int)) = false := beq_eq_false_iff_ne.2 (by omega)
              have hl1 : (lo : Int) < (c : Int) := by omega
              go_wp2_with fail
              go_loopg [13] 2 (fun k p wx => wx = w2 ∧ ((k = 2 ∧ p = .int .i32 lo) ∨ (k = 1 ∧ p = .int .i32 o) ∨ (k = 0 ∧ p = .int .i32 z.toNat)))
              case atStart => exact ⟨rfl, .inl ⟨rfl, rfl⟩⟩
              case round =>
                obtain ⟨rfl, ⟨rfl, rfl⟩ | ⟨rfl, rfl⟩ | ⟨rfl, rfl⟩⟩ := hrel
                · go_wp2_with fail
                  refine (foldAscii lo o _ (by omega) HC2.out (by omega)).mono ?_
                  rintro e w3 ⟨rfl, rfl⟩
                  go_wp2_with fail
                  go_roundg 1
                  case measure => omega
                  case rel => exact ⟨rfl, .inr (.inl ⟨rfl, rfl⟩)⟩
                · by_cases hoc : (o : Int) < (c : Int)
                  · go_wp2_with fail
                    refine HC3.out.mono ?_
                    rintro e w3 ⟨rfl, rfl⟩
                    go_wp2_with fail
                    go_roundg 0
                    case measure => omega
                    case rel => exact ⟨rfl, .inr (.inr ⟨rfl, rfl⟩)⟩
                  · by_cases hoe : (c : Int) = (o : Int)
                    · have hn4 : ((o : Int) == (c : Int)) = true := beq_iff_eq.2 hoe.symm
                      go_wp2
                      have h1 := HD.out.2
                      have h2 := HD1.out
                      have h3 := HS.out
                      have h4 := HPV.out
                      have h5 : n ≠ 1 := fun h => by have := h2 h; have := HO.out; omega
                      go_roundg k
                      case measure => omega
                      case rel => exact ⟨pos + n, m - 1, _, rfl, by omega, by omega, HU2, by omega, ⟨.inr ⟨by omega, by omega⟩⟩, hi2, hb2⟩
                    · have hn4 : ((o : Int) == (c : Int)) = false := beq_eq_false_iff_ne.2 (fun h => hoe h.symm)
                      go_wp2
                      try rw [Exit.noGoto_ret]
                      go_ret
                      exact ⟨rfl, hb2.out⟩
                · have hn2 : ((z.toNat : Int) == (z.toNat : Int)) = true := beq_iff_eq.2 rfl
                  go_wp2
                  try rw [Exit.noGoto_ret]
                  go_ret
                  exact ⟨rfl, hb2.out⟩
          · have hx128 : x.toNat < 128 := by omega
            have hpos : pos ≠ 0 := fun h => by
              subst h
              have := HV.out x (by rw [← hx]; exact Lib.data_getElem? v 0 hlt)
              omega
            have hsec : v.size < m + pos ∧ m ≤ 3 := by
              rcases HM.out with h | h
              · exact absurd h.1 hpos
              · exact h
            have HSEC := Aside0.mk hsec
            clear hsec hpos
            have hnx := fun ty => Lib.run_next_ascii_at (P := Tryd.prog) wr w1.heap.size v pos ty hit.out hlt (by rw [hx]; exact hx128)
            rw [hx] at hnx
            have hb2 := HB2 (pos + 1)
            have hi2 := HI2 (pos + 1)
            generalize wr.iterAt w1.heap.size v (pos + 1) = wy at hnx hb2 hi2
            clear HB2 HI2 hx hhi
            go_wp2_with fail
            refine (decodeAscii u z _ HZ.out hz128).mono ?_
            rintro e w' ⟨rfl, rfl⟩
            have hs := HSEC.out
            go_wp2
            all_goals (try simp only [beq_iff_eq, beq_eq_false_iff_ne, ne_eq] at *)
            all_goals first
              | (go_roundg k
                 case measure => omega
                 case rel => exact ⟨pos + 1, m - 1, _, rfl, by omega, by omega, HU2, by omega, ⟨.inr ⟨by omega, by omega⟩⟩, hi2, hb2⟩)
              | (try rw [Exit.noGoto_ret]
                 go_ret
                 exact ⟨rfl, hb2.out⟩)
        · obtain rfl : pos = v.size := by omega
          have hnx := fun ty => Lib.run_next_end_at (P := Tryd.prog) wr w1.heap.size v v.size ty hit.out (by omega)
          go_wp2
          try rw [Exit.noGoto_ret]
          go_ret
          exact ⟨rfl, hb.out⟩
theorem fold_high_false : ∀ (s t : List UInt8) (j : Nat), (∀ b ∈ t, b.toNat < 128) → (∃ b, s[j]? = some b ∧ 128 ≤ b.toNat) → Lib.equalFold s t = false
  | [], _, _, _, ⟨_, h, _⟩ => by cases h
  | x :: s, [], _, _, _ => rfl
  | x :: s, y :: t, 0, ht, ⟨b, h, hb⟩ => by
    obtain rfl := Option.some.inj h
    have hy := ht y List.mem_cons_self
    rw [Lib.equalFold_no _ _ _ _ (decide_eq_false (by omega))]
  | x :: s, y :: t, j + 1, ht, ⟨b, h, hb⟩ => by
    have := fold_high_false s t j (fun b hm => ht b (List.mem_cons_of_mem _ hm)) ⟨b, h, hb⟩
    unfold Lib.equalFold
    rw [this, Bool.and_false]
def strings_EqualFold.f (a0 a1 : ByteArray) : Option Bool := if a0.size = 4 ∧ a1.data.toList = [83, 73, 90, 69] then some (Lib.equalFold a0.data.toList a1.data.toList) else none
theorem strings_EqualFold.calls (a0 a1 : ByteArray) (r : Bool) (w : World) (hGF : GlF w) (h : strings_EqualFold.f a0 a1 = some r) :
    Calls Tryd.prog 57 #[.string a0, .string a1] w fun e w' => e = .returned (.bool r) ∧ Below w.heap.size w w' := by
  unfold strings_EqualFold.f at h
  split at h
  · rename_i hc
    obtain ⟨hs, ht⟩ := hc
    obtain rfl := Option.some.inj h
    have htl : ∀ b ∈ a1.data.toList, b.toNat < 128 := by rw [ht]; decide
    by_cases hall : ∀ (j : Nat) b, a0.data.toList[j]? = some b → b.toNat < 128
    · refine (Tryd.strings_EqualFold a0 a1 w (by omega) hall (fun j b hb => htl b (List.mem_of_getElem? hb))).mono ?_
      rintro e w' ⟨rfl, rfl⟩
      exact ⟨rfl, Below.refl _ _⟩
    · have hex : ∃ j : Nat, ∃ b : UInt8, a0.data.toList[j]? = some b ∧ 128 ≤ b.toNat := by
        false_or_by_contra
        rename_i hno
        exact hall fun j b hb => by
          false_or_by_contra
          exact hno ⟨j, b, hb, by omega⟩
      obtain ⟨j, ⟨b, hb, hh⟩, hmin⟩ := least hex
      have hj : j < 4 := by have := (List.getElem?_eq_some_iff.1 hb).1; rw [← Lib.size_eq] at this; omega
      rw [fold_high_false _ _ j htl ⟨b, hb, hh⟩]
      exact foldHigh a0 a1 w hGF hs ht j hj (fun i c hi hc => by
        false_or_by_contra
        exact hmin i hi ⟨c, hc, by omega⟩) (fun c hc => by rw [hb] at hc; obtain rfl := Option.some.inj hc; exact hh)
  · cases h
end Go.Proofs.YtnhhbdhkhdbanaaDoor.X
