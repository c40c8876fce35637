/- impl.DueIds: the due items' numbers in the heap's order. -/
import Derived.Test.YtnhhbdhkhdbanaaUHp7
namespace Go.Proofs.Ytnhhbdhkhdbanaa.X
open Go Go.RowKit Go.Proofs.YtnhhbdhkhdbanaaW.PrintWords Go.Proofs.YtnhhbdhkhdbanaaW.PrintLast Go.Proofs.YtnhhbdhkhdbanaaW.PrintMore
set_option linter.unusedVariables false
set_option linter.unusedSimpArgs false
/-- The due items' heap, pushed one by one. -/
def dueFold (now : Int) (xs : List S48) : Nat → List S55
  | 0 => []
  | k + 1 => if (rd_T48 xs (k : Int)).f3 ≤ now then pushL (dueFold now xs k) ⟨(rd_T48 xs (k : Int)).f3, (rd_T48 xs (k : Int)).f0.f0, (k : Int)⟩ else dueFold now xs k
/-- The numbers, popped one by one. -/
def popIds : Nat → List S55 → List Int
  | 0, _ => []
  | n + 1, l => if l.length = 0 then [] else (rd_T55 (sunkL l) ((l.length : Int) - 1)).f1 :: popIds n ((sunkL l).take (l.length - 1))
def impl_DueIds.f (l0_0 : List S48) (a0_1 : Int) (a1 : Int) : Option (List Int) := if l0_0.length ≤ 1048576 then some (popIds (dueFold a1 l0_0 l0_0.length).length (dueFold a1 l0_0 l0_0.length)) else none
theorem dueFold_length (now : Int) (xs : List S48) : ∀ k, (dueFold now xs k).length ≤ k
  | 0 => Nat.le_refl _
  | k + 1 => by
    rw [dueFold]
    have := dueFold_length now xs k
    split
    · unfold pushL; rw [upL_length, List.length_append]; simp; exact this
    · omega
theorem infoI : (Try.prog.info? 3).map (fun i => (i.zero, i.size, i.bytes)) = some (some (.int .i64 0), 1, 8) := by kernel_rfl
theorem row_new {α : Type} (d : Kd α) (e : Nat) {w0 W : World} (hB : w0.heap.size ≤ W.heap.size) (ok : Nat → Prop) (hok : ok W.heap.size) : d.R e (W.alloc (.cells #[] e)) w0.heap.size ok (.slice (some ⟨W.heap.size, 0, none⟩) 0 0) [] :=
  ⟨fun k hk => by have : W.heap.size = k := by simpa [Value.ownBlock] using hk
                  exact this ▸ hok, [], World.ownsRow_lit (base := w0.heap.size) (e := e) (size := d.sz) W #[] 0 hB (by decide) (by simp), Reps.none _ _⟩
theorem Hs.other {w0 w w1 : World} {g : Nat} {v u : Value} {l : List S55} {b n : Nat} {ys : List Value} (h : Hs w0 w g v l) (hu : w.ownsRow b 3 1 u n ys) (hb : w0.heap.size ≤ b) (hg : w.grownBy w1 u.ownBlock) : Hs w0 w1 g v l := by
  refine ⟨pw_below_grown h.below _ h.below.size hg (fun k hk => Nat.le_trans hb (own_base hu k hk)), h.ge, blk_grown h.blk hg (own_ne hu h.blk (by decide)), ?_⟩
  refine Kd.R_over' h.row (e' := 3) (fun k hk => own_typed hu k hk) ?_ hg
  intro q hq; simp [k55, Kd.iso, Kd.pair, Kd.int, Kd.scalar] at hq; omega
theorem Stp.own {w0 w w1 : World} {g : Nat} {v v1 u : Value} {l l1 : List S55} {b n : Nat} {ys : List Value} (h : Stp w0 w w1 g v v1 l1) (h0 : Hs w0 w g v l) (hu : w.ownsRow b 3 1 u n ys) : w1.ownsRow b 3 1 u n ys := by
  obtain ⟨inner, ho⟩ := Kd.R_own h0.row
  exact h.keep.own hu (fun he => own_ne hu h0.blk (by decide) he.symm) (own_type_ne hu ho (by decide))
theorem mi50 {W : World} {g : Nat} : (Instr.makeInterface 50 (.pointer (some ⟨g, 0, none⟩))).run Try.prog W = .ok (.iface 50 (.pointer (some ⟨g, 0, none⟩))) W := by kernel_rfl
theorem mi55 {W : World} {x y z : Int} : (Instr.makeInterface 55 (.agg #[.int .i64 x, .int .i64 y, .int .i64 z])).run Try.prog W = .ok (.iface 55 (.agg #[.int .i64 x, .int .i64 y, .int .i64 z])) W := by kernel_rfl
theorem ta55 {W : World} {x y z : Int} : (Instr.typeAssert (.iface 55 (.agg #[.int .i64 x, .int .i64 y, .int .i64 z])) 20 55 false).run Try.prog W = .ok (.agg #[.int .i64 x, .int .i64 y, .int .i64 z]) W := by kernel_rfl
theorem fa55 {W : World} {x y z : Int} : (Instr.field 55 (.agg #[.int .i64 x, .int .i64 y, .int .i64 z]) 1).run Try.prog W = .ok (.int .i64 y) W := by kernel_rfl
theorem heapPush' {w0 w : World} {g : Nat} {v : Value} {l : List S55} (x y z : Int) (h : Hs w0 w g v l) (hl : l.length < 999999999) :
    Calls Try.prog 21 #[.iface 50 (.pointer (some ⟨g, 0, none⟩)), .iface 55 (.agg #[.int .i64 x, .int .i64 y, .int .i64 z])] w fun e w' => e = .returned (.tuple #[]) ∧ ∃ v', Stp w0 w w' g v v' (pushL l ⟨x, y, z⟩) := heapPush w0 w g v l ⟨x, y, z⟩ h hl
theorem heapPop' {w0 w : World} {g : Nat} {v : Value} {l : List S55} (h : Hs w0 w g v l) (hp : 0 < l.length) (hl : l.length < 999999999) :
    Calls Try.prog 23 #[.iface 50 (.pointer (some ⟨g, 0, none⟩))] w fun e w' => e = .returned (.iface 55 (.agg #[.int .i64 (rd_T55 (sunkL l) ((l.length : Int) - 1)).f0, .int .i64 (rd_T55 (sunkL l) ((l.length : Int) - 1)).f1, .int .i64 (rd_T55 (sunkL l) ((l.length : Int) - 1)).f2])) ∧ ∃ v', Stp w0 w w' g v v' ((sunkL l).take (l.length - 1)) := heapPop w0 w g v l h hp hl
set_option maxHeartbeats 8000000 in
set_option maxRecDepth 100000 in
theorem impl_DueIds.calls (A0_0 : Option Addr) (c0_0 : Nat) (l0_0 : List (S48)) (a0_1 : Int) (a1 : Int) (r : List Int) (w : World) (hr0_0 : Kd.C k48 w A0_0 l0_0.length l0_0) (hc0_0 : l0_0.length ≤ c0_0) (h : impl_DueIds.f l0_0 a0_1 a1 = some r) :
    Calls Try.prog 10 #[.agg #[.slice A0_0 l0_0.length c0_0, .int .i64 a0_1], .int .i64 a1] w fun e w' => ∃ v0_ : Value, e = .returned (v0_) ∧ Kd.R (Kd.int .i64) 3 w' w.heap.size (fun _ => True) v0_ r ∧ Below w.heap.size w w' := by
  have hu32 := Try.underlying32
  have hu48 := Try.underlying48
  have hu55 := Try.underlying55
  unfold impl_DueIds.f at h
  split at h
  case isFalse => cases h
  rename_i hlen
  obtain rfl := Option.some.inj h
  go_enter Try.func10, Try.ntmps10
  go_wp2_with (((with_reducible refine gate_dst (N := 2) rfl ?_); refine box_event ?hg (N := 2) ?hd (cs := #[.slice A0_0 l0_0.length c0_0, .int .i64 a0_1]) (t := 32) ?hr ?_; (case hd => rfl); (case hg => rfl); (case hr => first | (go_simp; done) | (go_simp; rfl)); intro gq hg w3 hbox hb; have HBQ := Aside0.mk hbox; have HB := Aside0.mk hb; clear hbox hb hg; have hq0 : ((w3.alloc (.cells #[] 55)).alloc (.cells #[.slice (some ⟨w3.heap.size, 0, none⟩) 0 0] 52)).cell? ⟨gq, 0, none⟩ = some (.slice A0_0 l0_0.length c0_0) := (blk_cell (blk_alloc (blk_alloc HBQ.out _) _) 0).trans rfl))
  have H0 : Hs w3 ((w3.alloc (.cells #[] 55)).alloc (.cells #[.slice (some ⟨w3.heap.size, 0, none⟩) 0 0] 52)) (w3.heap.size + 1) (.slice (some ⟨w3.heap.size, 0, none⟩) 0 0) [] := by
    have hs1 : (w3.alloc (.cells #[] 55)).heap.size = w3.heap.size + 1 := by rw [World.alloc]; exact Array.size_push _
    refine ⟨below_alloc (below_alloc (Below.refl _ _) _) _, Nat.le_succ _, ?_, Kd.R_alloc (row_new k55 55 (Nat.le_refl _) _ (by omega)) _⟩
    have := blk_new (w3.alloc (.cells #[] 55)) (.cells #[.slice (some ⟨w3.heap.size, 0, none⟩) 0 0] 52)
    rwa [hs1] at this
  generalize (w3.alloc (.cells #[] 55)).alloc (.cells #[.slice (some ⟨w3.heap.size, 0, none⟩) 0 0] 52) = w4 at H0 hq0 ⊢
  generalize w3.heap.size + 1 = gh at H0 ⊢
  generalize Value.slice (some ⟨w3.heap.size, 0, none⟩) 0 0 = v4 at H0 ⊢
  have hb3 := HB.out
  have e22 := enters22
  go_loopg [14] (l0_0.length) (fun kq v14 w' => ∃ (i : Nat) (v : Value), v14 = .int .i64 (i : Int) ∧ Aside0 (i + kq = l0_0.length) ∧ Aside0 (Hs w3 w' gh v (dueFold a1 l0_0 i)))
  case atStart => exact ⟨0, v4, rfl, ⟨Nat.zero_add _⟩, ⟨H0⟩⟩
  case round =>
    obtain ⟨i, v, rfl, hk, hH⟩ := hrel
    have hkk := hk.out
    have hil : i ≤ l0_0.length := by omega
    by_cases c : i < l0_0.length
    · have hC : Kd.C k48 wr A0_0 l0_0.length l0_0 := Kd.C_below hr0_0 (hb3.trans (hH.out.below.mono hb3.size))
      obtain ⟨ad, A3, c3, A5, c5, eA, hx_0, hx_1, hx_2, hx_3, hx_4, hx_5, hx_6, hx_7, hx_8, hrest⟩ := at_T48 hC (i : Int) (by omega) (by omega)
      clear hrest
      rw [Int.toNat_natCast] at hx_0 hx_1 hx_2 hx_3 hx_4 hx_5 hx_6 hx_7 hx_8
      cases eA
      have P1 : (0 ≤ (i : Int)) = True := eq_true (by omega)
      have Q1 : ((i : Int) < (l0_0.length : Int)) = True := eq_true (by omega)
      have ew : wrap64 ((i : Int) + 1) = (i : Int) + 1 := by unfold wrap64; omega
      have hn := blk_new wr (.cells #[.int .i64 (rd_T48 l0_0 (i : Int)).f0.f0, .int .i64 (rd_T48 l0_0 (i : Int)).f0.f1, .string (rd_T48 l0_0 (i : Int)).f0.f2, .slice A3 (rd_T48 l0_0 (i : Int)).f0.f3.length c3, .string (rd_T48 l0_0 (i : Int)).f0.f4, .slice A5 (rd_T48 l0_0 (i : Int)).f1.length c5, .int .i64 (rd_T48 l0_0 (i : Int)).f2, .int .i64 (rd_T48 l0_0 (i : Int)).f3, .bool (rd_T48 l0_0 (i : Int)).f4] 48)
      have hn_0 := (blk_cell hn 0).trans (show _ = some (Value.int .i64 (rd_T48 l0_0 (i : Int)).f0.f0) from rfl)
      have hn_7 := (blk_cell hn 7).trans (show _ = some (Value.int .i64 (rd_T48 l0_0 (i : Int)).f3) from rfl)
      have hH2 := hH.out.below_ (below_alloc (Below.refl _ _) (.cells #[.int .i64 (rd_T48 l0_0 (i : Int)).f0.f0, .int .i64 (rd_T48 l0_0 (i : Int)).f0.f1, .string (rd_T48 l0_0 (i : Int)).f0.f2, .slice A3 (rd_T48 l0_0 (i : Int)).f0.f3.length c3, .string (rd_T48 l0_0 (i : Int)).f0.f4, .slice A5 (rd_T48 l0_0 (i : Int)).f1.length c5, .int .i64 (rd_T48 l0_0 (i : Int)).f2, .int .i64 (rd_T48 l0_0 (i : Int)).f3, .bool (rd_T48 l0_0 (i : Int)).f4] 48))
      have HH2 := Aside0.mk hH2
      have hdl := dueFold_length a1 l0_0 i
      have HDL : Aside0 ((dueFold a1 l0_0 i).length < 999999999) := ⟨by omega⟩
      clear hn hH2 hdl hH hC
      cases gk with
      | zero => exact absurd hkk (by omega)
      | succ k1 =>
        have HK : Aside0 (i + 1 + k1 = l0_0.length) := ⟨by omega⟩
        clear hk hkk
        by_cases d : (rd_T48 l0_0 (i : Int)).f3 ≤ a1
        · go_wp2_with (go_at_call 21; with_reducible refine (heapPush' _ _ _ HH2.out HDL.out).mono ?_; rintro e w5 ⟨rfl, v5, hS5⟩; have HS5 := Aside0.mk hS5; clear hS5)
          go_roundg k1
          case measure => omega
          case rel => exact ⟨i + 1, v5, by first | rfl | (congr 1; omega), HK, ⟨by rw [dueFold, if_pos d]; exact HS5.out.now⟩⟩
        · go_wp2
          go_roundg k1
          case measure => omega
          case rel => exact ⟨i + 1, v, by first | rfl | (congr 1; omega), HK, ⟨by rw [dueFold, if_neg (by omega)]; exact HH2.out⟩⟩
    · have ei : i = l0_0.length := by omega
      subst ei
      have hdl := dueFold_length a1 l0_0 l0_0.length
      generalize hL : dueFold a1 l0_0 l0_0.length = L at hH hdl ⊢
      have hH3 := hH.out.below_ (below_alloc (Below.refl _ _) (.cells #[] 3))
      have hO3 := Kd.own_of_R (row_new (Kd.int .i64) 3 (w0 := w3) hH.out.below.size (fun _ => True) trivial)
      clear hH hk hkk
      go_wp2
      go_loopg [8] (L.length + 1) (fun kq v8 w' => ∃ (ol : List Int) (l : List S55) (v : Value), Aside0 (l.length < kq) ∧ Aside0 (Hs w3 w' gh v l) ∧ Aside0 (w'.ownsRow w3.heap.size 3 1 v8 ol.length (encs (Value.int .i64) ol)) ∧ Aside0 (ol ++ popIds l.length l = popIds L.length L) ∧ Aside0 (ol.length + l.length ≤ 1048576))
      case atStart => exact ⟨[], L, v, ⟨Nat.lt_succ_self _⟩, ⟨hH3⟩, ⟨hO3⟩, ⟨rfl⟩, ⟨by simp only [List.length_nil, Nat.zero_add]; omega⟩⟩
      case round =>
        clear hH3 hO3
        obtain ⟨ol, l, v, hk2, hH, hO, hE, hB2⟩ := hrel
        have hx := hH.out.cell
        have hb2 := hB2.out
        cases gk with
        | zero => exact absurd hk2.out (Nat.not_lt_zero _)
        | succ k1 =>
        by_cases c2 : l.length = 0
        · have hE' := hE.out
          rw [c2, popIds, List.append_nil] at hE'
          have hlen := len_m hH.out
          rw [c2] at hlen
          have HLEN := Aside0.mk hlen
          clear hlen hb2
          go_wp2_with (go_at_call 22; with_reducible refine (HLEN.out).mono ?_; rintro e w5 ⟨rfl, hw5⟩; obtain rfl := hw5)
          go_ret
          refine ⟨_, rfl, ?_, hb3.trans (hH.out.below.mono hb3.size)⟩
          rw [hL, ← hE']
          exact Kd.R_of_own (own_less hO.out hb3.size) (fun _ _ => trivial)
        · have hpos : 0 < l.length := by omega
          have hE' := hE.out
          obtain ⟨m, hm⟩ : ∃ m, l.length = m + 1 := ⟨l.length - 1, by omega⟩
          rw [hm, popIds, if_neg c2] at hE'
          have HLEN := Aside0.mk (len_m hH.out)
          have HPOP := Aside0.mk (heapPop' hH.out hpos (by omega))
          have gt0 : ((l.length : Int) > 0) = True := eq_true (by omega)
          have gt1 : (0 < (l.length : Int)) = True := eq_true (by omega)
          have hz : ((sunkL l).take (l.length - 1)).length = m := by unfold sunkL; rw [List.length_take, downL_length, swpD_length]; omega
          have hk3 := hk2.out
          generalize hX : (rd_T55 (sunkL l) ((l.length : Int) - 1)) = X at HPOP hE'
          have HE := Aside0.mk hE'
          have HN : Aside0 (m < k1 ∧ ol.length + (m + 1) ≤ 1048576 ∧ (ol.length + 1) * 8 ≤ 140737488355328) := ⟨by omega, by omega, by omega⟩
          clear hE' hE hk3 hb2 hX hpos hk2 hB2
          go_wp2_with (first
            | (go_at_call 22; with_reducible refine (HLEN.out).mono ?_; rintro e w5 ⟨rfl, hw5⟩; obtain rfl := hw5)
            | (go_at_call 23; with_reducible refine (HPOP.out).mono ?_; rintro e w6 ⟨rfl, v6, hS6⟩; have HS6 := Aside0.mk hS6; have HO6 := Aside0.mk (hS6.own hH.out hO.out); clear hS6; have ta := @ta55 w6 X.f0 X.f1 X.f2; have fa := @fa55 w6 X.f0 X.f1 X.f2)
            | ((with_reducible refine gate_builtin (b := .append) (xs := #[.tmp 41, .tmp 47]) rfl ?_); at_builtin; refine Kd.R_append (Kd.int .i64) (w0 := w3) w3.heap.size rfl (.tmp 41) (.tmp 47) 28 3 (.int .i64 0) 8 rfl Try.underlying28 infoI rfl (by decide) (by omega) _ ol X.f1 [.int .i64 X.f1] (fun _ => True) (fun _ => False) rfl rfl ?aP (fun _ hk => hk.elim) ?aF ?aO ?aB ?aS ?aL ?_; (case aP => exact rfl); (case aB => exact HS6.out.now.below); (case aF => exact (fun _ _ => trivial)); (case aO => exact Kd.R_of_own HO6.out (fun _ _ => trivial)); (case aS => exact HS6.out.now.below.size); (case aL => exact HN.out.2.2); intro v7 w7 ho hb hg hat; have HO7 := Aside0.mk (Kd.own_of_R ho); have HH7 := Aside0.mk (HS6.out.now.other HO6.out (Nat.le_refl _) hg); clear ho hb hg hat))
          go_roundg k1
          case measure => omega
          case rel => exact ⟨ol ++ [X.f1], (sunkL l).take (l.length - 1), v6, ⟨by rw [hz]; exact HN.out.1⟩, HH7, HO7, ⟨by rw [hz, List.append_assoc]; exact HE.out⟩, ⟨by rw [hz, List.length_append]; have := HN.out.2.1; simp only [List.length_singleton]; omega⟩⟩
end Go.Proofs.Ytnhhbdhkhdbanaa.X
