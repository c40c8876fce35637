/- spec.DueIds: the due items' numbers, the first of those that are left again and again. -/
import Derived.Test.YtnhhbdhkhdbanaaUHp8
namespace Go.Proofs.Ytnhhbdhkhdbanaa.X
open Go Go.RowKit Go.Proofs.YtnhhbdhkhdbanaaW.PrintWords Go.Proofs.YtnhhbdhkhdbanaaW.PrintLast Go.Proofs.YtnhhbdhkhdbanaaW.PrintMore
set_option linter.unusedVariables false
set_option linter.unusedSimpArgs false
/-- An item's cells as they stand: what its inner rows lead to is not asked. -/
structure Q9 where
  id : Int
  born : Int
  fr : ByteArray
  A3 : Option Addr
  n3 : Nat
  c3 : Nat
  body : ByteArray
  A5 : Option Addr
  n5 : Nat
  c5 : Nat
  tries : Int
  due : Int
  bo : Bool
def Q9.cs (x : Q9) : List Value := [.int .i64 x.id, .int .i64 x.born, .string x.fr, .slice x.A3 x.n3 x.c3, .string x.body, .slice x.A5 x.n5 x.c5, .int .i64 x.tries, .int .i64 x.due, .bool x.bo]
def zQ : Q9 := ⟨0, 0, ⟨#[]⟩, none, 0, 0, ⟨#[]⟩, none, 0, 0, 0, 0, false⟩
theorem Q9.one (x : Q9) : ∀ u ∈ x.cs, u.oneCell' = true := by
  intro u hu
  simp only [Q9.cs, List.mem_cons, List.not_mem_nil, or_false] at hu
  rcases hu with rfl | rfl | rfl | rfl | rfl | rfl | rfl | rfl | rfl <;> rfl
def kQ : Kd Q9 where
  sz := 9
  E := []
  K := fun _ x cs => cs = x.cs
  M := fun _ _ _ x cs => cs = x.cs
  K_len := fun h => by rw [h]; rfl
  K_one := fun {w x cs} h u hu => Q9.one x u (h ▸ hu)
  K_below := fun _ h => h
  K_of_M := fun h => h
  M_mono := fun _ h => h
  M_bound := fun h => h
  M_move := fun _ h => h
  M_lower := fun _ h => h
def Q9.key (x : Q9) : Int × Int := (x.id, x.due)
def ltK (a b : Int × Int) : Bool := decide (a.2 < b.2) || (a.2 == b.2 && decide (a.1 < b.1))
/-- The keys of the due ones among the first k items. -/
def dueKeys (now : Int) (xs : List S48) : Nat → List (Int × Int)
  | 0 => []
  | k + 1 => if (rd_T48 xs (k : Int)).f3 ≤ now then dueKeys now xs k ++ [((rd_T48 xs (k : Int)).f0.f0, (rd_T48 xs (k : Int)).f3)] else dueKeys now xs k
def bestK (ks : List (Int × Int)) : Nat → Nat → Nat → Nat
  | 0, b, _ => b
  | k + 1, b, i => bestK ks k (if ltK (ks.getD i (0, 0)) (ks.getD b (0, 0)) = true then i else b) (i + 1)
def selIds : Nat → List (Int × Int) → List Int
  | 0, _ => []
  | n + 1, ks => (ks.getD (bestK ks ks.length 0 0) (0, 0)).1 :: selIds n (ks.take (bestK ks ks.length 0 0) ++ ks.drop (bestK ks ks.length 0 0 + 1))
theorem dueKeys_length (now : Int) (xs : List S48) : ∀ k, (dueKeys now xs k).length ≤ k
  | 0 => Nat.le_refl _
  | k + 1 => by
    rw [dueKeys]
    have := dueKeys_length now xs k
    split
    · rw [List.length_append]; simp; exact this
    · omega
theorem key_getD (l : List Q9) (i : Nat) : (l.map Q9.key).getD i (0, 0) = (l.getD i zQ).key := by
  rw [List.getD_eq_getElem?_getD, List.getD_eq_getElem?_getD, List.getElem?_map]
  cases l[i]? <;> rfl
theorem bestK_lt (ks : List (Int × Int)) : ∀ (k b i n : Nat), b < n → i + k = n → bestK ks k b i < n
  | 0, b, _, _, hb, _ => hb
  | k + 1, b, i, n, hb, he => by
    rw [bestK]
    refine bestK_lt ks k _ (i + 1) n ?_ (by omega)
    split <;> omega
def specT (now : Int) (xs : List S48) : List Int := selIds (dueKeys now xs xs.length).length (dueKeys now xs xs.length)
def spec_DueIds.f (l0_0 : List S48) (a0_1 : Int) (a1 : Int) : Option (List Int) := if l0_0.length ≤ 1048576 then some (selIds (dueKeys a1 l0_0 l0_0.length).length (dueKeys a1 l0_0 l0_0.length)) else none
theorem take_reads {w : World} {base r n c : Nat} {ok : Nat → Prop} {l : List Q9} (h : Kd.R kQ 48 w base ok (.slice (some ⟨r, 0, none⟩) n c) l) {b : Nat} (hb : b ≤ l.length) : ReadsRow (kQ.K w) kQ.sz w (some ⟨r, 0, none⟩) b (l.take b) := by
  have h2 := (Kd.R_reads' (Kd.R_take h hb)).2.2
  have e : (l.take b).length = b := by rw [List.length_take]; omega
  rw [e] at h2
  exact h2
theorem drop_reads {w : World} {base r c : Nat} {ok : Nat → Prop} {l : List Q9} (h : Kd.R kQ 48 w base ok (.slice (some ⟨r, 0, none⟩) l.length c) l) {b : Nat} (hb : b < l.length) : ReadsRow (kQ.K w) kQ.sz w (if c = b + 1 then some ⟨r, 0, none⟩ else some ⟨r, (b + 1) * 9, none⟩) (l.length - (b + 1)) (l.drop (b + 1)) := by
  have h1 := Kd.R_reads' h
  have h2 := Kd.C_drop (m := b + 1) h1.2.2 hb h1.2.1
  rw [List.length_drop, show ((some (⟨r, 0, none⟩ : Addr)).map (·.add ((b + 1) * kQ.sz))) = some ⟨r, (b + 1) * 9, none⟩ by simp [Addr.add, kQ]] at h2
  exact h2
theorem alloc_size (w : World) (o : Obj) : (w.alloc o).heap.size = w.heap.size + 1 := Array.size_push _
theorem infoQ : (Try.prog.info? 48).map (fun i => (i.zero, i.size, i.bytes)) = some (some (.agg #[(.int .i64 0), (.int .i64 0), (.string ⟨#[]⟩), (.slice none 0 0), (.string ⟨#[]⟩), (.slice none 0 0), (.int .i64 0), (.int .i64 0), (.bool false)]), 9, 120) := by kernel_rfl
set_option maxHeartbeats 8000000 in
set_option maxRecDepth 100000 in
theorem spec_DueIds.calls (A0_0 : Option Addr) (c0_0 : Nat) (l0_0 : List (S48)) (a0_1 : Int) (a1 : Int) (r : List Int) (w : World) (hr0_0 : Kd.C k48 w A0_0 l0_0.length l0_0) (hc0_0 : l0_0.length ≤ c0_0) (h : spec_DueIds.f l0_0 a0_1 a1 = some r) :
    Calls Try.prog 8 #[.agg #[.slice A0_0 l0_0.length c0_0, .int .i64 a0_1], .int .i64 a1] w fun e w' => ∃ v0_ : Value, e = .returned (v0_) ∧ Kd.R (Kd.int .i64) 3 w' w.heap.size (fun _ => True) v0_ r ∧ Below w.heap.size w w' := by
  have hu32 := Try.underlying32
  have hu48 := Try.underlying48
  unfold spec_DueIds.f at h
  split at h
  case isFalse => cases h
  rename_i hlen
  obtain rfl := Option.some.inj h
  go_enter Try.func8, Try.ntmps8
  go_wp2_with (((with_reducible refine gate_dst (N := 2) rfl ?_); refine box_event ?hg (N := 2) ?hd (cs := #[.slice A0_0 l0_0.length c0_0, .int .i64 a0_1]) (t := 32) ?hr ?_; (case hd => rfl); (case hg => rfl); (case hr => first | (go_simp; done) | (go_simp; rfl)); intro gq hg w3 hbox hb; have hq0 : w3.cell? ⟨gq, 0, none⟩ = some (.slice A0_0 l0_0.length c0_0) := (blk_cell hbox 0).trans rfl; have HB := Aside0.mk hb; clear hbox hb hg))
  have hb3 := HB.out
  clear HB
  go_loopg [5, 17] (l0_0.length) (fun kq v5 v17 w' => ∃ (i : Nat) (ql : List Q9), v17 = .int .i64 (i : Int) ∧ Aside0 (i + kq = l0_0.length) ∧ Aside0 (Below w.heap.size w w') ∧ Aside0 (Kd.R kQ 48 w' w.heap.size (fun _ => True) v5 ql) ∧ Aside0 (ql.map Q9.key = dueKeys a1 l0_0 i))
  case atStart => exact ⟨0, [], rfl, ⟨Nat.zero_add _⟩, ⟨hb3⟩, ⟨Kd.R_nil _ _ _ _ _⟩, ⟨rfl⟩⟩
  case round =>
    obtain ⟨i, ql, rfl, hk, hB, hR, hM⟩ := hrel
    have hkk := hk.out
    have hil : i ≤ l0_0.length := by omega
    by_cases c : i < l0_0.length
    · have hC : Kd.C k48 wr A0_0 l0_0.length l0_0 := Kd.C_below hr0_0 hB.out
      obtain ⟨ad, A3, c3, A5, c5, eA, hx_0, hx_1, hx_2, hx_3, hx_4, hx_5, hx_6, hx_7, hx_8, hrest⟩ := at_T48 hC (i : Int) (by omega) (by omega)
      clear hrest
      rw [Int.toNat_natCast] at hx_0 hx_1 hx_2 hx_3 hx_4 hx_5 hx_6 hx_7 hx_8
      cases eA
      have P1 : (0 ≤ (i : Int)) = True := eq_true (by omega)
      have Q1 : ((i : Int) < (l0_0.length : Int)) = True := eq_true (by omega)
      have ew : wrap64 ((i : Int) + 1) = (i : Int) + 1 := by unfold wrap64; omega
      have hdl := dueKeys_length a1 l0_0 i
      have hql : ql.length ≤ i := by have := congrArg List.length hM.out; rw [List.length_map] at this; omega
      have HL : Aside0 ((ql.length + 1) * 120 ≤ 140737488355328) := ⟨by omega⟩
      generalize hX : rd_T48 l0_0 (i : Int) = X at hx_0 hx_1 hx_2 hx_3 hx_4 hx_5 hx_6 hx_7 hx_8
      have hn := blk_new wr (.cells #[.int .i64 X.f0.f0, .int .i64 X.f0.f1, .string X.f0.f2, .slice A3 X.f0.f3.length c3, .string X.f0.f4, .slice A5 X.f1.length c5, .int .i64 X.f2, .int .i64 X.f3, .bool X.f4] 48)
      have hn_0 := (blk_cell hn 0).trans (show _ = some (Value.int .i64 X.f0.f0) from rfl)
      have hn_1 := (blk_cell hn 1).trans (show _ = some (Value.int .i64 X.f0.f1) from rfl)
      have hn_2 := (blk_cell hn 2).trans (show _ = some (Value.string X.f0.f2) from rfl)
      have hn_3 := (blk_cell hn 3).trans (show _ = some (Value.slice A3 X.f0.f3.length c3) from rfl)
      have hn_4 := (blk_cell hn 4).trans (show _ = some (Value.string X.f0.f4) from rfl)
      have hn_5 := (blk_cell hn 5).trans (show _ = some (Value.slice A5 X.f1.length c5) from rfl)
      have hn_6 := (blk_cell hn 6).trans (show _ = some (Value.int .i64 X.f2) from rfl)
      have hn_7 := (blk_cell hn 7).trans (show _ = some (Value.int .i64 X.f3) from rfl)
      have hn_8 := (blk_cell hn 8).trans (show _ = some (Value.bool X.f4) from rfl)
      have HB2 := Aside0.mk (below_alloc hB.out (.cells #[.int .i64 X.f0.f0, .int .i64 X.f0.f1, .string X.f0.f2, .slice A3 X.f0.f3.length c3, .string X.f0.f4, .slice A5 X.f1.length c5, .int .i64 X.f2, .int .i64 X.f3, .bool X.f4] 48))
      have HR2 := Aside0.mk (Kd.R_alloc hR.out (.cells #[.int .i64 X.f0.f0, .int .i64 X.f0.f1, .string X.f0.f2, .slice A3 X.f0.f3.length c3, .string X.f0.f4, .slice A5 X.f1.length c5, .int .i64 X.f2, .int .i64 X.f3, .bool X.f4] 48))
      clear hn hC hB hR hdl hql
      cases gk with
      | zero => exact absurd hkk (by omega)
      | succ k1 =>
        have HK : Aside0 (i + 1 + k1 = l0_0.length) := ⟨by omega⟩
        clear hk hkk
        by_cases d : X.f3 ≤ a1
        · go_wp2_with (((with_reducible refine gate_builtin (b := .append) (xs := #[.tmp 25, .tmp 27]) rfl ?_); at_builtin; refine Kd.R_append kQ (w0 := w) w.heap.size rfl (.tmp 25) (.tmp 27) 30 48 (.agg #[(.int .i64 0), (.int .i64 0), (.string ⟨#[]⟩), (.slice none 0 0), (.string ⟨#[]⟩), (.slice none 0 0), (.int .i64 0), (.int .i64 0), (.bool false)]) 120 rfl Try.underlying30 infoQ rfl (by decide) (by omega) _ ql (⟨X.f0.f0, X.f0.f1, X.f0.f2, A3, X.f0.f3.length, c3, X.f0.f4, A5, X.f1.length, c5, X.f2, X.f3, X.f4⟩ : Q9) [.int .i64 X.f0.f0, .int .i64 X.f0.f1, .string X.f0.f2, .slice A3 X.f0.f3.length c3, .string X.f0.f4, .slice A5 X.f1.length c5, .int .i64 X.f2, .int .i64 X.f3, .bool X.f4] (fun _ => True) (fun _ => False) rfl (by rw [alloc_size]; rfl) ?aP (fun _ hk => hk.elim) ?aF ?aO ?aB ?aS ?aL ?_; (case aP => exact rfl); (case aB => exact HB2.out); (case aF => exact (fun _ _ => trivial)); (case aO => exact HR2.out); (case aS => exact HB2.out.size); (case aL => exact HL.out); intro v7 w7 ho hb hg hat; have HO7 := Aside0.mk ho; have HB7 := Aside0.mk hb; clear ho hb hg hat))
          go_roundg k1
          case measure => omega
          case rel => exact ⟨i + 1, _, by first | rfl | (congr 1; omega), HK, HB7, HO7, ⟨by rw [dueKeys, hX, if_pos (by omega), List.map_append, hM.out]; rfl⟩⟩
        · go_wp2
          go_roundg k1
          case measure => omega
          case rel => exact ⟨i + 1, ql, by first | rfl | (congr 1; omega), HK, HB2, HR2, ⟨by rw [dueKeys, hX, if_neg (by omega)]; exact hM.out⟩⟩
    · have ei : i = l0_0.length := by omega
      subst ei
      have hdl := dueKeys_length a1 l0_0 l0_0.length
      have hM' := hM.out
      have hT : selIds ql.length (ql.map Q9.key) = specT a1 l0_0 := by unfold specT; rw [← hM', List.length_map]
      have hql : ql.length ≤ 1048576 := by have := congrArg List.length hM'; rw [List.length_map] at this; omega
      clear hk hkk hM hM' hdl hr0_0 hq0
      go_wp2
      go_loopg [5, 8] (ql.length + 1) (fun kq v5 v8 w' => ∃ (ql : List Q9) (ol : List Int), Aside0 (ql.length < kq) ∧ Aside0 (Below w.heap.size w w') ∧ Aside0 (Kd.R kQ 48 w' w.heap.size (fun _ => True) v5 ql) ∧ Aside0 (w'.ownsRow w.heap.size 3 1 v8 ol.length (encs (Value.int .i64) ol)) ∧ Aside0 (ol ++ selIds ql.length (ql.map Q9.key) = specT a1 l0_0) ∧ Aside0 (ol.length + ql.length ≤ 1048576))
      case atStart => exact ⟨ql, [], ⟨Nat.lt_succ_self _⟩, hB, hR, ⟨own_nil _ _ _ _⟩, ⟨by rw [List.nil_append]; exact hT⟩, ⟨by simp only [List.length_nil, Nat.zero_add]; omega⟩⟩
      case round =>
        clear hB hR hT hql
        clear ql
        obtain ⟨ql, ol, hk2, hB, hR, hO, hE, hN⟩ := hrel
        cases gk with
        | zero => exact absurd hk2.out (Nat.not_lt_zero _)
        | succ k1 =>
        by_cases c2 : ql.length = 0
        · have hE' := hE.out
          rw [c2, selIds, List.append_nil] at hE'
          obtain ⟨A, c5, e5⟩ := Kd.R_slice hR.out
          rw [c2] at e5
          subst e5
          go_wp2
          go_ret
          refine ⟨_, rfl, ?_, hB.out⟩
          rw [show selIds (dueKeys a1 l0_0 l0_0.length).length (dueKeys a1 l0_0 l0_0.length) = specT a1 l0_0 from rfl, ← hE']
          exact Kd.R_of_own hO.out (fun _ _ => trivial)
        · have hpos : 0 < ql.length := by omega
          obtain ⟨r5, c5, e5, hbr, hlr, cells5, hcr⟩ := Kd.R_form hR.out hpos
          subst e5
          have gt0 : ((ql.length : Int) > 0) = True := eq_true (by omega)
          have gt1 : (0 < (ql.length : Int)) = True := eq_true (by omega)
          have gt2 : (0 < ql.length) = True := eq_true hpos
          clear hbr hlr hcr
          obtain ⟨m, hm⟩ : ∃ m, ql.length = m + 1 := ⟨ql.length - 1, by omega⟩
          have hE' := hE.out
          have hlm : (ql.map Q9.key).length = ql.length := List.length_map _
          rw [hm, selIds, hlm] at hE'
          have HE := Aside0.mk hE'
          have HP := Aside0.mk hpos
          have HM := Aside0.mk hm
          clear hE hE' hm hpos
          go_wp2
          go_loopg [9, 35] (ql.length) (fun kq v9 v35 w' => ∃ (b i : Nat), v9 = .int .i64 (b : Int) ∧ v35 = .int .i64 (i : Int) ∧ Aside0 (i + kq = ql.length) ∧ Aside0 (b < ql.length) ∧ Aside0 (Below w.heap.size w w') ∧ Aside0 (Kd.R kQ 48 w' w.heap.size (fun _ => True) (.slice (some ⟨r5, 0, none⟩) ql.length c5) ql) ∧ Aside0 (w'.ownsRow w.heap.size 3 1 u8 ol.length (encs (Value.int .i64) ol)) ∧ Aside0 (bestK (ql.map Q9.key) kq b i = bestK (ql.map Q9.key) ql.length 0 0))
          case atStart => exact ⟨0, 0, rfl, rfl, ⟨Nat.zero_add _⟩, HP, hB, hR, hO, ⟨rfl⟩⟩
          case round =>
            clear hB hR hO
            obtain ⟨b, i, rfl, rfl, hk3, hbl, hB, hR, hO, hbest⟩ := hrel
            have hkk3 := hk3.out
            have hbl' := hbl.out
            have hil3 : i ≤ ql.length := by omega
            by_cases c3 : i < ql.length
            · have CX : True := trivial
              obtain ⟨ci, hcl, hMi, hcc, hfr⟩ := Kd.R_elem hR.out zQ (i : Int) (by omega) (by omega)
              have hMi' : ci = (ql.getD i zQ).cs := hMi
              generalize hXd : ql.getD i zQ = X at hMi'
              subst hMi'
              have hx_0 : wr.cell? ⟨r5, i * 9, none⟩ = some (Value.int .i64 X.id) := hcc 0 _ rfl
              have hx_1 : wr.cell? ⟨r5, i * 9 + 1, none⟩ = some (Value.int .i64 X.born) := hcc 1 _ rfl
              have hx_2 : wr.cell? ⟨r5, i * 9 + 2, none⟩ = some (Value.string X.fr) := hcc 2 _ rfl
              have hx_3 : wr.cell? ⟨r5, i * 9 + 3, none⟩ = some (Value.slice X.A3 X.n3 X.c3) := hcc 3 _ rfl
              have hx_4 : wr.cell? ⟨r5, i * 9 + 4, none⟩ = some (Value.string X.body) := hcc 4 _ rfl
              have hx_5 : wr.cell? ⟨r5, i * 9 + 5, none⟩ = some (Value.slice X.A5 X.n5 X.c5) := hcc 5 _ rfl
              have hx_6 : wr.cell? ⟨r5, i * 9 + 6, none⟩ = some (Value.int .i64 X.tries) := hcc 6 _ rfl
              have hx_7 : wr.cell? ⟨r5, i * 9 + 7, none⟩ = some (Value.int .i64 X.due) := hcc 7 _ rfl
              have hx_8 : wr.cell? ⟨r5, i * 9 + 8, none⟩ = some (Value.bool X.bo) := hcc 8 _ rfl
              clear hcl hMi hcc hfr CX
              have hRX := Kd.R_alloc hR.out (.cells #[.int .i64 X.id, .int .i64 X.born, .string X.fr, .slice X.A3 X.n3 X.c3, .string X.body, .slice X.A5 X.n5 X.c5, .int .i64 X.tries, .int .i64 X.due, .bool X.bo] 48)
              obtain ⟨cb, hcl, hMb, hcc, hfr⟩ := Kd.R_elem hRX zQ (b : Int) (by omega) (by omega)
              have hMb' : cb = (ql.getD b zQ).cs := hMb
              generalize hYd : ql.getD b zQ = Y at hMb'
              subst hMb'
              have hy_0 : (wr.alloc (.cells #[.int .i64 X.id, .int .i64 X.born, .string X.fr, .slice X.A3 X.n3 X.c3, .string X.body, .slice X.A5 X.n5 X.c5, .int .i64 X.tries, .int .i64 X.due, .bool X.bo] 48)).cell? ⟨r5, b * 9, none⟩ = some (Value.int .i64 Y.id) := hcc 0 _ rfl
              have hy_1 : (wr.alloc (.cells #[.int .i64 X.id, .int .i64 X.born, .string X.fr, .slice X.A3 X.n3 X.c3, .string X.body, .slice X.A5 X.n5 X.c5, .int .i64 X.tries, .int .i64 X.due, .bool X.bo] 48)).cell? ⟨r5, b * 9 + 1, none⟩ = some (Value.int .i64 Y.born) := hcc 1 _ rfl
              have hy_2 : (wr.alloc (.cells #[.int .i64 X.id, .int .i64 X.born, .string X.fr, .slice X.A3 X.n3 X.c3, .string X.body, .slice X.A5 X.n5 X.c5, .int .i64 X.tries, .int .i64 X.due, .bool X.bo] 48)).cell? ⟨r5, b * 9 + 2, none⟩ = some (Value.string Y.fr) := hcc 2 _ rfl
              have hy_3 : (wr.alloc (.cells #[.int .i64 X.id, .int .i64 X.born, .string X.fr, .slice X.A3 X.n3 X.c3, .string X.body, .slice X.A5 X.n5 X.c5, .int .i64 X.tries, .int .i64 X.due, .bool X.bo] 48)).cell? ⟨r5, b * 9 + 3, none⟩ = some (Value.slice Y.A3 Y.n3 Y.c3) := hcc 3 _ rfl
              have hy_4 : (wr.alloc (.cells #[.int .i64 X.id, .int .i64 X.born, .string X.fr, .slice X.A3 X.n3 X.c3, .string X.body, .slice X.A5 X.n5 X.c5, .int .i64 X.tries, .int .i64 X.due, .bool X.bo] 48)).cell? ⟨r5, b * 9 + 4, none⟩ = some (Value.string Y.body) := hcc 4 _ rfl
              have hy_5 : (wr.alloc (.cells #[.int .i64 X.id, .int .i64 X.born, .string X.fr, .slice X.A3 X.n3 X.c3, .string X.body, .slice X.A5 X.n5 X.c5, .int .i64 X.tries, .int .i64 X.due, .bool X.bo] 48)).cell? ⟨r5, b * 9 + 5, none⟩ = some (Value.slice Y.A5 Y.n5 Y.c5) := hcc 5 _ rfl
              have hy_6 : (wr.alloc (.cells #[.int .i64 X.id, .int .i64 X.born, .string X.fr, .slice X.A3 X.n3 X.c3, .string X.body, .slice X.A5 X.n5 X.c5, .int .i64 X.tries, .int .i64 X.due, .bool X.bo] 48)).cell? ⟨r5, b * 9 + 6, none⟩ = some (Value.int .i64 Y.tries) := hcc 6 _ rfl
              have hy_7 : (wr.alloc (.cells #[.int .i64 X.id, .int .i64 X.born, .string X.fr, .slice X.A3 X.n3 X.c3, .string X.body, .slice X.A5 X.n5 X.c5, .int .i64 X.tries, .int .i64 X.due, .bool X.bo] 48)).cell? ⟨r5, b * 9 + 7, none⟩ = some (Value.int .i64 Y.due) := hcc 7 _ rfl
              have hy_8 : (wr.alloc (.cells #[.int .i64 X.id, .int .i64 X.born, .string X.fr, .slice X.A3 X.n3 X.c3, .string X.body, .slice X.A5 X.n5 X.c5, .int .i64 X.tries, .int .i64 X.due, .bool X.bo] 48)).cell? ⟨r5, b * 9 + 8, none⟩ = some (Value.bool Y.bo) := hcc 8 _ rfl
              clear hcl hMb hcc hfr
              have hn1 := blk_alloc (blk_new wr (.cells #[.int .i64 X.id, .int .i64 X.born, .string X.fr, .slice X.A3 X.n3 X.c3, .string X.body, .slice X.A5 X.n5 X.c5, .int .i64 X.tries, .int .i64 X.due, .bool X.bo] 48)) (.cells #[.int .i64 Y.id, .int .i64 Y.born, .string Y.fr, .slice Y.A3 Y.n3 Y.c3, .string Y.body, .slice Y.A5 Y.n5 Y.c5, .int .i64 Y.tries, .int .i64 Y.due, .bool Y.bo] 48)
              have hn2 := blk_new (wr.alloc (.cells #[.int .i64 X.id, .int .i64 X.born, .string X.fr, .slice X.A3 X.n3 X.c3, .string X.body, .slice X.A5 X.n5 X.c5, .int .i64 X.tries, .int .i64 X.due, .bool X.bo] 48)) (.cells #[.int .i64 Y.id, .int .i64 Y.born, .string Y.fr, .slice Y.A3 Y.n3 Y.c3, .string Y.body, .slice Y.A5 Y.n5 Y.c5, .int .i64 Y.tries, .int .i64 Y.due, .bool Y.bo] 48)
              rw [alloc_size] at hn2
              have hn1_0 := (blk_cell hn1 0).trans (show _ = some (Value.int .i64 X.id) from rfl)
              have hn1_7 := (blk_cell hn1 7).trans (show _ = some (Value.int .i64 X.due) from rfl)
              have hn2_0 := (blk_cell hn2 0).trans (show _ = some (Value.int .i64 Y.id) from rfl)
              have hn2_7 := (blk_cell hn2 7).trans (show _ = some (Value.int .i64 Y.due) from rfl)
              have HR2 := Aside0.mk (Kd.R_alloc hRX (.cells #[.int .i64 Y.id, .int .i64 Y.born, .string Y.fr, .slice Y.A3 Y.n3 Y.c3, .string Y.body, .slice Y.A5 Y.n5 Y.c5, .int .i64 Y.tries, .int .i64 Y.due, .bool Y.bo] 48))
              have HB2 := Aside0.mk (below_alloc (below_alloc hB.out (.cells #[.int .i64 X.id, .int .i64 X.born, .string X.fr, .slice X.A3 X.n3 X.c3, .string X.body, .slice X.A5 X.n5 X.c5, .int .i64 X.tries, .int .i64 X.due, .bool X.bo] 48)) (.cells #[.int .i64 Y.id, .int .i64 Y.born, .string Y.fr, .slice Y.A3 Y.n3 Y.c3, .string Y.body, .slice Y.A5 Y.n5 Y.c5, .int .i64 Y.tries, .int .i64 Y.due, .bool Y.bo] 48))
              have HO2 := Aside0.mk (own_alloc (own_alloc hO.out (.cells #[.int .i64 X.id, .int .i64 X.born, .string X.fr, .slice X.A3 X.n3 X.c3, .string X.body, .slice X.A5 X.n5 X.c5, .int .i64 X.tries, .int .i64 X.due, .bool X.bo] 48)) (.cells #[.int .i64 Y.id, .int .i64 Y.born, .string Y.fr, .slice Y.A3 Y.n3 Y.c3, .string Y.body, .slice Y.A5 Y.n5 Y.c5, .int .i64 Y.tries, .int .i64 Y.due, .bool Y.bo] 48))
              have P1 : (0 ≤ (i : Int)) = True := eq_true (by omega)
              have Q1 : ((i : Int) < (ql.length : Int)) = True := eq_true (by omega)
              have P2 : (0 ≤ (b : Int)) = True := eq_true (by omega)
              have Q2 : ((b : Int) < (ql.length : Int)) = True := eq_true (by omega)
              have hN' := hN.out
              have ew : wrap64 ((i : Int) + 1) = (i : Int) + 1 := by unfold wrap64; omega
              cases gk with
              | zero => exact absurd hkk3 (by omega)
              | succ k2 =>
              have HK3 : Aside0 (i + 1 + k2 = ql.length) := ⟨by omega⟩
              have hb' := hbest.out
              rw [bestK, key_getD, key_getD, hXd, hYd] at hb'
              have HC3 := Aside0.mk c3
              clear hn1 hn2 hRX hR hB hO hbest hk3 hkk3 hil3 hN' hXd hYd hbl'
              by_cases d1 : X.due < Y.due
              · have d0 : decide (X.due < Y.due) = true := decide_eq_true d1
                have hl : ltK X.key Y.key = true := by unfold ltK Q9.key; simp only [decide_eq_true d1, Bool.true_or]
                rw [hl] at hb'
                have HBE := Aside0.mk hb'
                clear hb' hl
                go_wp2
                go_roundg k2
                case measure => omega
                case rel => exact ⟨i, i + 1, by first | rfl | (congr 1; omega), by first | rfl | (congr 1; omega), HK3, HC3, HB2, HR2, HO2, ⟨by simpa using HBE.out⟩⟩
              · have d0 : decide (X.due < Y.due) = false := decide_eq_false d1
                by_cases d2 : X.due = Y.due
                · have d20 : (X.due == Y.due) = true := beq_iff_eq.2 d2
                  clear d2
                  by_cases d3 : X.id < Y.id
                  · have d30 : decide (X.id < Y.id) = true := decide_eq_true d3
                    have hl : ltK X.key Y.key = true := by unfold ltK Q9.key; simp only [d0, d20, d30, Bool.false_or, Bool.true_and]
                    rw [hl] at hb'
                    have HBE := Aside0.mk hb'
                    clear hb' hl
                    go_wp2
                    go_roundg k2
                    case measure => omega
                    case rel => exact ⟨i, i + 1, by first | rfl | (congr 1; omega), by first | rfl | (congr 1; omega), HK3, HC3, HB2, HR2, HO2, ⟨by simpa using HBE.out⟩⟩
                  · have d30 : decide (X.id < Y.id) = false := decide_eq_false d3
                    have hl : ltK X.key Y.key = false := by unfold ltK Q9.key; simp only [d0, d20, d30, Bool.false_or, Bool.true_and]
                    rw [hl] at hb'
                    have HBE := Aside0.mk hb'
                    clear hb' hl
                    go_wp2
                    go_roundg k2
                    case measure => omega
                    case rel => exact ⟨b, i + 1, by first | rfl | (congr 1; omega), by first | rfl | (congr 1; omega), HK3, hbl, HB2, HR2, HO2, ⟨by simpa using HBE.out⟩⟩
                · have d20 : (X.due == Y.due) = false := beq_eq_false_iff_ne.2 d2
                  have hl : ltK X.key Y.key = false := by unfold ltK Q9.key; simp only [d0, d20, Bool.false_or, Bool.false_and]
                  rw [hl] at hb'
                  have HBE := Aside0.mk hb'
                  clear hb' hl
                  go_wp2
                  go_roundg k2
                  case measure => omega
                  case rel => exact ⟨b, i + 1, by first | rfl | (congr 1; omega), by first | rfl | (congr 1; omega), HK3, hbl, HB2, HR2, HO2, ⟨by simpa using HBE.out⟩⟩
            · have ei : i = ql.length := by omega
              have hii := ei
              have hk0 : gk = 0 := by omega
              subst hk0
              have hbb := hbest.out
              rw [bestK] at hbb
              obtain ⟨cb, hcl, hMb, hcc, hfr⟩ := Kd.R_elem hR.out zQ (b : Int) (by omega) (by omega)
              have hMb' : cb = (ql.getD b zQ).cs := hMb
              have hE' := HE.out
              rw [← hbb, key_getD] at hE'
              generalize hYd : ql.getD b zQ = Y at hMb' hE'
              subst hMb'
              have hy_0 : wr.cell? ⟨r5, b * 9, none⟩ = some (Value.int .i64 Y.id) := hcc 0 _ rfl
              clear hcl hMb hcc hfr
              have HE2 := Aside0.mk hE'
              have hcap : ql.length ≤ c5 := (Kd.R_reads' hR.out).2.1
              have P1 : (0 ≤ (b : Int)) = True := eq_true (by omega)
              have Q1 : ((b : Int) < (ql.length : Int)) = True := eq_true (by omega)
              have P2 : ((b : Int) ≤ (c5 : Int)) = True := eq_true (by omega)
              have Q2 : ((b : Int) + 1 ≤ (ql.length : Int)) = True := eq_true (by omega)
              have P3 : (b ≤ c5) = True := eq_true (by omega)
              have Q3 : (b + 1 ≤ ql.length) = True := eq_true (by omega)
              have P4 : (0 ≤ (b : Int) + 1) = True := eq_true (by omega)
              have P5 : ((ql.length : Int) ≤ (c5 : Int)) = True := eq_true (by omega)
              have P6 : (ql.length ≤ c5) = True := eq_true hcap
              have ew : wrap64 ((b : Int) + 1) = (b : Int) + 1 := by have := hN.out; unfold wrap64; omega
              have HCAP := Aside0.mk hcap
              have HBB : Aside0 (b < ql.length ∧ (ol.length + 1) * 8 ≤ 140737488355328 ∧ ql.length * 120 ≤ 140737488355328 ∧ ql.length ≤ k1 ∧ ol.length + ql.length ≤ 1048576) := ⟨hbl', by have := hN.out; omega, by have := hN.out; omega, by have := hk2.out; omega, hN.out⟩
              clear hbb hE' hbest hcap hkk3 hil3 hk3 hbl' HE hYd c3
              go_wp2_with (first | ((with_reducible refine gate_builtin (b := .append) (xs := #[.tmp 67, .tmp 74]) rfl ?_); at_builtin; refine Kd.R_append (Kd.int .i64) (w0 := w) w.heap.size rfl (.tmp 67) (.tmp 74) 28 3 (.int .i64 0) 8 rfl Try.underlying28 infoI rfl (by decide) (by omega) _ ol Y.id [.int .i64 Y.id] (fun _ => True) (fun _ => False) rfl rfl ?aP (fun _ hk => hk.elim) ?aF ?aO ?aB ?aS ?aL ?_; (case aP => exact rfl); (case aB => exact hB.out); (case aF => exact (fun _ _ => trivial)); (case aO => exact Kd.R_of_own hO.out (fun _ _ => trivial)); (case aS => exact hB.out.size); (case aL => exact HBB.out.2.1); intro v7 w7 ho hb hg hat; have HO7 := Aside0.mk (Kd.own_of_R ho); have HB7 := Aside0.mk hb; have HR7 := Aside0.mk (Kd.R_over' hR.out (e' := 3) (fun k hk => own_typed hO.out k hk) (by intro q hq; simp [kQ] at hq; omega) hg); clear ho hb hg hat) | ((with_reducible refine gate_builtin (b := .append) (xs := #[.tmp 76, .tmp 79]) rfl ?_); at_builtin; go_loud (refine Kd.R_append_rows kQ (Rr := kQ.K w7) (w0 := w) w.heap.size rfl (.tmp 76) (.tmp 79) 30 48 (.agg #[(.int .i64 0), (.int .i64 0), (.string ⟨#[]⟩), (.slice none 0 0), (.string ⟨#[]⟩), (.slice none 0 0), (.int .i64 0), (.int .i64 0), (.bool false)]) 120 rfl Try.underlying30 infoQ rfl (by decide) (by omega) (.slice none 0 0) [] (ql.take b) (some ⟨r5, 0, none⟩) b _ (fun _ => True) (fun _ => False) rfl rfl (Kd.R_nil _ _ _ _ _) ?aR (fun _ _ h => h) (fun _ hk => hk.elim) (fun _ _ => trivial) ?aB ?aS ?aL ?_; (case aR => exact take_reads HR7.out (Nat.le_of_lt HBB.out.1)); (case aB => exact HB7.out); (case aS => exact HB7.out.size); (case aL => (have := HBB.out; simp only [List.length_nil]; omega)); intro v8 w8 ho hb hg hat; have HO8 := Aside0.mk (own_move HO7.out (fun k hk => hg.block k (own_lt HO7.out k hk) (by simp [Value.ownBlock]))); have HB8 := Aside0.mk hb; have HR8 := Aside0.mk (Kd.R_grown HR7.out hg (fun k _ => by simp [Value.ownBlock])); have HT8 := Aside0.mk ho; clear ho hb hg hat)) | ((with_reducible refine gate_builtin (b := .append) (xs := #[.tmp 81, .tmp 85]) rfl ?_); at_builtin; go_loud (refine Kd.R_append_rows kQ (Rr := kQ.K w8) (w0 := w) w.heap.size rfl (.tmp 81) (.tmp 85) 30 48 (.agg #[(.int .i64 0), (.int .i64 0), (.string ⟨#[]⟩), (.slice none 0 0), (.string ⟨#[]⟩), (.slice none 0 0), (.int .i64 0), (.int .i64 0), (.bool false)]) 120 rfl Try.underlying30 infoQ rfl (by decide) (by omega) _ ([] ++ ql.take b) (ql.drop (b + 1)) _ _ _ (fun _ => True) (fun _ => False) rfl rfl HT8.out ?aR (fun _ _ h => h) (fun _ hk => hk.elim) (fun _ _ => trivial) ?aB ?aS ?aL ?_; (case aR => exact drop_reads HR8.out HBB.out.1); (case aB => exact HB8.out); (case aS => exact HB8.out.size); (case aL => (have := HBB.out; simp only [List.nil_append, List.length_take]; omega)); intro v9 w9 ho hb hg hat; obtain ⟨inner9, hown9⟩ := Kd.R_own HT8.out; have HO9 := Aside0.mk (own_other HO8.out hg (own_type_ne HO8.out hown9 (by decide))); have HB9 := Aside0.mk hb; have HT9 := Aside0.mk ho; clear ho hb hg hat hown9)))
              all_goals
                go_roundg k1
                case measure => omega
                case rel =>
                  have hl9 : (ql.take b ++ ql.drop (b + 1)).length = m := by rw [List.length_append, List.length_take, List.length_drop]; have := HBB.out; have := HM.out; omega
                  refine ⟨ql.take b ++ ql.drop (b + 1), ol ++ [Y.id], ⟨by rw [hl9]; have := HBB.out; have := HM.out; omega⟩, HB9, ⟨by have := HT9.out; rwa [List.nil_append] at this⟩, HO9, ⟨?_⟩, ⟨by rw [hl9, List.length_append]; have := HBB.out; have := HM.out; simp only [List.length_singleton]; omega⟩⟩
                  rw [hl9, List.append_assoc, List.map_append, List.map_take, List.map_drop]
                  exact HE2.out
end Go.Proofs.Ytnhhbdhkhdbanaa.X
