/- laws.markItemS and laws.markQueue over rows of their own: what they answer, and that nothing beside those rows changes. -/
import Derived.Test.YtnhhbdhkhdbanaaUHp9
import Derived.Test.YtnhhbdhkhdbanaaUPMrk
namespace Go.Proofs.Ytnhhbdhkhdbanaa.X
open Go Go.RowKit Go.Proofs.YtnhhbdhkhdbanaaW.PrintWords Go.Proofs.YtnhhbdhkhdbanaaW.PrintLast Go.Proofs.YtnhhbdhkhdbanaaW.PrintMore
set_option linter.unusedVariables false
set_option linter.unusedSimpArgs false
/-- How many marks a row of items takes. -/
def mkTot : List S48 → Nat
  | [] => 0
  | x :: r => 7 + x.f0.f3.length + 3 * x.f1.length + mkTot r
theorem mkTot_len : ∀ l : List S48, l.length ≤ mkTot l
  | [] => Nat.le_refl _
  | x :: r => by have := mkTot_len r; rw [mkTot, List.length_cons]; omega
theorem H_at {W : World} {base g n cap : Nat} {ok oki : Nat → Prop} {l : List S48} {i : Int} {c : List Value} (h : Kd.H k48 48 W base ok (.slice (some ⟨g, 0, none⟩) n cap) l i oki c) (h0 : 0 ≤ i) (h1 : i < n) :
    (∀ j u, c[j]? = some u → W.cell? ⟨g, i.toNat * 9 + j, none⟩ = some u) ∧ ∀ j, W.frozen? ⟨g, i.toNat * 9 + j, none⟩ = false := by
  obtain ⟨rows, hl, hraw, hcl, hco, hcc, hback⟩ := Kd.H_raw h h0 h1
  obtain ⟨_, _, _, _, hfr⟩ := Kd.R_elem hraw [] i h0 h1
  exact ⟨hcc, hfr⟩
theorem R_tight {α : Type} {d : Kd α} {e base : Nat} {ok ok' : Nat → Prop} {W : World} {v : Value} {xs : List α} (hE : d.E = []) (h : d.R e W base ok v xs) (hk : ∀ k, v.ownBlock = some k → ok' k) : d.R e W base ok' v xs :=
  ⟨hk, h.2.imp_ (fun _ _ hp => d.M_mono (fun k hk => by obtain ⟨_, _, _, q, hq, _⟩ := hk; rw [hE] at hq; cases hq) (d.M_bound hp))⟩
theorem R_by {α : Type} {d : Kd α} {e base : Nat} {ok S : Nat → Prop} {W W2 : World} {v : Value} {xs : List α} (hE : d.E = []) (h : d.R e W base ok v xs) (hk : Kept W W2 S) (hS : ∀ k, S k → ∃ cells q, W.heap[k]? = some (.cells cells q (0, 0)) ∧ q ≠ e) : d.R e W2 base ok v xs := by
  refine Kd.R_mono (Kd.R_step (Kd.R_bound h) (fun k hb hlt => hk.2 k hlt (fun hs => ?_))) (fun _ hk => hk.1)
  obtain ⟨_, _, _, q, hq, cells, hc⟩ := hb
  obtain ⟨cells', q', hc', hne⟩ := hS k hs
  rw [hE] at hq
  simp only [List.mem_cons, List.not_mem_nil, or_false] at hq
  subst hq
  rw [hc] at hc'
  injection Option.some.inj hc' with e1 e2
  exact hne e2.symm
theorem one1 (a : Value) (h : a.oneCell' = true) : ∀ q ∈ [a], q.oneCell' = true := fun q hq => by rw [List.mem_singleton.1 hq]; exact h
theorem pick_ty {α : Type} {d : Kd α} {e base : Nat} {ok : Nat → Prop} {W : World} {v : Value} {xs : List α} (hE : d.E = []) (h : d.R e W base ok v xs) : d.R e W base (fun k => ok k ∧ ∃ cells, W.heap[k]? = some (.cells cells e (0, 0))) v xs :=
  Kd.R_mono (Kd.R_bound h) (fun k hk => ⟨hk.1, by
    obtain ⟨_, _, _, q, hq, cc, hc⟩ := hk
    rw [hE] at hq
    simp only [List.mem_cons, List.not_mem_nil, or_false] at hq
    exact ⟨cc, hq ▸ hc⟩⟩)
theorem H_put {W : World} {base g n cap : Nat} {ok oki : Nat → Prop} {l : List S48} {i : Nat} {c : List Value} (h : Kd.H k48 48 W base ok (.slice (some ⟨g, 0, none⟩) n cap) l (i : Int) oki c) (h1 : (i : Int) < n) (a : Value) (ha : a.oneCell' = true) (j : Nat) (hj : j + 1 ≤ 9) :
    Kd.H k48 48 (W.setCell ⟨g, i * 9 + j, none⟩ a) base ok (.slice (some ⟨g, 0, none⟩) n cap) l (i : Int) oki (c.take j ++ [a] ++ c.drop (j + 1)) :=
  (Kd.H_seg h (Int.natCast_nonneg i) h1 (seg := [a]) (j := j) hj (one1 a ha)).1
theorem k85_E : k85.E = [] := rfl
theorem string_E : Kd.string.E = [] := rfl
set_option maxHeartbeats 8000000 in
set_option maxRecDepth 100000 in
theorem markItemS_calls (w0 w : World) (ok : Nat → Prop) (A : Option Addr) (c : Nat) (l : List S48) (k0 : Int) (hB : Below w0.heap.size w0 w) (hS : Kd.S k48 48 w w0.heap.size ok (.slice A l.length c) l) (h0 : 0 ≤ k0) (h1 : k0 + mkTot l ≤ 100000000) :
    Calls Try.prog 25 #[.slice A l.length c, .int .i64 k0] w fun e w' => e = .returned (.int .i64 (k0 + mkTot l)) ∧ Below w0.heap.size w0 w' ∧ Kept w w' ok := by
  have hu48 := Try.underlying48
  have hu45 := Try.underlying45
  go_enter Try.func25, Try.ntmps25
  go_wp2
  go_loopg [1, 5] (l.length) (fun kq v1 v5 w' => ∃ (i : Nat) (kk : Int) (l' : List S48), v1 = .int .i64 kk ∧ v5 = .int .i64 (i : Int) ∧ Aside0 (i + kq = l.length) ∧ Aside0 (0 ≤ kk ∧ kk + mkTot (l'.drop i) = k0 + mkTot l) ∧ Aside0 (l'.length = l.length) ∧ Aside0 (Below w0.heap.size w0 w') ∧ Aside0 (Kept w w' ok) ∧ Aside0 (Kd.S k48 48 w' w0.heap.size ok (.slice A l.length c) l'))
  case atStart => exact ⟨0, k0, l, rfl, rfl, ⟨Nat.zero_add _⟩, ⟨h0, rfl⟩, ⟨rfl⟩, ⟨hB⟩, ⟨Kept.refl _ _⟩, ⟨hS⟩⟩
  case round =>
    clear hS hB
    obtain ⟨i, kk, l', rfl, rfl, hk, hK, hL, hB, hKp, hS⟩ := hrel
    have hkk := hk.out
    have hll := hL.out
    have hK1 := hK.out
    by_cases ci : i < l.length
    · cases gk with
      | zero => exact absurd hkk (by omega)
      | succ k1 =>
      obtain ⟨g, cap, e5, hbg, hlg, cells5, hcg⟩ := Kd.R_form (Kd.S_R hS.out) (by omega)
      injection e5 with eA en ec
      subst eA
      subst ec
      clear hcg hlg en
      have hokg : ok g := (Kd.S_R hS.out).1 g rfl
      have hi0 : (0 : Int) ≤ (i : Int) := by omega
      have hi1 : (i : Int) < (l.length : Int) := by omega
      have hi2 : i < l'.length := by omega
      obtain ⟨oki, cs, hcl, hM, hcc, hfr, hoki, hH⟩ := Kd.S_elem hS.out z48 (i : Int) hi0 hi1
      have hXg : l'.getD (i : Int).toNat z48 = l'[i] := by rw [Int.toNat_natCast, List.getD_eq_getElem?_getD, List.getElem?_eq_getElem hi2]; rfl
      rw [hXg] at hM
      have hdr := List.drop_eq_getElem_cons hi2
      rw [hdr, mkTot] at hK1
      generalize l'[i] = X at hM hK1
      clear hdr hXg
      obtain ⟨v3, v5, rfl, hr3, hr5⟩ := k48_openM hM
      obtain ⟨A3, c3, e3⟩ := Kd.R_slice hr3
      subst e3
      obtain ⟨A5, c5, e5⟩ := Kd.R_slice hr5
      subst e5
      have hat := H_at hH hi0 hi1
      have hx_0 : wr.cell? ⟨g, i * 9, none⟩ = some (Value.int .i64 X.f0.f0) := hat.1 0 _ rfl
      have hxf_0 : wr.frozen? ⟨g, i * 9, none⟩ = false := hat.2 0
      have hx_1 : wr.cell? ⟨g, i * 9 + 1, none⟩ = some (Value.int .i64 X.f0.f1) := hat.1 1 _ rfl
      have hxf_1 : wr.frozen? ⟨g, i * 9 + 1, none⟩ = false := hat.2 1
      clear hcl hM hcc hfr hat
      have hne : ∀ k, oki k → k ≠ g := fun k hk => (hoki k hk).2
      have P1 : (0 ≤ (i : Int)) = True := eq_true (by omega)
      have Q1 : ((i : Int) < (l.length : Int)) = True := eq_true (by omega)
      have ei1 : wrap64 ((i : Int) + 1) = ((i + 1 : Nat) : Int) := by have hz := mkTot_len l; exact (Pure.wrap_id ((i : Int) + 1) (by omega) (by omega)).trans (Int.natCast_succ i).symm
      have ew1 : wrap64 (kk + 1) = kk + 1 := Pure.wrap_id _ (by omega) (by omega)
      have ew2 : wrap64 (kk + 1 + 1) = kk + 1 + 1 := Pure.wrap_id _ (by omega) (by omega)
      have ew3 : wrap64 (kk + 1 + 1 + 1) = kk + 1 + 1 + 1 := Pure.wrap_id _ (by omega) (by omega)
      have hl3 : X.f0.f3.length ≤ 100000000 := by omega
      have hl5 : X.f1.length ≤ 100000000 := by omega
      obtain ⟨t2, kf2, ht2⟩ := Pure.markText_ex (kk + 1 + 1) (by omega)
      obtain ⟨r3, kf3, ht3⟩ := Pure.markS_f X.f0.f3 (kk + 1 + 1 + 1) hl3 (by omega) (by omega)
      obtain ⟨q3, hq3⟩ : ∃ q3 : Int, q3 = kk + 1 + 1 + 1 + (X.f0.f3.length : Int) := ⟨_, rfl⟩
      rw [← hq3] at ht3
      have ew4 : wrap64 (q3 + 1) = q3 + 1 := Pure.wrap_id _ (by omega) (by omega)
      obtain ⟨t4, kf4, ht4⟩ := Pure.markText_ex q3 (by omega)
      obtain ⟨r5, kf5, ht5⟩ := Pure.markV_f X.f1 (q3 + 1) hl5 (by omega) (by omega)
      obtain ⟨q7, hq7⟩ : ∃ q7 : Int, q7 = q3 + 1 + 3 * (X.f1.length : Int) := ⟨_, rfl⟩
      rw [← hq7] at ht5
      have ew5 : wrap64 (q7 + 1) = q7 + 1 := Pure.wrap_id _ (by omega) (by omega)
      have ew6 : wrap64 (q7 + 1 + 1) = q7 + 1 + 1 := Pure.wrap_id _ (by omega) (by omega)
      have ew7 : wrap64 (q7 + 1 + 1 + 1) = q7 + 1 + 1 + 1 := Pure.wrap_id _ (by omega) (by omega)
      have HK2 : Aside0 (i + 1 + k1 = l.length ∧ 0 ≤ q7 + 1 + 1 + 1 ∧ q7 + 1 + 1 + 1 + mkTot (l'.drop (i + 1)) = k0 + mkTot l) := ⟨by omega, by omega, by omega⟩
      have HT2 := Aside0.mk (ht2 kf2 (Nat.le_refl _))
      have HT3 := Aside0.mk ht3
      have HT4 := Aside0.mk (ht4 kf4 (Nat.le_refl _))
      have HT5 := Aside0.mk ht5
      have HI := Aside0.mk (And.intro hi0 hi1)
      have HNE := Aside0.mk hne
      have HOKI := Aside0.mk hoki
      have HOG := Aside0.mk hokg
      have HBG := Aside0.mk hbg
      have hH0 : Kd.H k48 48 (wr.setCell ⟨g, i * 9, none⟩ (.int .i64 kk)) w0.heap.size ok (.slice (some ⟨g, 0, none⟩) l.length c) l' i oki [.int .i64 kk, .int .i64 X.f0.f1, .string X.f0.f2, .slice A3 X.f0.f3.length c3, .string X.f0.f4, .slice A5 X.f1.length c5, .int .i64 X.f2, .int .i64 X.f3, .bool X.f4] := (H_put hH hi1 (.int .i64 kk) rfl 0 (by decide))
      have hH1 : Kd.H k48 48 ((wr.setCell ⟨g, i * 9, none⟩ (.int .i64 kk)).setCell ⟨g, i * 9 + 1, none⟩ (.int .i64 (kk + 1))) w0.heap.size ok (.slice (some ⟨g, 0, none⟩) l.length c) l' i oki [.int .i64 kk, .int .i64 (kk + 1), .string X.f0.f2, .slice A3 X.f0.f3.length c3, .string X.f0.f4, .slice A5 X.f1.length c5, .int .i64 X.f2, .int .i64 X.f3, .bool X.f4] := (H_put hH0 hi1 (.int .i64 (kk + 1)) rfl 1 (by decide))
      have HH1 := Aside0.mk hH1
      have HR3 := Aside0.mk (show Kd.R Kd.string 9 ((wr.setCell ⟨g, i * 9, none⟩ (.int .i64 kk)).setCell ⟨g, i * 9 + 1, none⟩ (.int .i64 (kk + 1))) w0.heap.size oki _ _ from Kd.R_far (Kd.R_far hr3 hne _) hne _)
      have HR5 := Aside0.mk (show Kd.R k85 85 ((wr.setCell ⟨g, i * 9, none⟩ (.int .i64 kk)).setCell ⟨g, i * 9 + 1, none⟩ (.int .i64 (kk + 1))) w0.heap.size oki _ _ from Kd.R_far (Kd.R_far hr5 hne _) hne _)
      have HB1 := Aside0.mk (show Below w0.heap.size w0 ((wr.setCell ⟨g, i * 9, none⟩ (.int .i64 kk)).setCell ⟨g, i * 9 + 1, none⟩ (.int .i64 (kk + 1))) from below_set (below_set hB.out hbg) hbg)
      have HK1 := Aside0.mk (show Kept w ((wr.setCell ⟨g, i * 9, none⟩ (.int .i64 kk)).setCell ⟨g, i * 9 + 1, none⟩ (.int .i64 (kk + 1))) ok from (hKp.out.setCell (.inl hokg) _).setCell (.inl hokg) _)
      have H3K : ∀ k, (Value.slice A3 X.f0.f3.length c3).ownBlock = some k → oki k := hr3.1
      have H5K : ∀ k, (Value.slice A5 X.f1.length c5).ownBlock = some k → oki k := hr5.1
      have HO3 := Aside0.mk H3K
      have HO5 := Aside0.mk H5K
      clear hq3 hq7 hH hH0 hH1 hr3 hr5 hB hKp hS hk hkk hK hK1 hi0 hi1 hne hoki hokg hbg ht2 ht3 ht4 ht5 hl3 hl5 H3K H5K
      go_wp2_with (first | (go_at_call 31; (with_reducible refine (laws_markText.calls kf2 _ t2 _ HT2.out).mono ?_); rintro e w2 ⟨rfl, hb⟩; have HH2 := Aside0.mk (Kd.H_below HH1.out hb); have hat2 := H_at HH2.out HI.out.1 HI.out.2; have hy_2 : w2.cell? ⟨g, i * 9 + 2, none⟩ = some (Value.string X.f0.f2) := hat2.1 2 _ rfl; have hyf_2 : w2.frozen? ⟨g, i * 9 + 2, none⟩ = false := hat2.2 2; have hy_3 : w2.cell? ⟨g, i * 9 + 3, none⟩ = some (Value.slice A3 X.f0.f3.length c3) := hat2.1 3 _ rfl; have hyf_3 : w2.frozen? ⟨g, i * 9 + 3, none⟩ = false := hat2.2 3; clear hat2; have HR32 := Aside0.mk (Kd.R_below HR3.out hb); have HR52 := Aside0.mk (Kd.R_below HR5.out hb); have HB2 := Aside0.mk (below_step HB1.out hb); have HK2b := Aside0.mk (HK1.out.below hb); clear hb) | (go_at_call 32; (with_reducible refine (laws_markStringS.calls kf3 (fun k => oki k ∧ ∃ cells, (w2.setCell ⟨g, i * 9 + 2, none⟩ (.string t2)).heap[k]? = some (.cells cells 9 (0, 0))) _ X.f0.f3 _ q3 r3 w0 _ (below_set HB2.out HBG.out) (pick_ty string_E (Kd.R_far HR32.out HNE.out _)) HT3.out).mono ?_); rintro e w4 ⟨rfl, hR, hb, hk⟩; have hH3 : Kd.H k48 48 (w2.setCell ⟨g, i * 9 + 2, none⟩ (.string t2)) w0.heap.size ok (.slice (some ⟨g, 0, none⟩) l.length c) l' i oki [.int .i64 kk, .int .i64 (kk + 1), .string t2, .slice A3 X.f0.f3.length c3, .string X.f0.f4, .slice A5 X.f1.length c5, .int .i64 X.f2, .int .i64 X.f3, .bool X.f4] := (H_put HH2.out HI.out.2 (.string t2) rfl 2 (by decide)); have HH4 := Aside0.mk (Kd.H_kept hH3 hk (fun k _ hn hp => hn hp.1)); clear hH3; have hat4 := H_at HH4.out HI.out.1 HI.out.2; clear hat4; have HR34 := Aside0.mk (R_tight string_E hR HO3.out); have HR54 := Aside0.mk (R_by k85_E (Kd.R_far HR52.out HNE.out _) hk (fun k hp => hp.2.elim fun cc hc => ⟨cc, 9, hc, by decide⟩)); have HB4 := Aside0.mk hb; have HK4 := Aside0.mk ((HK2b.out.setCell (.inl HOG.out) _).then_ hk (fun k hp => .inl (HOKI.out k hp.1).1)); clear hb hk hR) | (go_at_call 31; (with_reducible refine (laws_markText.calls kf4 _ t4 _ HT4.out).mono ?_); rintro e w5 ⟨rfl, hb⟩; have HH5 := Aside0.mk (Kd.H_below HH4.out hb); have hat5 := H_at HH5.out HI.out.1 HI.out.2; have hz_4 : w5.cell? ⟨g, i * 9 + 4, none⟩ = some (Value.string X.f0.f4) := hat5.1 4 _ rfl; have hzf_4 : w5.frozen? ⟨g, i * 9 + 4, none⟩ = false := hat5.2 4; have hz_5 : w5.cell? ⟨g, i * 9 + 5, none⟩ = some (Value.slice A5 X.f1.length c5) := hat5.1 5 _ rfl; have hzf_5 : w5.frozen? ⟨g, i * 9 + 5, none⟩ = false := hat5.2 5; clear hat5; have HR35 := Aside0.mk (Kd.R_below HR34.out hb); have HR55 := Aside0.mk (Kd.R_below HR54.out hb); have HB5 := Aside0.mk (below_step HB4.out hb); have HK5 := Aside0.mk (HK4.out.below hb); clear hb) | (go_at_call 33; (with_reducible refine (laws_markVerdictS.calls kf5 (fun k => oki k ∧ ∃ cells, (w5.setCell ⟨g, i * 9 + 4, none⟩ (.string t4)).heap[k]? = some (.cells cells 85 (0, 0))) _ X.f1 _ q7 r5 w0 _ (below_set HB5.out HBG.out) (pick_ty k85_E (Kd.R_far HR55.out HNE.out _)) HT5.out).mono ?_); rintro e w7 ⟨rfl, hR, hb, hk⟩; have hH6 : Kd.H k48 48 (w5.setCell ⟨g, i * 9 + 4, none⟩ (.string t4)) w0.heap.size ok (.slice (some ⟨g, 0, none⟩) l.length c) l' i oki [.int .i64 kk, .int .i64 (kk + 1), .string t2, .slice A3 X.f0.f3.length c3, .string t4, .slice A5 X.f1.length c5, .int .i64 X.f2, .int .i64 X.f3, .bool X.f4] := (H_put HH5.out HI.out.2 (.string t4) rfl 4 (by decide)); have HH7 := Aside0.mk (Kd.H_kept hH6 hk (fun k _ hn hp => hn hp.1)); clear hH6; have hat7 := H_at HH7.out HI.out.1 HI.out.2; have hu_6 : w7.cell? ⟨g, i * 9 + 6, none⟩ = some (Value.int .i64 X.f2) := hat7.1 6 _ rfl; have huf_6 : w7.frozen? ⟨g, i * 9 + 6, none⟩ = false := hat7.2 6; have hu_7 : w7.cell? ⟨g, i * 9 + 7, none⟩ = some (Value.int .i64 X.f3) := hat7.1 7 _ rfl; have huf_7 : w7.frozen? ⟨g, i * 9 + 7, none⟩ = false := hat7.2 7; have hu_8 : w7.cell? ⟨g, i * 9 + 8, none⟩ = some (Value.bool X.f4) := hat7.1 8 _ rfl; have huf_8 : w7.frozen? ⟨g, i * 9 + 8, none⟩ = false := hat7.2 8; clear hat7; have HR57 := Aside0.mk (R_tight k85_E hR HO5.out); have HR37 := Aside0.mk (R_by string_E (Kd.R_far HR35.out HNE.out _) hk (fun k hp => hp.2.elim fun cc hc => ⟨cc, 85, hc, by decide⟩)); have HB7 := Aside0.mk hb; have HK7 := Aside0.mk ((HK5.out.setCell (.inl HOG.out) _).then_ hk (fun k hp => .inl (HOKI.out k hp.1).1)); clear hb hk hR))
      have hF : ∀ bb : Bool, Kd.S k48 48 (((w7.setCell ⟨g, i * 9 + 6, none⟩ (.int .i64 q7)).setCell ⟨g, i * 9 + 7, none⟩ (.int .i64 (q7 + 1))).setCell ⟨g, i * 9 + 8, none⟩ (.bool bb)) w0.heap.size ok (.slice (some ⟨g, 0, none⟩) l.length c) (l'.set i (⟨⟨kk, kk + 1, t2, r3, t4⟩, r5, q7, q7 + 1, bb⟩ : S48)) := by
        intro bb
        have f6 : Kd.H k48 48 (w7.setCell ⟨g, i * 9 + 6, none⟩ (.int .i64 q7)) w0.heap.size ok (.slice (some ⟨g, 0, none⟩) l.length c) l' i oki [.int .i64 kk, .int .i64 (kk + 1), .string t2, .slice A3 X.f0.f3.length c3, .string t4, .slice A5 X.f1.length c5, .int .i64 q7, .int .i64 X.f3, .bool X.f4] := (H_put HH7.out HI.out.2 (.int .i64 q7) rfl 6 (by decide))
        have f7 : Kd.H k48 48 ((w7.setCell ⟨g, i * 9 + 6, none⟩ (.int .i64 q7)).setCell ⟨g, i * 9 + 7, none⟩ (.int .i64 (q7 + 1))) w0.heap.size ok (.slice (some ⟨g, 0, none⟩) l.length c) l' i oki [.int .i64 kk, .int .i64 (kk + 1), .string t2, .slice A3 X.f0.f3.length c3, .string t4, .slice A5 X.f1.length c5, .int .i64 q7, .int .i64 (q7 + 1), .bool X.f4] := (H_put f6 HI.out.2 (.int .i64 (q7 + 1)) rfl 7 (by decide))
        have f8 : Kd.H k48 48 (((w7.setCell ⟨g, i * 9 + 6, none⟩ (.int .i64 q7)).setCell ⟨g, i * 9 + 7, none⟩ (.int .i64 (q7 + 1))).setCell ⟨g, i * 9 + 8, none⟩ (.bool bb)) w0.heap.size ok (.slice (some ⟨g, 0, none⟩) l.length c) l' i oki [.int .i64 kk, .int .i64 (kk + 1), .string t2, .slice A3 X.f0.f3.length c3, .string t4, .slice A5 X.f1.length c5, .int .i64 q7, .int .i64 (q7 + 1), .bool bb] := (H_put f7 HI.out.2 (.bool bb) rfl 8 (by decide))
        exact Kd.H_back f8 (x' := (⟨⟨kk, kk + 1, t2, r3, t4⟩, r5, q7, q7 + 1, bb⟩ : S48)) (k48_mkM _ _ _ (⟨⟨kk, kk + 1, t2, r3, t4⟩, r5, q7, q7 + 1, bb⟩ : S48) (Kd.R_far (Kd.R_far (Kd.R_far HR37.out HNE.out _) HNE.out _) HNE.out _) (Kd.R_far (Kd.R_far (Kd.R_far HR57.out HNE.out _) HNE.out _) HNE.out _)) (fun _ h => h)
      clear HH7 HR37 HR57
      go_roundg k1
      case measure => omega
      case rel => exact ⟨i + 1, q7 + 1 + 1 + 1, l'.set i (⟨⟨kk, kk + 1, t2, r3, t4⟩, r5, q7, q7 + 1, _⟩ : S48), by rw [ew7], by first | rfl | rw [ei1], ⟨HK2.out.1⟩, ⟨HK2.out.2.1, by rw [List.drop_set_of_lt (Nat.lt_succ_self i)]; exact HK2.out.2.2⟩, ⟨by rw [List.length_set]; exact hL.out⟩, ⟨below_set (below_set (below_set HB7.out HBG.out) HBG.out) HBG.out⟩, ⟨((HK7.out.setCell (.inl HOG.out) _).setCell (.inl HOG.out) _).setCell (.inl HOG.out) _⟩, ⟨hF _⟩⟩
    · have ei : i = l.length := by omega
      have hd : mkTot (l'.drop i) = 0 := by rw [List.drop_of_length_le (by omega)]; rfl
      have ek : kk = k0 + mkTot l := by omega
      clear hk hkk hd
      subst ek
      go_wp2
      go_ret
      exact ⟨rfl, hB.out, hKp.out⟩
/-- The blocks that marks may change: those of items, of texts and of verdicts. -/
def MT (w : World) (k : Nat) : Prop := ∃ q, (q = 48 ∨ q = 9 ∨ q = 85) ∧ ∃ cells, w.heap[k]? = some (.cells cells q (0, 0))
theorem k48_E : ∀ q, q ∈ 48 :: k48.E → q = 48 ∨ q = 9 ∨ q = 85 := by
  intro q hq
  have e : k48.E = [9, 85] := rfl
  rw [e] at hq
  simpa using hq
theorem MT_row3 {W W2 : World} {base : Nat} {ok : Nat → Prop} {v : Value} {xs : List Int} (h : (Kd.int .i64).R 3 W base ok v xs) (hk : Kept W W2 (MT W)) : (Kd.int .i64).R 3 W2 base ok v xs :=
  R_by rfl h hk (fun k hm => by obtain ⟨q, hq, cells, hc⟩ := hm; exact ⟨cells, q, hc, by rcases hq with rfl | rfl | rfl <;> decide⟩)
theorem MT_blk {W W2 : World} {g t : Nat} {cs : Array Value} (h : W.heap[g]? = some (.cells cs t (0, 0))) (hk : Kept W W2 (MT W)) (ht : t ≠ 48 ∧ t ≠ 9 ∧ t ≠ 85) : W2.heap[g]? = some (.cells cs t (0, 0)) := by
  refine (hk.2 g (blk_lt h) (fun hm => ?_)).trans h
  obtain ⟨q, hq, cells, hc⟩ := hm
  rw [h] at hc
  injection Option.some.inj hc with e1 e2
  rcases hq with rfl | rfl | rfl
  · exact ht.1 e2
  · exact ht.2.1 e2
  · exact ht.2.2 e2
def laws_markQueue.f (l : List S48) (next : Int) (k0 : Int) : Option Int := if 0 ≤ k0 ∧ k0 + mkTot l ≤ 100000000 then some (k0 + mkTot l) else none
set_option maxHeartbeats 4000000 in
set_option maxRecDepth 100000 in
theorem markQueue_calls (w0 : World) {w : World} {ok : Nat → Prop} {A : Option Addr} {c : Nat} (l : List S48) (next k0 r : Int) (hB : Below w0.heap.size w0 w) (hS : Kd.S k48 48 w w0.heap.size ok (.slice A l.length c) l) (h : laws_markQueue.f l next k0 = some r) :
    Calls Try.prog 13 #[.agg #[.slice A l.length c, .int .i64 next], .int .i64 k0] w fun e w' => e = .returned (.int .i64 r) ∧ Below w0.heap.size w0 w' ∧ Kept w w' (MT w) := by
  have hu32 := Try.underlying32
  unfold laws_markQueue.f at h
  split at h
  case isFalse => cases h
  rename_i hb0
  obtain rfl := Option.some.inj h
  have hS2 := Kd.S_mono (Kd.S_bound hS) (ok' := MT w) (fun k hk => by obtain ⟨_, _, _, q, hq, cells, hc⟩ := hk; exact ⟨q, k48_E q hq, cells, hc⟩)
  go_enter Try.func13, Try.ntmps13
  go_wp2_with (first
    | ((with_reducible refine gate_dst (N := 2) rfl ?_); refine box_event ?hg (N := 2) ?hd (cs := #[.slice A l.length c, .int .i64 next]) (t := 32) ?hr ?_; (case hd => rfl); (case hg => rfl); (case hr => first | (go_simp; done) | (go_simp; rfl)); intro gq hg w3 hbox hb; have hq0 : w3.cell? ⟨gq, 0, none⟩ = some (.slice A l.length c) := (blk_cell hbox 0).trans rfl; have HB := Aside0.mk hb; clear hbox hb hg)
    | (go_at_call 25; (with_reducible refine (markItemS_calls w0 _ (MT w) A c l k0 (below_step hB HB.out) (Kd.S_below hS2 HB.out) hb0.1 hb0.2).mono ?_); rintro e w4 ⟨rfl, hb4, hk4⟩; have HB4 := Aside0.mk hb4; have HK4 := Aside0.mk hk4; clear hb4 hk4))
  go_ret
  exact ⟨rfl, HB4.out, (Kept.of_below HB.out (MT w)).then_ HK4.out (fun _ hk => .inl hk)⟩
end Go.Proofs.Ytnhhbdhkhdbanaa.X
