/- What a row's own hypotheses give of unicode's tables: GlF, from the row's laid list. -/
import Derived.Test.YtnhhbdhkhdbanaaDoorLGlobF
import Derived.Test.YtnhhbdhkhdbanaaDoorRows
import Derived.Shelf.Vars
import Derived.KernelRfl
import Derived.OpenShut
import Derived.LaidSub
import Derived.Test.YtnhhbdhkhdbanaaDoorLOpn
import Derived.LaidMore
import Derived.WalkKit
import Derived.ProofKit
namespace Go.Proofs.YtnhhbdhkhdbanaaDoor.GlobIn
open Go Go.RowKit Go.Proofs.YtnhhbdhkhdbanaaDoorW.PrintWords
theorem asciiCells {w : World} (h : laidMet Tryd.prog [("unicode.asciiFold", Rows.laid_unicode_asciiFold)] w) : ∀ r q, (r, q) ∈ X.foldTab → w.cell? ⟨0, r, none⟩ = some (.int .u16 q) := by
  obtain ⟨ps, ⟨g, t, cs, fuel, p, q, hg, ht, hv, hd, _, _⟩, _, _⟩ := h
  obtain rfl := Option.some.inj ((show Tryd.prog.globalNamed "unicode.asciiFold" = some 0 by kernel_rfl).symm.trans hg)
  obtain rfl := Option.some.inj ((show (Tryd.prog.globals[0]?).map (·.type) = some 145 by kernel_rfl).symm.trans ht)
  obtain ⟨xs, m, _, ex, _, hl, hel⟩ := DataW.trod_array Tryd.underlying145 hd
  have c5 : Tryd.prog.cellsOf 144 = 1 := by kernel_rfl
  have e3 := (DataW.agg.inj (Prod.mk.inj ex).1).symm
  have key : ∀ r q : Nat, r < 128 → (xs.map (·.1))[r]? = some (.lit (.int .u16 q)) → w.cell? ⟨0, r, none⟩ = some (.int .u16 q) := by
    intro r q hr hx
    have hE := hel r hr
    rw [c5, Nat.mul_one, List.getElem?_eq_getElem (by omega)] at hE
    obtain ⟨z, e1, e2, _⟩ := DataW.trod_int Tryd.underlying144 hE
    rw [List.getElem?_map, List.getElem?_eq_getElem (by omega : r < xs.length), e2] at hx
    have hz : z = q := by simpa using hx
    rw [World.var?_cell hg hv r, ← hz]
    have : cs.toList[r]? = some (.int .u16 z) := by
      have h0 : ((cs.toList.drop r).take 1)[0]? = some (.int .u16 z) := by rw [e1]; rfl
      simpa using h0
    simpa using this
  intro r q hm
  simp only [X.foldTab, List.mem_cons, List.not_mem_nil, Prod.mk.injEq, or_false] at hm
  rcases hm with ⟨rfl, rfl⟩ | ⟨rfl, rfl⟩ | ⟨rfl, rfl⟩ | ⟨rfl, rfl⟩ | ⟨rfl, rfl⟩ | ⟨rfl, rfl⟩ | ⟨rfl, rfl⟩ | ⟨rfl, rfl⟩
  all_goals exact key _ _ (by decide) (by rw [e3]; rfl)
theorem orbCells {w : World} (h : laidMet Tryd.prog [("unicode.caseOrbit", Rows.laid_unicode_caseOrbit)] w) : ∃ b off cap, w.cell? ⟨1, 0, none⟩ = some (.slice (some ⟨b, off, none⟩) 94 cap) ∧ ∀ r q, (r, q) ∈ X.orbTab → w.cell? ⟨b, off + r, none⟩ = some (.int .u16 q) := by
  obtain ⟨ps, ⟨g, t, cs, fuel, p, q, hg, ht, hv, hd, _, _⟩, _, _⟩ := h
  obtain rfl := Option.some.inj ((show Tryd.prog.globalNamed "unicode.caseOrbit" = some 1 by kernel_rfl).symm.trans hg)
  obtain rfl := Option.some.inj ((show (Tryd.prog.globals[1]?).map (·.type) = some 146 by kernel_rfl).symm.trans ht)
  rcases DataW.trod_slice Tryd.underlying146 hd with ⟨_, hx⟩ | ⟨a, len, cap, elems, rest, n, _, hcs, hx, _, _, _, hlen, hel, _⟩
  · cases (Prod.mk.inj hx).1
  have e3 := (DataW.slice.inj (Prod.mk.inj hx).1).1.symm
  have hl94 : len = 94 := by
    have h1 := congrArg List.length e3
    rw [List.length_map] at h1
    rw [← hlen, h1]; rfl
  subst hl94
  have c2 : Tryd.prog.cellsOf 148 = 2 := by kernel_rfl
  have c1 : Tryd.prog.cellsOf 144 = 1 := by kernel_rfl
  rw [c2] at hel
  have key : ∀ i f q : Nat, i < 94 → (f = 0 ∨ f = 1) → (∃ x y : Int, (elems.map (·.1))[i]? = some (.agg [.lit (.int .u16 x), .lit (.int .u16 y)]) ∧ (q : Int) = if f = 0 then x else y) → w.cell? (a.add (i * 2 + f)) = some (.int .u16 q) := by
    rintro i f q hi hf ⟨x, y, hx, hq⟩
    have hE := hel i hi
    rw [List.getElem?_eq_getElem (by omega)] at hE
    obtain ⟨vs, hvs, hT⟩ := Option.bind_eq_some_iff.1 hE
    obtain ⟨hvl, hat⟩ := Opn.cells_at hvs
    obtain ⟨xs, m, _, ex, _, hxl, hfs⟩ := DataW.trod_struct Tryd.underlying148 hT
    have h0 : DataW.trod _ _ _ _ _ _ _ 144 ((vs.drop 0).take (Tryd.prog.cellsOf 144)) = _ := hfs 0 _ rfl
    have h1 : DataW.trod _ _ _ _ _ _ _ 144 ((vs.drop 1).take (Tryd.prog.cellsOf 144)) = _ := hfs 1 _ rfl
    have hxl2 : xs.length = 2 := hxl
    obtain ⟨p0, p1, rfl⟩ : ∃ p0 p1, xs = [p0, p1] := by
      match xs, hxl2 with
      | [p, q], _ => exact ⟨p, q, rfl⟩
    have h0 : DataW.trod _ _ _ _ _ _ _ 144 ((vs.drop 0).take (Tryd.prog.cellsOf 144)) = some p0 := h0
    have h1 : DataW.trod _ _ _ _ _ _ _ 144 ((vs.drop 1).take (Tryd.prog.cellsOf 144)) = some p1 := h1
    rw [List.getElem?_map, List.getElem?_eq_getElem (by omega : i < elems.length)] at hx
    obtain ⟨n0, e0, f0, _⟩ := DataW.trod_int Tryd.underlying144 h0
    obtain ⟨n1, e1, f1, _⟩ := DataW.trod_int Tryd.underlying144 h1
    rw [c1] at e0 e1
    have hx' : [p0, p1].map (·.1) = [.lit (.int .u16 x), .lit (.int .u16 y)] := by
      have := Option.some.inj hx
      rw [ex] at this
      exact DataW.agg.inj this
    rw [List.map_cons, List.map_cons, List.map_nil, f0, f1] at hx'
    simp only [List.cons.injEq, DataW.lit.injEq, Lit.int.injEq, true_and, and_true] at hx'
    obtain ⟨rfl, rfl⟩ := hx'
    have g0 : vs[0]? = some (.int .u16 n0) := by
      have := congrArg (·[0]?) e0
      simpa using this
    have g1 : vs[1]? = some (.int .u16 n1) := by
      have := congrArg (·[0]?) e1
      simpa using this
    rcases hf with rfl | rfl
    · have := hat 0 _ g0
      rw [Opn.add_add] at this
      rw [this]; simp only [if_true] at hq; rw [hq]
    · have := hat 1 _ g1
      rw [Opn.add_add] at this
      rw [this]; simp only [if_neg (by decide : ¬ (1 : Nat) = 0)] at hq; rw [hq]
  have hc0 := key 0 0 75 (by decide) (.inl rfl) ⟨75, 107, by rw [e3]; rfl, rfl⟩
  obtain ⟨b, off, spot⟩ := a
  have hspot : spot = none := by simpa [Addr.add] using World.cell?_spot hc0
  subst hspot
  refine ⟨b, off, cap, ?_, ?_⟩
  · have := World.var?_cell hg hv 0
    rw [Array.eq_one_of_toList hcs] at this
    simpa using this
  · intro r q hm
    simp only [X.orbTab, List.mem_cons, List.not_mem_nil, Prod.mk.injEq, or_false] at hm
    rcases hm with ⟨rfl, rfl⟩ | ⟨rfl, rfl⟩ | ⟨rfl, rfl⟩ | ⟨rfl, rfl⟩ | ⟨rfl, rfl⟩ | ⟨rfl, rfl⟩ | ⟨rfl, rfl⟩ | ⟨rfl, rfl⟩
    · exact key 47 0 966 (by decide) (.inl rfl) ⟨_, _, by rw [e3]; rfl, rfl⟩
    · exact key 23 0 837 (by decide) (.inl rfl) ⟨_, _, by rw [e3]; rfl, rfl⟩
    · exact key 11 0 452 (by decide) (.inl rfl) ⟨_, _, by rw [e3]; rfl, rfl⟩
    · exact key 5 0 197 (by decide) (.inl rfl) ⟨_, _, by rw [e3]; rfl, rfl⟩
    · exact key 8 0 304 (by decide) (.inl rfl) ⟨_, _, by rw [e3]; rfl, rfl⟩
    · exact key 10 0 383 (by decide) (.inl rfl) ⟨_, _, by rw [e3]; rfl, rfl⟩
    · exact key 9 0 305 (by decide) (.inl rfl) ⟨_, _, by rw [e3]; rfl, rfl⟩
    · exact key 10 1 83 (by decide) (.inr rfl) ⟨_, _, by rw [e3]; rfl, rfl⟩
theorem glF {w : World} {l : List (String × DataW Unit)} (_h0 : w.ShapedOpen Tryd.prog) (h : laidMetH Tryd.prog l w) (ha : l.filter (fun p => p.1 == "unicode.asciiFold") = [("unicode.asciiFold", Rows.laid_unicode_asciiFold)] := by kernel_rfl) (ho : l.filter (fun p => p.1 == "unicode.caseOrbit") = [("unicode.caseOrbit", Rows.laid_unicode_caseOrbit)] := by kernel_rfl) : X.GlF w := by
  have h1 := h.filter (fun p => p.1 == "unicode.asciiFold")
  have h2 := h.filter (fun p => p.1 == "unicode.caseOrbit")
  rw [ha, MakeChecks.laidMetH_plain _ _ _ (by kernel_rfl)] at h1
  rw [ho, MakeChecks.laidMetH_plain _ _ _ (by kernel_rfl)] at h2
  exact ⟨asciiCells h1, orbCells h2⟩
end Go.Proofs.YtnhhbdhkhdbanaaDoor.GlobIn
