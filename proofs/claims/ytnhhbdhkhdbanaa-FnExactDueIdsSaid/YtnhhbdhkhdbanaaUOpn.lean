/- Arguments of any plain type, opened: what reads as data at a type has cells of the printed kind, and its numbers are well formed, its texts within the model's bound. No condition: lemmas for the rows of this seat. -/
import Derived.Test.YtnhhbdhkhdbanaaUV
import Derived.ProofKit
import Derived.OpenShut
import Derived.Lib.SmallJoins
import Derived.Handed
import Derived.SizedLaws
import Derived.Stop.Joined
namespace Go.Proofs.Ytnhhbdhkhdbanaa.Opn
open Go.RowKit Go.ChangeShapes Go.WideShapes Go.Proofs.YtnhhbdhkhdbanaaW.PrintWords

/-- Cells that read as data of type t are of kind d; what they say meets Φ. -/
def Opens (P : Program) (t : TypeId) {α : Type} (d : Kd α) (Φ : α → Prop) : Prop :=
  ∀ (H : Type) (enc : TypeId × Value → H) (W : World) (sp : Nat → Bool) (held : Bool) (n : Nat) (cs : List Value) (x : DataW H × List MemPlace), DataW.trod enc P W 0 sp held n t cs = some x → ∃ y : α, d.K W y cs ∧ Φ y

theorem opens_int {P : Program} {t : TypeId} {k : IntKind} (ht : P.underlying t = some (.int k)) : Opens P t (Kd.int k) (fun n => (Lit.int k n).wf = true) := by
  intro H enc W sp held n cs x h
  obtain ⟨m, rfl, _, hw⟩ := DataW.trod_int ht h
  exact ⟨m, rfl, hw⟩
theorem opens_bool {P : Program} {t : TypeId} (ht : P.underlying t = some .bool) : Opens P t Kd.bool (fun _ => True) := by
  intro H enc W sp held n cs x h
  obtain ⟨m, rfl, _⟩ := DataW.trod_bool ht h
  exact ⟨m, rfl, trivial⟩
theorem opens_string {P : Program} {t : TypeId} (ht : P.underlying t = some .string) : Opens P t Kd.string (fun s => s.size ≤ maxLen) := by
  intro H enc W sp held n cs x h
  obtain ⟨m, rfl, _, hw⟩ := DataW.trod_string ht h
  exact ⟨m, rfl, hw⟩

/-- A list out of its elements. -/
theorem list_of {α : Type} {Q : Nat → α → Prop} : ∀ n : Nat, (∀ i, i < n → ∃ y, Q i y) → ∃ ys : List α, ys.length = n ∧ ∀ i y, ys[i]? = some y → Q i y
  | 0, _ => ⟨[], rfl, fun i y h => by simp at h⟩
  | n + 1, h => by
    obtain ⟨ys, hl, hq⟩ := list_of n (fun i hi => h i (by omega))
    obtain ⟨y, hy⟩ := h n (by omega)
    refine ⟨ys ++ [y], by simp [hl], fun i z hz => ?_⟩
    rcases Nat.lt_or_ge i ys.length with hi | hi
    · rw [List.getElem?_append_left hi] at hz
      exact hq i z hz
    · have hi' : i = n := by
        have := (List.getElem?_eq_some_iff.1 hz).1
        rw [List.length_append, List.length_singleton] at this
        omega
      subst hi'
      rw [List.getElem?_append_right hi, hl, Nat.sub_self] at hz
      simp at hz
      subst hz
      exact hy

theorem cells_at {w : World} {a : Addr} {n : Nat} {cs : List Value} (h : w.cells? 0 a n = some cs) : cs.length = n ∧ ∀ i u, cs[i]? = some u → w.cell? (a.add i) = some u := by
  unfold World.cells? at h
  rw [if_pos (Nat.zero_le _)] at h
  refine ⟨by simpa using mapM_some_length h, fun i u hu => ?_⟩
  have hi : i < cs.length := (List.getElem?_eq_some_iff.1 hu).1
  have hl : cs.length = n := by simpa using mapM_some_length h
  have := mapM_some_get h i i (by rw [List.getElem?_range (by omega)])
  rw [this, hu]

theorem add_add (a : Addr) (i j : Nat) : (a.add i).add j = a.add (i + j) := by
  unfold Addr.add
  by_cases h1 : i = 0 <;> by_cases h2 : j = 0 <;> simp [h1, h2, Nat.add_assoc]

theorem opens_slice {P : Program} {t e : TypeId} {α : Type} {d : Kd α} {Φ : α → Prop} (ht : P.underlying t = some (.slice e)) (hc : P.cellsOf e = d.sz) (h : Opens P e d Φ) :
    Opens P t (Kd.slice e d) (fun xs => xs.length ≤ maxLen ∧ ∀ y ∈ xs, Φ y) := by
  intro H enc W sp held n cs x hx
  rcases DataW.trod_slice ht hx with ⟨rfl, _⟩ | ⟨a, len, cap, elems, rest, m, _, rfl, _, _, hl, hm, hel, hat, _, _⟩
  · exact ⟨[], ⟨none, 0, rfl, Nat.le_refl _, Kd.C_nil d W⟩, by simp, fun y hy => by simp at hy⟩
  · have key : ∀ i, i < len → ∃ y, Φ y ∧ ∃ c, c.length = d.sz ∧ d.K W y c ∧ ∀ j u, c[j]? = some u → W.cell? (a.add (i * d.sz + j)) = some u := by
      intro i hi
      have h1 := hat i hi
      rw [List.getElem?_eq_getElem (by omega)] at h1
      obtain ⟨c, hc1, hc2⟩ := Option.bind_eq_some_iff.1 h1
      obtain ⟨y, hK, hΦ⟩ := h H enc W sp held m c _ hc2
      obtain ⟨hlen, hcell⟩ := cells_at hc1
      refine ⟨y, hΦ, c, by rw [hlen, hc], hK, fun j u hu => ?_⟩
      have := hcell j u hu
      rw [add_add, hc] at this
      exact this
    obtain ⟨ys, hyl, hys⟩ := list_of len key
    subst hyl
    refine ⟨ys, ⟨some a, cap, rfl, hl, rfl, by simp only [maxLen] at hm; omega, fun _ => ⟨a, rfl, fun j p hj => (hys j p hj).2⟩⟩, by omega, fun y hy => ?_⟩
    obtain ⟨i, hi, rfl⟩ := List.getElem_of_mem hy
    exact (hys i _ (List.getElem?_eq_getElem hi)).1

/-- Fields from a place on are of kind d. -/
def FOpens (P : Program) (fs : List (Nat × TypeId)) (o : Nat) {α : Type} (d : Kd α) (Φ : α → Prop) : Prop :=
  ∀ (H : Type) (enc : TypeId × Value → H) (W : World) (sp : Nat → Bool) (held : Bool) (n : Nat) (cs : List Value), cs.length = o + d.sz →
    (∀ q ∈ fs, ∃ x, DataW.trod enc P W 0 sp held n q.2 ((cs.drop q.1).take (P.cellsOf q.2)) = some x) → ∃ y : α, d.K W y (cs.drop o) ∧ Φ y

theorem fopens_one {P : Program} {t : TypeId} {o : Nat} {α : Type} {d : Kd α} {Φ : α → Prop} (h : Opens P t d Φ) (hc : P.cellsOf t = d.sz) : FOpens P [(o, t)] o d Φ := by
  intro H enc W sp held n cs hl hq
  obtain ⟨x, hx⟩ := hq (o, t) (by simp)
  rw [List.take_of_length_le (by simp only [List.length_drop]; omega)] at hx
  exact h H enc W sp held n _ x hx
theorem fopens_pair {P : Program} {t : TypeId} {o o' : Nat} {fs : List (Nat × TypeId)} {α β : Type} {a : Kd α} {b : Kd β} {Φ : α → Prop} {Ψ : β → Prop} (h : Opens P t a Φ) (hc : P.cellsOf t = a.sz) (ho : o' = o + a.sz) (hr : FOpens P fs o' b Ψ) :
    FOpens P ((o, t) :: fs) o (Kd.pair a b) (fun x => Φ x.1 ∧ Ψ x.2) := by
  intro H enc W sp held n cs hl hq
  have hsz : (Kd.pair a b).sz = a.sz + b.sz := rfl
  obtain ⟨x, hx⟩ := hq (o, t) (by simp)
  obtain ⟨y, hy, hΦ⟩ := h H enc W sp held n _ x hx
  obtain ⟨z, hz, hΨ⟩ := hr H enc W sp held n cs (by omega) (fun q hm => hq q (List.mem_cons_of_mem _ hm))
  refine ⟨(y, z), ⟨(cs.drop o).take a.sz, cs.drop o', ?_, by rw [← hc]; exact hy, hz⟩, hΦ, hΨ⟩
  subst ho
  rw [← List.drop_drop, List.take_append_drop]
theorem opens_struct {P : Program} {t : TypeId} {fs : Array Field} {l : List (Nat × TypeId)} {α : Type} {d : Kd α} {Φ : α → Prop} (ht : P.underlying t = some (.struct fs)) (hl : fs.toList.map (fun f => (f.offset, f.type)) = l) (hc : P.cellsOf t = d.sz)
    (h : FOpens P l 0 d Φ) : Opens P t d Φ := by
  intro H enc W sp held n cs x hx
  obtain ⟨xs, m, _, _, hlen, hn, hf⟩ := DataW.trod_struct ht hx
  have := h H enc W sp held m cs (by omega) (fun q hq => by
    rw [← hl] at hq
    obtain ⟨f, hfm, rfl⟩ := List.mem_map.1 hq
    obtain ⟨i, hi, rfl⟩ := List.getElem_of_mem hfm
    have h1 := hf i fs[i] (by simp at hi; simp [hi])
    have h2 : i < xs.length := by simp at hi; omega
    rw [List.getElem?_eq_getElem h2] at h1
    exact ⟨_, by simpa using h1⟩)
  simpa using this
theorem opens_iso {P : Program} {t : TypeId} {α β : Type} {d : Kd α} {Φ : α → Prop} {f : β → α} (g : α → β) (hg : ∀ a, f (g a) = a) (h : Opens P t d Φ) : Opens P t (Kd.iso d f) (fun b => Φ (f b)) := by
  intro H enc W sp held n cs x hx
  obtain ⟨y, hy, hΦ⟩ := h H enc W sp held n cs x hx
  exact ⟨g y, by show d.K W (f (g y)) cs; rw [hg]; exact hy, by show Φ (f (g y)); rw [hg]; exact hΦ⟩

/-- An argument by value: its cells, of the kind. -/
theorem open_val {P : Program} {t : TypeId} {fs : Array Field} {α : Type} {d : Kd α} {Φ : α → Prop} (ht : P.underlying t = some (.struct fs)) (h : Opens P t d Φ) {H : Type} {enc : TypeId × Value → H} {W : World} {r : Reach} {b0 : Nat} {sp : Nat → Bool} {held : Bool} {v : Value} {x : DataW H} {p : List MemPlace}
    (hv : Value.okWide P W r b0 t v) (hx : DataW.Trod enc P W 0 sp held t v x p) : ∃ (y : α) (cs : List Value), v = .agg cs.toArray ∧ d.K W y cs ∧ Φ y := by
  obtain ⟨cs, rfl, _⟩ := okWide_struct ht hv
  obtain ⟨fuel, hf⟩ := hx
  obtain ⟨y, hy, hΦ⟩ := h H enc W sp held fuel _ _ hf
  exact ⟨y, cs.toList, by simp, by simpa [Value.cells] using hy, hΦ⟩
/-- An argument that is a slice. -/
theorem open_sl {P : Program} {t e : TypeId} {α : Type} {d : Kd α} {Φ : List α → Prop} (ht : P.underlying t = some (.slice e)) (h : Opens P t (Kd.slice e d) Φ) {H : Type} {enc : TypeId × Value → H} {W : World} {r : Reach} {b0 : Nat} {sp : Nat → Bool} {held : Bool} {v : Value} {x : DataW H} {p : List MemPlace}
    (hv : Value.okWide P W r b0 t v) (hx : DataW.Trod enc P W 0 sp held t v x p) : ∃ (ys : List α) (A : Option Addr) (c : Nat), v = .slice A ys.length c ∧ ys.length ≤ c ∧ d.C W A ys.length ys ∧ Φ ys := by
  obtain ⟨a, len, cap, rfl⟩ := okWide_slice ht hv
  obtain ⟨fuel, hf⟩ := hx
  obtain ⟨ys, ⟨A, c, hcs, hl, hC⟩, hΦ⟩ := h H enc W sp held fuel _ _ hf
  simp only [Value.cells, List.cons.injEq, and_true] at hcs
  exact ⟨ys, A, c, by simpa using hcs, hl, hC, hΦ⟩

/-- The plain wrap of a row that lists variables, the world's shape kept. -/
theorem handed_shaped {H : Type} {enc : TypeId × Value → H} {a : Assume} {C : Checked} {os : Os} {f : FuncId} {fn : Func} {s : ChangeSpec} {conds : List PathCond} {apart fresh handsOn again : Bool} {X : World → Array Value → Prop}
    (hX : ∀ (w w' : World) (args : Array Value), w.heap = w'.heap → X w args → X w' args)
    (own : ownKnob C.prog.godebug = none) (started : os.Started) (noInit : C.prog.inits.idxOf? f = none) (hfn : C.prog.funcs[f]? = some fn)
    (witness : ∃ (w : World) (tape : Tape) (i : Input), w.os = os ∧ (w.forCall tape i).Shaped C.prog ∧ i.vars = [] ∧ Input.okWide C.prog (w.forCall tape i) .any w.heap.size f i ∧
      ((s.pre enc C.prog fn conds apart (w.forCall tape i).memory i.args ∧ X (w.forCall tape i).memory i.args) ∧ sizedMet enc C.prog fn (OpenSpec.ofChange s) apart (w.forCall tape i).memory i.args) ∧ a.holds C.prog (lone (Frame.enter C.prog f i.args .normal) [] (w.forCall tape i)))
    (contract : ∀ (W : World) (base : Nat) (args : Array Value) (ds gs : List (DataW H)) (before : List MemPlace),
      (∀ (j : Nat) t v, fn.params[j]? = some t → args[j]? = some v → Value.okWide C.prog W .any base t v) →
      DataW.Whole enc C.prog fn.params.toList s.vars apart W args.toList ds gs before →
      conds.all (PathCond.test C.prog ⟨fn.params.toList, ds, s.plain.varTypes C.prog, gs⟩) = true →
      W.ShapedOpen C.prog → X W args →
      Calls C.prog f args W fun e W' => ∃ v, e = .returned v ∧ s.post enc C.prog fn apart fresh handsOn again W args v W') :
    ReturnsInHanded a C os f .any (fun w args => (s.pre enc C.prog fn conds apart w args ∧ X w args) ∧ sizedMet enc C.prog fn (OpenSpec.ofChange s) apart w args) (s.post enc C.prog fn apart fresh handsOn again) := by
  refine returnsInHanded_of_calls own started noInit witness ?_
  intro w tape i _ hsh _ hok hpre _
  obtain ⟨_, _, _, fn', hfn', _, _, _, _, hval⟩ := hok
  have e : fn' = fn := Option.some.inj (hfn'.symm.trans hfn)
  subst e
  obtain ⟨⟨⟨ds, gs, before, hw, hc⟩, hx⟩, _⟩ := hpre
  have hw' := DataW.Whole.of_heap (w' := w.forCall tape i) (by rfl) hw
  refine (contract (w.forCall tape i) w.heap.size i.args ds gs before hval hw' hc hsh (hX _ _ _ (by rfl) hx)).mono fun e W' ⟨v, he, hp⟩ => ?_
  subst he
  exact ChangeSpec.post_blind hp
end Go.Proofs.Ytnhhbdhkhdbanaa.Opn
