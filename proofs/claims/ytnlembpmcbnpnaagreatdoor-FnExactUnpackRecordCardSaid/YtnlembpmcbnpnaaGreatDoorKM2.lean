/- Part 2 of the proof of laws.FnExactUnpackRecord: contracts of functions that it reaches, and laws of what these compute. No condition beyond what each theorem says. -/
import Derived.ArgAppend
import Derived.Below
import Derived.BigQuiet
import Derived.Deep.AppendLies
import Derived.Deep.CutBlock
import Derived.Deep.DeepCutAuto
import Derived.Deep.Draws
import Derived.Deep.LoopGhost
import Derived.Deep.OwnRows
import Derived.Deep.QuietTactic
import Derived.Deep.RegionHeld3
import Derived.KernelRfl
import Derived.Laws.BitsLemmas
import Derived.Laws.BytesArg
import Derived.Laws.IdiomCopy
import Derived.Laws.MakeOwn
import Derived.Laws.OwnMore
import Derived.Laws.Rows
import Derived.Laws.Slices
import Derived.Lib.AppendStr
import Derived.Lib.ConvBytes
import Derived.Maps.AppendAt
import Derived.OrdersHeld
import Derived.OwnWalk
import Derived.RowKit
import Derived.RowKit3
import Derived.Tactics
import Derived.Test.YtnlembpmcbnpnaaGreatDoorProg
import Derived.WalkKit
import Derived.WideLaws
import Derived.Test.YtnlembpmcbnpnaaGreatDoorKM1
namespace Go.Proofs.YtnlembpmcbnpnaaGreatDoor.X
open Go.RowKit Go.Proofs.YtnlembpmcbnpnaaGreatDoorW.PrintWords Go.Proofs.YtnlembpmcbnpnaaGreatDoorW.PrintLast Go.Proofs.YtnlembpmcbnpnaaGreatDoorW.PrintMore
set_option linter.unusedVariables false
set_option linter.unusedSimpArgs false
def errW : Option Int → Value
  | none => .nilIface
  | some c => .iface 0 (.int .i64 c)
theorem errW_none : errW none = .nilIface := rfl
theorem errW_some (c : Int) : errW (some c) = .iface 0 (.int .i64 c) := rfl
theorem info9 : (Tryz.prog.info? 9).map (fun i => (i.zero, i.size, i.bytes)) = some (some (.string ⟨#[]⟩), 1, 16) := by kernel_rfl
-- the values' own types
end Go.Proofs.YtnlembpmcbnpnaaGreatDoor.X
/- Words on cells of boxes. No condition on inputs. -/
namespace Go.Proofs.YtnlembpmcbnpnaaGreatDoor.X
open Go Go.RowKit Go.Proofs.YtnlembpmcbnpnaaGreatDoorW.PrintWords Go.Proofs.YtnlembpmcbnpnaaGreatDoorW.PrintLast Go.Proofs.YtnlembpmcbnpnaaGreatDoorW.PrintMore
theorem zc3 {w : World} {g : Nat} {t : TypeId} {v0 v1 v2 : Value} (h : w.heap[g]? = some (.cells #[v0, v1, v2] t (0, 0))) : w.cell? ⟨g, 0, none⟩ = some v0 ∧ w.cell? ⟨g, 1, none⟩ = some v1 ∧ w.cell? ⟨g, 2, none⟩ = some v2 := ⟨(blk_cell h 0).trans rfl, (blk_cell h 1).trans rfl, (blk_cell h 2).trans rfl⟩
theorem zf3 {w : World} {g : Nat} {t : TypeId} {cs : Array Value} (h : w.heap[g]? = some (.cells cs t (0, 0))) : w.frozen? ⟨g, 0, none⟩ = false ∧ w.frozen? ⟨g, 1, none⟩ = false ∧ w.frozen? ⟨g, 2, none⟩ = false := ⟨blk_frozen h 0, blk_frozen h 1, blk_frozen h 2⟩
theorem zp3 {w : World} {g : Nat} {t : TypeId} {v0 v1 v2 u0 u1 u2 : Value} (h : w.heap[g]? = some (.cells #[v0, v1, v2] t (0, 0))) : (((w.setCell ⟨g, 0, none⟩ u0).setCell ⟨g, 1, none⟩ u1).setCell ⟨g, 2, none⟩ u2).heap[g]? = some (.cells #[u0, u1, u2] t (0, 0)) := (blk_put (cs' := #[u0, u1, u2]) (blk_put (cs' := #[u0, u1, v2]) (blk_put (cs' := #[u0, v1, v2]) h 0 u0 rfl) 1 u1 rfl) 2 u2 rfl)
theorem zc5 {w : World} {g : Nat} {t : TypeId} {v0 v1 v2 v3 v4 : Value} (h : w.heap[g]? = some (.cells #[v0, v1, v2, v3, v4] t (0, 0))) : w.cell? ⟨g, 0, none⟩ = some v0 ∧ w.cell? ⟨g, 1, none⟩ = some v1 ∧ w.cell? ⟨g, 2, none⟩ = some v2 ∧ w.cell? ⟨g, 3, none⟩ = some v3 ∧ w.cell? ⟨g, 4, none⟩ = some v4 := ⟨(blk_cell h 0).trans rfl, (blk_cell h 1).trans rfl, (blk_cell h 2).trans rfl, (blk_cell h 3).trans rfl, (blk_cell h 4).trans rfl⟩
theorem zf5 {w : World} {g : Nat} {t : TypeId} {cs : Array Value} (h : w.heap[g]? = some (.cells cs t (0, 0))) : w.frozen? ⟨g, 0, none⟩ = false ∧ w.frozen? ⟨g, 1, none⟩ = false ∧ w.frozen? ⟨g, 2, none⟩ = false ∧ w.frozen? ⟨g, 3, none⟩ = false ∧ w.frozen? ⟨g, 4, none⟩ = false := ⟨blk_frozen h 0, blk_frozen h 1, blk_frozen h 2, blk_frozen h 3, blk_frozen h 4⟩
theorem zp5 {w : World} {g : Nat} {t : TypeId} {v0 v1 v2 v3 v4 u0 u1 u2 u3 u4 : Value} (h : w.heap[g]? = some (.cells #[v0, v1, v2, v3, v4] t (0, 0))) : (((((w.setCell ⟨g, 0, none⟩ u0).setCell ⟨g, 1, none⟩ u1).setCell ⟨g, 2, none⟩ u2).setCell ⟨g, 3, none⟩ u3).setCell ⟨g, 4, none⟩ u4).heap[g]? = some (.cells #[u0, u1, u2, u3, u4] t (0, 0)) := (blk_put (cs' := #[u0, u1, u2, u3, u4]) (blk_put (cs' := #[u0, u1, u2, u3, v4]) (blk_put (cs' := #[u0, u1, u2, v3, v4]) (blk_put (cs' := #[u0, u1, v2, v3, v4]) (blk_put (cs' := #[u0, v1, v2, v3, v4]) h 0 u0 rfl) 1 u1 rfl) 2 u2 rfl) 3 u3 rfl) 4 u4 rfl)
theorem zc13 {w : World} {g : Nat} {t : TypeId} {v0 v1 v2 v3 v4 v5 v6 v7 v8 v9 v10 v11 v12 : Value} (h : w.heap[g]? = some (.cells #[v0, v1, v2, v3, v4, v5, v6, v7, v8, v9, v10, v11, v12] t (0, 0))) : w.cell? ⟨g, 0, none⟩ = some v0 ∧ w.cell? ⟨g, 1, none⟩ = some v1 ∧ w.cell? ⟨g, 2, none⟩ = some v2 ∧ w.cell? ⟨g, 3, none⟩ = some v3 ∧ w.cell? ⟨g, 4, none⟩ = some v4 ∧ w.cell? ⟨g, 5, none⟩ = some v5 ∧ w.cell? ⟨g, 6, none⟩ = some v6 ∧ w.cell? ⟨g, 7, none⟩ = some v7 ∧ w.cell? ⟨g, 8, none⟩ = some v8 ∧ w.cell? ⟨g, 9, none⟩ = some v9 ∧ w.cell? ⟨g, 10, none⟩ = some v10 ∧ w.cell? ⟨g, 11, none⟩ = some v11 ∧ w.cell? ⟨g, 12, none⟩ = some v12 := ⟨(blk_cell h 0).trans rfl, (blk_cell h 1).trans rfl, (blk_cell h 2).trans rfl, (blk_cell h 3).trans rfl, (blk_cell h 4).trans rfl, (blk_cell h 5).trans rfl, (blk_cell h 6).trans rfl, (blk_cell h 7).trans rfl, (blk_cell h 8).trans rfl, (blk_cell h 9).trans rfl, (blk_cell h 10).trans rfl, (blk_cell h 11).trans rfl, (blk_cell h 12).trans rfl⟩
theorem zf13 {w : World} {g : Nat} {t : TypeId} {cs : Array Value} (h : w.heap[g]? = some (.cells cs t (0, 0))) : w.frozen? ⟨g, 0, none⟩ = false ∧ w.frozen? ⟨g, 1, none⟩ = false ∧ w.frozen? ⟨g, 2, none⟩ = false ∧ w.frozen? ⟨g, 3, none⟩ = false ∧ w.frozen? ⟨g, 4, none⟩ = false ∧ w.frozen? ⟨g, 5, none⟩ = false ∧ w.frozen? ⟨g, 6, none⟩ = false ∧ w.frozen? ⟨g, 7, none⟩ = false ∧ w.frozen? ⟨g, 8, none⟩ = false ∧ w.frozen? ⟨g, 9, none⟩ = false ∧ w.frozen? ⟨g, 10, none⟩ = false ∧ w.frozen? ⟨g, 11, none⟩ = false ∧ w.frozen? ⟨g, 12, none⟩ = false := ⟨blk_frozen h 0, blk_frozen h 1, blk_frozen h 2, blk_frozen h 3, blk_frozen h 4, blk_frozen h 5, blk_frozen h 6, blk_frozen h 7, blk_frozen h 8, blk_frozen h 9, blk_frozen h 10, blk_frozen h 11, blk_frozen h 12⟩
theorem zp13 {w : World} {g : Nat} {t : TypeId} {v0 v1 v2 v3 v4 v5 v6 v7 v8 v9 v10 v11 v12 u0 u1 u2 u3 u4 u5 u6 u7 u8 u9 u10 u11 u12 : Value} (h : w.heap[g]? = some (.cells #[v0, v1, v2, v3, v4, v5, v6, v7, v8, v9, v10, v11, v12] t (0, 0))) : (((((((((((((w.setCell ⟨g, 0, none⟩ u0).setCell ⟨g, 1, none⟩ u1).setCell ⟨g, 2, none⟩ u2).setCell ⟨g, 3, none⟩ u3).setCell ⟨g, 4, none⟩ u4).setCell ⟨g, 5, none⟩ u5).setCell ⟨g, 6, none⟩ u6).setCell ⟨g, 7, none⟩ u7).setCell ⟨g, 8, none⟩ u8).setCell ⟨g, 9, none⟩ u9).setCell ⟨g, 10, none⟩ u10).setCell ⟨g, 11, none⟩ u11).setCell ⟨g, 12, none⟩ u12).heap[g]? = some (.cells #[u0, u1, u2, u3, u4, u5, u6, u7, u8, u9, u10, u11, u12] t (0, 0)) := (blk_put (cs' := #[u0, u1, u2, u3, u4, u5, u6, u7, u8, u9, u10, u11, u12]) (blk_put (cs' := #[u0, u1, u2, u3, u4, u5, u6, u7, u8, u9, u10, u11, v12]) (blk_put (cs' := #[u0, u1, u2, u3, u4, u5, u6, u7, u8, u9, u10, v11, v12]) (blk_put (cs' := #[u0, u1, u2, u3, u4, u5, u6, u7, u8, u9, v10, v11, v12]) (blk_put (cs' := #[u0, u1, u2, u3, u4, u5, u6, u7, u8, v9, v10, v11, v12]) (blk_put (cs' := #[u0, u1, u2, u3, u4, u5, u6, u7, v8, v9, v10, v11, v12]) (blk_put (cs' := #[u0, u1, u2, u3, u4, u5, u6, v7, v8, v9, v10, v11, v12]) (blk_put (cs' := #[u0, u1, u2, u3, u4, u5, v6, v7, v8, v9, v10, v11, v12]) (blk_put (cs' := #[u0, u1, u2, u3, u4, v5, v6, v7, v8, v9, v10, v11, v12]) (blk_put (cs' := #[u0, u1, u2, u3, v4, v5, v6, v7, v8, v9, v10, v11, v12]) (blk_put (cs' := #[u0, u1, u2, v3, v4, v5, v6, v7, v8, v9, v10, v11, v12]) (blk_put (cs' := #[u0, u1, v2, v3, v4, v5, v6, v7, v8, v9, v10, v11, v12]) (blk_put (cs' := #[u0, v1, v2, v3, v4, v5, v6, v7, v8, v9, v10, v11, v12]) h 0 u0 rfl) 1 u1 rfl) 2 u2 rfl) 3 u3 rfl) 4 u4 rfl) 5 u5 rfl) 6 u6 rfl) 7 u7 rfl) 8 u8 rfl) 9 u9 rfl) 10 u10 rfl) 11 u11 rfl) 12 u12 rfl)
theorem zbb {w w1 w2 : World} {g : Nat} {o : Obj} (h : w.heap[g]? = some o) (hb : Below w1.heap.size w1 w2) (f : w.heap[g]? = some o → w1.heap[g]? = some o := by intro h_; (with_reducible repeat (first | refine blk_drewN ?_ _ | refine blk_drew ?_ | refine blk_alloc ?_ _)); exact h_) : w2.heap[g]? = some o := blk_below (f h) hb
theorem zkb {w w1 w2 : World} {g g' : Nat} {o : Obj} (h : w.heap[g']? = some o) (hk : KeepBut w1 w2 g none) (hn : g' ≠ g) (f : w.heap[g']? = some o → w1.heap[g']? = some o := by intro h_; (with_reducible repeat (first | refine blk_drewN ?_ _ | refine blk_drew ?_ | refine blk_alloc ?_ _)); exact h_) : w2.heap[g']? = some o := KeepBut.blk hk (f h) hn (by simp)
theorem zbi {α β : Type} {o : Option α} {f : α → Option β} {r : β} (h : o.bind f = some r) : ∃ t, Aside0 (o = some t) ∧ f t = some r := let ⟨t, a, b⟩ := Option.bind_eq_some_iff.1 h; ⟨t, ⟨a⟩, b⟩
section
variable {P : Program} {ops : Array Oper} {Q : Exit → Act → World → Prop} {md : Region.Mode} {S : World → Prop} {ds : List Nat} {T : Bool × List (List Nat × List Nat)} {B : List Nat} {oi : Oper} {v : Value} {fuel : Nat} {l : Array Bool} {a a' : Act} {w : World}
theorem zpu (i : Nat) (N : Tmp) (l' : Array Bool) (hT : Aside0 (rtab md ops = T)) (h : wpAnyLast P md ops Q S ds fuel l' a' w) (hi : ops[i]? = some oi := by rfl) (hN : oi.dst = some N := by rfl) (hc : anyT T l.toList l'.toList i = true := by kernel_rfl)
    (hQ : ∀ c a w, Q (.panic c) (a.put oi.dst v) w → Q (.panic c) a w := by exact fun _ _ _ h => h) (hy : Yields P ops oi v a := by refine Or.inl ⟨by rfl, ?_⟩; intro w'; go_simp; with_reducible rfl) (ha : a.put (some N) v = a' := by simp only [Act.put, List.setIfInBounds_toArray, List.set_cons_zero, List.set_cons_succ, i64_w, i32_w]; rfl) :
    wpAnyLast P md ops Q S ds (fuel + 1) l a w := pure_ l' hi hN (any_of hT.out hc) hQ hy ha h
theorem ztk (i : Nat) (N : Tmp) (l' : Array Bool) (hT : Aside0 (rtab md ops = T)) (hB : Aside0 (waitsOk T.2 B = true)) (hS : S w) (h : wpAnyLast P md ops Q S ds fuel l' a' w) (hi : ops[i]? = some oi := by rfl) (hN : oi.dst = some N := by rfl) (hc : takeW T B ds l.toList l'.toList i = true := by kernel_rfl)
    (hQ : ∀ c a w, Q (.panic c) (a.put oi.dst v) w → Q (.panic c) a w := by exact fun _ _ _ h => h) (hy : YieldsIf P ops S oi v a := by refine Or.inl ⟨by rfl, ?_⟩; intro w'; (try simp only [and_imp]); intros; go_simp; with_reducible rfl) (ha : a.put (some N) v = a' := by simp only [Act.put, List.setIfInBounds_toArray, List.set_cons_zero, List.set_cons_succ, i64_w, i32_w]; rfl) :
    wpAnyLast P md ops Q S ds (fuel + 1) l a w := take_ l' hi hN (take_ofW hT.out hB.out hc) hQ hy hS ha h
theorem zon (i : Nat) (N : Tmp) (l' : Array Bool) (hT : Aside0 (rtab md ops = T)) (h : ∀ K : Act → World → Prop, Shut (∀ a' w', S w' → (S w' → wpAnyLast P md ops Q S ds fuel l' a' w') → K a' w') → if Region.wanted oi (yielded ops a.tmps) = true then Oper.wp P oi a w K Q else K (a.put (some N) undef) w)
    (hi : ops[i]? = some oi := by rfl) (hN : oi.dst = some N := by rfl) (hc : (readyT T.2 l.toList == [i] && l.toList.set i true == l'.toList) = true := by kernel_rfl) (hd : i ∉ ds := by decide) : wpAnyLast P md ops Q S ds (fuel + 1) l a w := one_ l' hi hN (one_of hT.out hc) hd h
theorem znm {n : Nat} (h : wpAnyLast P md ops Q S ds n l a' w) (ha : a = a' := by (show Act.put _ _ _ = _); simp only [Act.put, List.setIfInBounds_toArray, List.set_cons_zero, List.set_cons_succ, i64_w, i32_w]; rfl) : wpAnyLast P md ops Q S ds n l a w := norm_ ha h
end
def zfl (n : Nat) (s : List Nat) : Array Bool := ((List.range n).map fun i => s.elem i).toArray
end Go.Proofs.YtnlembpmcbnpnaaGreatDoor.X
namespace Go.Proofs.YtnlembpmcbnpnaaGreatDoor.X
open Go.RowKit Go.Proofs.YtnlembpmcbnpnaaGreatDoorW.PrintWords Go.Proofs.YtnlembpmcbnpnaaGreatDoorW.PrintLast Go.Proofs.YtnlembpmcbnpnaaGreatDoorW.PrintMore
set_option linter.unusedVariables false
set_option linter.unusedSimpArgs false
def IsS54 (w0 W : World) (g : Nat) (f0 : ByteArray) : Prop := W.heap[g]? = some (.cells #[.string f0] 54 (0, 0)) ∧ w0.heap.size ≤ g
theorem IsS54.grown {w0 W : World} {g : Nat} {f0 : ByteArray} {W1 : World} {row : Option Nat} (h : IsS54 w0 W g f0) (hw : W.grownBy W1 row) (hne : some g ≠ row) : IsS54 w0 W1 g f0 := by
 obtain ⟨hb, hg⟩ := h
 exact ⟨blk_grown hb hw hne, hg⟩
theorem IsS54.fresh {w0 W : World} {g : Nat} {f0 : ByteArray} (h : IsS54 w0 W g f0) : ∀ k, W.heap.size ≤ k → k ≠ g := by
 obtain ⟨hb, hg⟩ := h
 exact Kd.freshB hb
theorem IsS54.kept {w0 W : World} {g : Nat} {f0 : ByteArray} {W1 : World} {S : Nat → Prop} (h : IsS54 w0 W g f0) (hk : Kept W W1 S) (hne : ¬ S g) : IsS54 w0 W1 g f0 := by
 obtain ⟨hb, hg⟩ := h
 exact ⟨blk_kept hb hk hne, hg⟩
theorem IsS54.below {w0 W : World} {g : Nat} {f0 : ByteArray} {W1 : World} (h : IsS54 w0 W g f0) (hw : Below W.heap.size W W1) : IsS54 w0 W1 g f0 := h.grown (grown_of_below hw none) (by simp)
theorem IsS54.alloc {w0 W : World} {g : Nat} {f0 : ByteArray} (h : IsS54 w0 W g f0) (o : Obj) : IsS54 w0 (W.alloc o) g f0 := h.below (below_alloc (Below.refl _ _) o)
theorem IsS54.drewN {w0 W : World} {g : Nat} {f0 : ByteArray} (h : IsS54 w0 W g f0) (m : Nat) : IsS54 w0 (W.drewN m) g f0 := h
theorem IsS54.drew {w0 W : World} {g : Nat} {f0 : ByteArray} (h : IsS54 w0 W g f0) : IsS54 w0 W.drew g f0 := h
theorem IsS54.at_ {w0 W : World} {g : Nat} {f0 : ByteArray} {w' : World} {m : Nat} (hq : W.drewN m = w') (h : IsS54 w0 W g f0) : IsS54 w0 w' g f0 := by subst hq; exact IsS54.drewN h m
theorem IsS54.apart {w0 W : World} {g : Nat} {f0 : ByteArray} {α : Type} {d : Kd α} {e : Nat} {base : Nat} {ok : Nat → Prop} {v : Value} {xs : List α} (h : IsS54 w0 W g f0) (ho : d.R e W base ok v xs) (ht : ∀ q, q ∈ e :: d.E → q ≠ 54) : d.R e W base (fun k => ok k ∧ k ≠ g) v xs := by
 obtain ⟨hb, hg⟩ := h
 exact Kd.R_types ho hb ht
theorem IsS54.own_ne {w0 W : World} {g : Nat} {f0 : ByteArray} {α : Type} {d : Kd α} {e : Nat} {base : Nat} {ok : Nat → Prop} {v : Value} {xs : List α} (h : IsS54 w0 W g f0) (ho : d.R e W base ok v xs) (ht : e ≠ 54) : some g ≠ v.ownBlock := by
 obtain ⟨hb, hg⟩ := h
 exact Kd.R_ne ho hb ht
theorem IsS54.ge {w0 W : World} {g : Nat} {f0 : ByteArray} (h : IsS54 w0 W g f0) : w0.heap.size ≤ g := by
 obtain ⟨hb, hg⟩ := h
 exact hg
theorem IsS54.far {w0 W : World} {g : Nat} {f0 : ByteArray} {p : Addr} (h : IsS54 w0 W g f0) (hne : g ≠ p.block) (u : Value) : IsS54 w0 (W.setCell p u) g f0 := by
 obtain ⟨hb, hg⟩ := h
 exact ⟨blk_far hb hne u, hg⟩
theorem cellS54_0 {W : World} {g : Nat} {f0 : ByteArray} (h : W.heap[g]? = some (.cells #[.string f0] 54 (0, 0))) : W.cell? ⟨g, 0, none⟩ = some (.string f0) := (blk_cell h 0).trans rfl
theorem IsS54.set_0 {w0 W : World} {g : Nat} {f0 : ByteArray} (h : IsS54 w0 W g f0) (x : ByteArray) : IsS54 w0 (W.setCell ⟨g, 0, none⟩ (.string x)) g x := by
 obtain ⟨hb, hg⟩ := h
 exact ⟨by simpa using blk_set hb 0 (.string x), hg⟩
theorem z1_0_ {P : Prop} (h : P := by repeat (first | (with_reducible first | exact HB.out | apply below_alloc | apply pw_below_drewN | apply below_drew1 | refine below_set ?_ (IsS54.ge HI0.out)) | exact HB.out)) : P := h
theorem z1_1_ {P : Prop} (h : P := by repeat (first | (with_reducible first | exact HI0.out | apply IsS54.alloc | apply IsS54.drewN | apply IsS54.drew | apply IsS54.set_0) | exact HI0.out)) : P := h
theorem z1_2_ {P : Prop} (h : P := by repeat (first | (with_reducible first | exact HB.out | apply below_alloc | apply pw_below_drewN | apply below_drew1 | refine below_set ?_ GE110.out | refine below_set ?_ GE111.out) | exact HB.out)) : P := h
theorem z1_3_ {P : Prop} (h : P := by repeat (first | (with_reducible first | exact HK.out | apply KeepBut.set_ | apply keep_drewN | apply keep_drew | apply keep_alloc) | exact HK.out)) : P := h
theorem z1_4_ {P : Prop} (h : P := by first | (with_reducible assumption) | assumption) : P := h
theorem z1_5_ {P : Prop} (h : P := by (with_reducible repeat (first | refine blk_drewN ?_ _ | refine blk_drew ?_ | refine blk_alloc ?_ _)); exact BK110.out) : P := h
theorem z1_6_ {P : Prop} (h : P := by first | rfl | (simp; done) | (simp [*]; done)) : P := h
theorem z1_7_ {P : Prop} (h : P := by first | rfl | (simp [errW_none, errW_some] <;> rfl) | (simp [*, errW_none, errW_some] <;> rfl)) : P := h
theorem z1_8_ {P : Prop} (h : P := by repeat (first | (with_reducible first | exact HB.out | apply below_alloc | apply pw_below_drewN | apply below_drew1 | refine below_set ?_ GE110.out) | exact HB.out)) : P := h
theorem z1_9_ {P : Prop} (h : P := by (with_reducible repeat (first | refine blk_drewN ?_ _ | refine blk_drew ?_ | refine blk_alloc ?_ _)); exact BK111.out) : P := h
theorem z1_10_ {P : Prop} (h : P := by (try simp only [List.map_toArray, List.map_cons, List.map_nil]); first | done | rfl | (simp only [List.length_drop, List.length_take]; rfl)) : P := h
theorem z1_11_ {P : Prop} (h : P := by repeat (first | exact Drawn0.refl _ | apply Drawn0.step)) : P := h
/-! ### spec_l6rd_upTo: function 24 -/
def spec_l6rd_upTo.l0 : Nat → Int → Int → ByteArray → Option (ByteArray × ByteArray)
 | 0, _, _, _ => none
 | k + 1, x1, x5, x1000 => if x5 < (x1000.size : Int) then (if 0 ≤ x5 then (if (bt x1000 x5) = x1 then (if x5 ≤ (x1000.size : Int) then (if ((x1000.extract (x5 : Int).toNat x1000.size).size : Int) > 0 then (if 1 ≤ ((x1000.extract (x5 : Int).toNat x1000.size).size : Int) then (some (x1000.extract 0 (x5 : Int).toNat, (x1000.extract (x5 : Int).toNat x1000.size).extract 1 (x1000.extract (x5 : Int).toNat x1000.size).size)) else (none)) else (some (x1000.extract 0 (x5 : Int).toNat, x1000.extract (x5 : Int).toNat x1000.size))) else (none)) else (spec_l6rd_upTo.l0 k x1 (wrap64 (x5 + 1)) x1000)) else (none)) else (if 0 ≤ x5 then (if x5 ≤ (x1000.size : Int) then (if ((x1000.extract (x5 : Int).toNat x1000.size).size : Int) > 0 then (if 1 ≤ ((x1000.extract (x5 : Int).toNat x1000.size).size : Int) then (some (x1000.extract 0 (x5 : Int).toNat, (x1000.extract (x5 : Int).toNat x1000.size).extract 1 (x1000.extract (x5 : Int).toNat x1000.size).size)) else (none)) else (some (x1000.extract 0 (x5 : Int).toNat, x1000.extract (x5 : Int).toNat x1000.size))) else (none)) else (none))
def spec_l6rd_upTo.f (k : Nat) (s0_0 : ByteArray) (a1 : Int) : Option (ByteArray × ByteArray) := spec_l6rd_upTo.l0 k a1 0 s0_0
theorem spec_l6rd_upTo.mono_l : ∀ k, (∀ y0 y1 y2, LeO (spec_l6rd_upTo.l0 k y0 y1 y2) (spec_l6rd_upTo.l0 (k + 1) y0 y1 y2))
 | 0 => fun _ _ _ r h => by simp [spec_l6rd_upTo.l0] at h
 | k + 1 => by
  have ih0 := spec_l6rd_upTo.mono_l k
  ·intro y0 y1 y2
   unfold spec_l6rd_upTo.l0
   repeat' first
   | (with_reducible exact ih0 _ _ _)
   | (with_reducible exact LeO.refl _)
   | (with_reducible exact LeO.none _)
   | (with_reducible refine LeO.ite ?_ ?_)
   | (with_reducible refine LeO.bind ?_ (fun _ => ?_))
   | exact ih0 _ _ _
   | exact LeO.none _
   | refine LeO.ite ?_ ?_
   | refine LeO.bind ?_ (fun _ => ?_)
theorem spec_l6rd_upTo.mono : ∀ a0 a1 k, LeO (spec_l6rd_upTo.f k a0 a1) (spec_l6rd_upTo.f (k + 1) a0 a1) := by
 intro a0 a1 k
 have ih0 := spec_l6rd_upTo.mono_l k
 unfold spec_l6rd_upTo.f
 repeat' first
   | (with_reducible exact ih0 _ _ _)
   | (with_reducible exact LeO.refl _)
   | (with_reducible exact LeO.none _)
   | (with_reducible refine LeO.ite ?_ ?_)
   | (with_reducible refine LeO.bind ?_ (fun _ => ?_))
   | exact ih0 _ _ _
   | exact LeO.none _
   | refine LeO.ite ?_ ?_
   | refine LeO.bind ?_ (fun _ => ?_)
set_option maxHeartbeats 8000000 in
set_option maxRecDepth 100000 in
theorem spec_l6rd_upTo.calls (k : Nat) (g : Nat) (s0_0 : ByteArray) (a1 : Int) (r1 : ByteArray) (r2 : ByteArray) (w0 w : World) (hI : IsS54 w0 w g s0_0) (hB : Below w0.heap.size w0 w) (h : spec_l6rd_upTo.f k s0_0 a1 = some (r1, r2)) :
  Calls Tryz.prog 24 #[.pointer (some ⟨g, 0, none⟩), .int .u8 a1] w fun e w' => e = .returned (.string r1) ∧ IsS54 w0 w' g r2 ∧ Below w0.heap.size w0 w' ∧ KeepBut w w' g none := by
 have HI0 := Aside0.mk hI
 have HK := Aside0.mk (KeepBut.refl w g none)
 have HL := Aside0.mk hB.size
 clear hI
 have HW0 := Aside0.mk hB.size
 have HB := Aside0.mk hB
 clear hB
 have H : (spec_l6rd_upTo.l0 k a1 0 s0_0) = some (r1, r2) := h
 clear h
 have H' := Aside0.mk H
 clear H
 go_enter Tryz.func24, Tryz.ntmps24
 go_wp2
 go_loopg [5] k (fun kq v5 w' => ∃ (x5_1 : Int), v5 = .int .i64 x5_1 ∧ Aside0 (spec_l6rd_upTo.l0 kq a1 x5_1 s0_0 = some (r1, r2)) ∧ Aside0 (kq ≤ k) ∧ Aside0 (IsS54 w0 w' g s0_0) ∧ Aside0 (KeepBut w w' g none) ∧ Aside0 (Below w0.heap.size w0 w'))
 case atStart => exact ⟨(0), z1_6_, H', ⟨Nat.le_refl _⟩, ⟨z1_1_⟩, ⟨z1_3_⟩, ⟨z1_0_⟩⟩
 case round =>
  clear H'
  try clear c2
  try clear p2
  obtain ⟨x5_1, rfl, HA, HK1, HI0, HK, HB⟩ := hrel
  cases gk with
  | zero => exact absurd HA.out (by simp [spec_l6rd_upTo.l0])
  | succ k1 =>
   have H := HA.out
   clear HA
   simp only [spec_l6rd_upTo.l0] at H
   by_cases c3 : x5_1 < (s0_0.size : Int)
   ·rw [if_pos c3] at H
    have c3b0 : decide (x5_1 < (s0_0.size : Int)) = true := decide_eq_true c3
    clear c3
    by_cases c4 : 0 ≤ x5_1
    ·rw [if_pos c4] at H
     have c4b0 : decide (0 ≤ x5_1) = true := decide_eq_true c4
     clear c4
     by_cases c6 : (bt s0_0 x5_1) = a1
     ·rw [if_pos c6] at H
      have c6b0 : ((bt s0_0 x5_1) == a1) = true := beq_iff_eq.mpr c6
      have c6b1 : ((bt s0_0 x5_1) != a1) = false := bne_eq_false_iff_eq.mpr c6
      clear c6
      have c7b0 := eq_true (of_decide_eq_true z1_4_ : 0 ≤ x5_1)
      by_cases c8 : x5_1 ≤ (s0_0.size : Int)
      ·rw [if_pos c8] at H
       have c8b0 := eq_true c8
       have c8b1 : decide (x5_1 ≤ (s0_0.size : Int)) = true := decide_eq_true c8
       clear c8
       have c9b0 := eq_true (of_decide_eq_true z1_4_ : 0 ≤ x5_1)
       have c10b0 := eq_true (of_decide_eq_true z1_4_ : x5_1 ≤ (s0_0.size : Int))
       by_cases c11 : ((s0_0.extract (x5_1 : Int).toNat s0_0.size).size : Int) > 0
       ·rw [if_pos c11] at H
        have c11b0 : decide (0 < ((s0_0.extract (x5_1 : Int).toNat s0_0.size).size : Int)) = true := decide_eq_true c11
        have c11b1 : decide (0 < (s0_0.extract (x5_1 : Int).toNat s0_0.size).size) = true := decide_eq_true (by omega)
        try have c11b2 := c11b1
        try (simp only [ByteArray.size_extract, Nat.min_self, Int.toNat_natCast, decide_eq_true_eq] at c11b2; replace c11b2 := eq_true c11b2)
        clear c11
        by_cases c12 : 1 ≤ ((s0_0.extract (x5_1 : Int).toNat s0_0.size).size : Int)
        ·rw [if_pos c12] at H
         have c12b0 := eq_true c12
         have c12b1 : decide (1 ≤ ((s0_0.extract (x5_1 : Int).toNat s0_0.size).size : Int)) = true := decide_eq_true c12
         try have c12b2 := c12b1
         try (simp only [ByteArray.size_extract, Nat.min_self, Int.toNat_natCast, decide_eq_true_eq] at c12b2; replace c12b2 := eq_true c12b2)
         clear c12
         simp only [Option.some.injEq, Prod.mk.injEq] at H
         obtain ⟨rfl, rfl⟩ := H
         obtain ⟨HGz13, hgz13⟩ := HI0.out
         have q13_0 := cellS54_0 HGz13
         have f13_0 := blk_frozen HGz13 0
         clear HGz13 hgz13
         have p5 : 0 ≤ (x5_1 : Int) := of_decide_eq_true z1_4_
         have q5 : x5_1 < (s0_0.size : Int) := of_decide_eq_true z1_4_
         have hx5 := bt_at s0_0 x5_1
         replace p5 := eq_true p5
         replace q5 := eq_true q5
         go_wp2
         go_ret
         try simp only [ByteArray.size_extract, Nat.min_self, Int.toNat_natCast]
         exact ⟨z1_7_, z1_1_, z1_0_, z1_3_⟩
        ·rw [if_neg c12] at H
         exact absurd H (by simp)
       ·rw [if_neg c11] at H
        have c11b0 : decide (0 < ((s0_0.extract (x5_1 : Int).toNat s0_0.size).size : Int)) = false := decide_eq_false c11
        have c11b1 : decide (0 < (s0_0.extract (x5_1 : Int).toNat s0_0.size).size) = false := decide_eq_false (by omega)
        try have c11b2 := c11b1
        try (simp only [ByteArray.size_extract, Nat.min_self, Int.toNat_natCast, decide_eq_false_iff_not] at c11b2; replace c11b2 := eq_false c11b2)
        clear c11
        simp only [Option.some.injEq, Prod.mk.injEq] at H
        obtain ⟨rfl, rfl⟩ := H
        obtain ⟨HGz14, hgz14⟩ := HI0.out
        have q14_0 := cellS54_0 HGz14
        have f14_0 := blk_frozen HGz14 0
        clear HGz14 hgz14
        have p5 : 0 ≤ (x5_1 : Int) := of_decide_eq_true z1_4_
        have q5 : x5_1 < (s0_0.size : Int) := of_decide_eq_true z1_4_
        have hx5 := bt_at s0_0 x5_1
        replace p5 := eq_true p5
        replace q5 := eq_true q5
        go_wp2
        go_ret
        try simp only [ByteArray.size_extract, Nat.min_self, Int.toNat_natCast]
        exact ⟨z1_7_, z1_1_, z1_0_, z1_3_⟩
      ·rw [if_neg c8] at H
       exact absurd H (by simp)
     ·rw [if_neg c6] at H
      have c6b0 : ((bt s0_0 x5_1) == a1) = false := beq_eq_false_iff_ne.mpr c6
      have c6b1 : ((bt s0_0 x5_1) != a1) = true := bne_iff_ne.mpr c6
      have H' := Aside0.mk H
      clear H
      obtain ⟨HGz15, hgz15⟩ := HI0.out
      have q15_0 := cellS54_0 HGz15
      have f15_0 := blk_frozen HGz15 0
      clear HGz15 hgz15
      have p5 : 0 ≤ (x5_1 : Int) := of_decide_eq_true z1_4_
      have q5 : x5_1 < (s0_0.size : Int) := of_decide_eq_true z1_4_
      have hx5 := bt_at s0_0 x5_1
      replace p5 := eq_true p5
      replace q5 := eq_true q5
      go_wp2
      go_roundg k1
      case measure => have := HK1.out; omega
      case rel => exact ⟨(wrap64 (x5_1 + 1)), z1_6_, H', ⟨(by have := HK1.out; omega)⟩, ⟨z1_1_⟩, ⟨z1_3_⟩, ⟨z1_0_⟩⟩
    ·rw [if_neg c4] at H
     exact absurd H (by simp)
   ·rw [if_neg c3] at H
    have c3b0 : decide (x5_1 < (s0_0.size : Int)) = false := decide_eq_false c3
    clear c3
    by_cases c16 : 0 ≤ x5_1
    ·rw [if_pos c16] at H
     have c16b0 := eq_true c16
     have c16b1 : decide (0 ≤ x5_1) = true := decide_eq_true c16
     clear c16
     by_cases c17 : x5_1 ≤ (s0_0.size : Int)
     ·rw [if_pos c17] at H
      have c17b0 := eq_true c17
      have c17b1 : decide (x5_1 ≤ (s0_0.size : Int)) = true := decide_eq_true c17
      clear c17
      have c18b0 := eq_true (of_decide_eq_true z1_4_ : 0 ≤ x5_1)
      have c19b0 := eq_true (of_decide_eq_true z1_4_ : x5_1 ≤ (s0_0.size : Int))
      by_cases c20 : ((s0_0.extract (x5_1 : Int).toNat s0_0.size).size : Int) > 0
      ·rw [if_pos c20] at H
       have c20b0 : decide (0 < ((s0_0.extract (x5_1 : Int).toNat s0_0.size).size : Int)) = true := decide_eq_true c20
       have c20b1 : decide (0 < (s0_0.extract (x5_1 : Int).toNat s0_0.size).size) = true := decide_eq_true (by omega)
       try have c20b2 := c20b1
       try (simp only [ByteArray.size_extract, Nat.min_self, Int.toNat_natCast, decide_eq_true_eq] at c20b2; replace c20b2 := eq_true c20b2)
       clear c20
       by_cases c21 : 1 ≤ ((s0_0.extract (x5_1 : Int).toNat s0_0.size).size : Int)
       ·rw [if_pos c21] at H
        have c21b0 := eq_true c21
        have c21b1 : decide (1 ≤ ((s0_0.extract (x5_1 : Int).toNat s0_0.size).size : Int)) = true := decide_eq_true c21
        try have c21b2 := c21b1
        try (simp only [ByteArray.size_extract, Nat.min_self, Int.toNat_natCast, decide_eq_true_eq] at c21b2; replace c21b2 := eq_true c21b2)
        clear c21
        simp only [Option.some.injEq, Prod.mk.injEq] at H
        obtain ⟨rfl, rfl⟩ := H
        obtain ⟨HGz22, hgz22⟩ := HI0.out
        have q22_0 := cellS54_0 HGz22
        have f22_0 := blk_frozen HGz22 0
        clear HGz22 hgz22
        go_wp2
        go_ret
        try simp only [ByteArray.size_extract, Nat.min_self, Int.toNat_natCast]
        exact ⟨z1_7_, z1_1_, z1_0_, z1_3_⟩
       ·rw [if_neg c21] at H
        exact absurd H (by simp)
      ·rw [if_neg c20] at H
       have c20b0 : decide (0 < ((s0_0.extract (x5_1 : Int).toNat s0_0.size).size : Int)) = false := decide_eq_false c20
       have c20b1 : decide (0 < (s0_0.extract (x5_1 : Int).toNat s0_0.size).size) = false := decide_eq_false (by omega)
       try have c20b2 := c20b1
       try (simp only [ByteArray.size_extract, Nat.min_self, Int.toNat_natCast, decide_eq_false_iff_not] at c20b2; replace c20b2 := eq_false c20b2)
       clear c20
       simp only [Option.some.injEq, Prod.mk.injEq] at H
       obtain ⟨rfl, rfl⟩ := H
       obtain ⟨HGz23, hgz23⟩ := HI0.out
       have q23_0 := cellS54_0 HGz23
       have f23_0 := blk_frozen HGz23 0
       clear HGz23 hgz23
       go_wp2
       go_ret
       try simp only [ByteArray.size_extract, Nat.min_self, Int.toNat_natCast]
       exact ⟨z1_7_, z1_1_, z1_0_, z1_3_⟩
     ·rw [if_neg c17] at H
      exact absurd H (by simp)
    ·rw [if_neg c16] at H
     exact absurd H (by simp)
/-! ### spec_l2number: function 51 -/
mutual
def spec_l2number.j0 : Nat → ByteArray → Bool → Option (Int × Bool)
 | 0, _, _ => none
 | k + 1, x0, x16 => if x16 = true then (some (0, false)) else (spec_l2number.l0 k x0 0 0)
def spec_l2number.l0 : Nat → ByteArray → Int → Int → Option (Int × Bool)
 | 0, _, _, _ => none
 | k + 1, x0, x6, x7 => if x7 < (x0.size : Int) then (if 0 ≤ x7 then (if (bt x0 x7) < 48 then (some (0, false)) else (if (bt x0 x7) > 57 then (some (0, false)) else (spec_l2number.l0 k x0 (wrap64 ((wrap64 (x6 * 10)) + (((bt x0 x7) - 48) % 256))) (wrap64 (x7 + 1))))) else (none)) else (some (x6, true))
end
def spec_l2number.f (k : Nat) (a0 : ByteArray) (a1 : Int) : Option (Int × Bool) := if (a0.size : Int) < 1 then (spec_l2number.j0 k a0 true) else (spec_l2number.j0 k a0 (decide ((a0.size : Int) > a1)))
theorem spec_l2number.mono_l : ∀ k, (∀ y0 y1, LeO (spec_l2number.j0 k y0 y1) (spec_l2number.j0 (k + 1) y0 y1)) ∧ (∀ y0 y1 y2, LeO (spec_l2number.l0 k y0 y1 y2) (spec_l2number.l0 (k + 1) y0 y1 y2))
 | 0 => ⟨fun _ _ r h => by simp [spec_l2number.j0] at h, fun _ _ _ r h => by simp [spec_l2number.l0] at h⟩
 | k + 1 => by
  obtain ⟨ih0, ih1⟩ := spec_l2number.mono_l k
  refine ⟨?_, ?_⟩
  ·intro y0 y1
   unfold spec_l2number.j0
   repeat' first
   | (with_reducible exact ih0 _ _)
   | (with_reducible exact ih1 _ _ _)
   | (with_reducible exact LeO.refl _)
   | (with_reducible exact LeO.none _)
   | (with_reducible refine LeO.ite ?_ ?_)
   | (with_reducible refine LeO.bind ?_ (fun _ => ?_))
   | exact ih0 _ _
   | exact ih1 _ _ _
   | exact LeO.none _
   | refine LeO.ite ?_ ?_
   | refine LeO.bind ?_ (fun _ => ?_)
  ·intro y0 y1 y2
   unfold spec_l2number.l0
   repeat' first
   | (with_reducible exact ih0 _ _)
   | (with_reducible exact ih1 _ _ _)
   | (with_reducible exact LeO.refl _)
   | (with_reducible exact LeO.none _)
   | (with_reducible refine LeO.ite ?_ ?_)
   | (with_reducible refine LeO.bind ?_ (fun _ => ?_))
   | exact ih0 _ _
   | exact ih1 _ _ _
   | exact LeO.none _
   | refine LeO.ite ?_ ?_
   | refine LeO.bind ?_ (fun _ => ?_)
theorem spec_l2number.mono : ∀ a0 a1 k, LeO (spec_l2number.f k a0 a1) (spec_l2number.f (k + 1) a0 a1) := by
 intro a0 a1 k
 obtain ⟨ih0, ih1⟩ := spec_l2number.mono_l k
 unfold spec_l2number.f
 repeat' first
   | (with_reducible exact ih0 _ _)
   | (with_reducible exact ih1 _ _ _)
   | (with_reducible exact LeO.refl _)
   | (with_reducible exact LeO.none _)
   | (with_reducible refine LeO.ite ?_ ?_)
   | (with_reducible refine LeO.bind ?_ (fun _ => ?_))
   | exact ih0 _ _
   | exact ih1 _ _ _
   | exact LeO.none _
   | refine LeO.ite ?_ ?_
   | refine LeO.bind ?_ (fun _ => ?_)
set_option maxHeartbeats 8000000 in
set_option maxRecDepth 100000 in
theorem spec_l2number.calls (k : Nat) (a0 : ByteArray) (a1 : Int) (r1 : Int) (r2 : Bool) (w : World) (h : spec_l2number.f k a0 a1 = some (r1, r2)) :
  Calls Tryz.prog 51 #[.string a0, .int .i64 a1] w fun e w' => e = .returned (.tuple #[.int .i64 r1, .bool r2]) ∧ Drawn0 w w' := by
 have H : (if (a0.size : Int) < 1 then (spec_l2number.j0 k a0 true) else (spec_l2number.j0 k a0 (decide ((a0.size : Int) > a1)))) = some (r1, r2) := h
 clear h
 have HC3 := Aside0.mk H
 clear H
 go_enter Tryz.func51, Tryz.ntmps51
 go_upto_region 1 with (fail)
 go_cut [16] (fun v16 wc => ∃ (kq : Nat) (x16_2 : Bool), v16 = .bool x16_2 ∧ Aside0 (spec_l2number.j0 kq a0 x16_2 = some (r1, r2)) ∧ Aside0 (kq ≤ k) ∧ Drawn0 w wc)
 case first =>
  have H := HC3.out
  clear HC3
  by_cases c4 : (a0.size : Int) < 1
  ·rw [if_pos c4] at H
   have c4b0 : decide ((a0.size : Int) < 1) = true := decide_eq_true c4
   have c4b1 : decide (a0.size < 1) = true := decide_eq_true (by omega)
   clear c4
   (first | rw [c4b0] | (simp only [i64_w, i32_w]; rw [c4b0]) | rw [c4b1] | simp only [c4b2, decide_true, decide_false] | skip)
   have H' := Aside0.mk H
   clear H
   go_wp2
   go_meet
   case rel => exact ⟨_, (true), z1_6_, H', ⟨(by first | omega | exact Nat.le_refl _)⟩, z1_11_⟩
  ·rw [if_neg c4] at H
   have c4b0 : decide ((a0.size : Int) < 1) = false := decide_eq_false c4
   have c4b1 : decide (a0.size < 1) = false := decide_eq_false (by omega)
   clear c4
   (first | rw [c4b0] | (simp only [i64_w, i32_w]; rw [c4b0]) | rw [c4b1] | simp only [c4b2, decide_true, decide_false] | skip)
   have H' := Aside0.mk H
   clear H
   go_wp2
   go_meet
   case rel => exact ⟨_, (decide ((a0.size : Int) > a1)), z1_6_, H', ⟨(by first | omega | exact Nat.le_refl _)⟩, z1_11_⟩
 case rest =>
  clear HC3
  try clear p2
  try clear c4
  try clear c4b0
  try clear c4b1
  obtain ⟨kq, x16_2, rfl, HA, HJ2, ⟨mc2, rfl⟩⟩ := hcut
  cases kq with
  | zero => exact absurd HA.out (by simp [spec_l2number.j0])
  | succ kj2 =>
   have H := HA.out
   clear HA
   simp only [spec_l2number.j0] at H
   by_cases c5 : x16_2 = true
   ·subst c5
    rw [if_pos rfl] at H
    simp only [Option.some.injEq, Prod.mk.injEq] at H
    obtain ⟨rfl, rfl⟩ := H
    go_wp2
    go_ret2
    exact ⟨z1_6_, z1_11_⟩
   ·replace c5 := Bool.eq_false_iff.mpr c5
    subst c5
    rw [if_neg (show ¬ (false = true) by decide)] at H
    have H' := Aside0.mk H
    clear H
    go_wp2
    go_loopg [6, 7] kj2 (fun kq v6 v7 w' => ∃ (x6_2 : Int) (x7_2 : Int), v6 = .int .i64 x6_2 ∧ v7 = .int .i64 x7_2 ∧ Aside0 (spec_l2number.l0 kq a0 x6_2 x7_2 = some (r1, r2)) ∧ Aside0 (kq ≤ kj2) ∧ Drawn0 w w')
    case atStart => exact ⟨(0), (0), z1_6_, z1_6_, H', ⟨Nat.le_refl _⟩, z1_11_⟩
    case round =>
     clear H'
     try clear c2
     try clear p2
     try clear c4
     try clear c4b0
     try clear c4b1
     try clear c5
     try clear p2
     obtain ⟨x6_2, x7_2, rfl, rfl, HA, HK2, ⟨m2, rfl⟩⟩ := hrel
     cases gk with
     | zero => exact absurd HA.out (by simp [spec_l2number.l0])
     | succ k2 =>
      have H := HA.out
      clear HA
      simp only [spec_l2number.l0] at H
      by_cases c6 : x7_2 < (a0.size : Int)
      ·rw [if_pos c6] at H
       have c6b0 : decide (x7_2 < (a0.size : Int)) = true := decide_eq_true c6
       clear c6
       by_cases c7 : 0 ≤ x7_2
       ·rw [if_pos c7] at H
        have c7b0 : decide (0 ≤ x7_2) = true := decide_eq_true c7
        clear c7
        by_cases c9 : (bt a0 x7_2) < 48
        ·rw [if_pos c9] at H
         have c9b0 : decide ((bt a0 x7_2) < 48) = true := decide_eq_true c9
         clear c9
         simp only [Option.some.injEq, Prod.mk.injEq] at H
         obtain ⟨rfl, rfl⟩ := H
         have p8 : 0 ≤ (x7_2 : Int) := of_decide_eq_true z1_4_
         have q8 : x7_2 < (a0.size : Int) := of_decide_eq_true z1_4_
         have hx8 := bt_at a0 x7_2
         replace p8 := eq_true p8
         replace q8 := eq_true q8
         go_wp2
         go_ret2
         exact ⟨z1_6_, z1_11_⟩
        ·rw [if_neg c9] at H
         have c9b0 : decide ((bt a0 x7_2) < 48) = false := decide_eq_false c9
         clear c9
         by_cases c11 : (bt a0 x7_2) > 57
         ·rw [if_pos c11] at H
          have c11b0 : decide (57 < (bt a0 x7_2)) = true := decide_eq_true c11
          clear c11
          simp only [Option.some.injEq, Prod.mk.injEq] at H
          obtain ⟨rfl, rfl⟩ := H
          have p8 : 0 ≤ (x7_2 : Int) := of_decide_eq_true z1_4_
          have q8 : x7_2 < (a0.size : Int) := of_decide_eq_true z1_4_
          have hx8 := bt_at a0 x7_2
          replace p8 := eq_true p8
          replace q8 := eq_true q8
          have p10 : 0 ≤ (x7_2 : Int) := of_decide_eq_true z1_4_
          have q10 : x7_2 < (a0.size : Int) := of_decide_eq_true z1_4_
          have hx10 := bt_at a0 x7_2
          replace p10 := eq_true p10
          replace q10 := eq_true q10
          go_wp2
          go_ret2
          exact ⟨z1_6_, z1_11_⟩
         ·rw [if_neg c11] at H
          have c11b0 : decide (57 < (bt a0 x7_2)) = false := decide_eq_false c11
          clear c11
          have H' := Aside0.mk H
          clear H
          have p8 : 0 ≤ (x7_2 : Int) := of_decide_eq_true z1_4_
          have q8 : x7_2 < (a0.size : Int) := of_decide_eq_true z1_4_
          have hx8 := bt_at a0 x7_2
          replace p8 := eq_true p8
          replace q8 := eq_true q8
          have p10 : 0 ≤ (x7_2 : Int) := of_decide_eq_true z1_4_
          have q10 : x7_2 < (a0.size : Int) := of_decide_eq_true z1_4_
          have hx10 := bt_at a0 x7_2
          replace p10 := eq_true p10
          replace q10 := eq_true q10
          have p12 : 0 ≤ (x7_2 : Int) := of_decide_eq_true z1_4_
          have q12 : x7_2 < (a0.size : Int) := of_decide_eq_true z1_4_
          have hx12 := bt_at a0 x7_2
          replace p12 := eq_true p12
          replace q12 := eq_true q12
          go_wp2
          go_roundg k2
          case measure => have := HJ2.out; have := HK2.out; omega
          case rel => exact ⟨(wrap64 ((wrap64 (x6_2 * 10)) + (((bt a0 x7_2) - 48) % 256))), (wrap64 (x7_2 + 1)), z1_6_, z1_6_, H', ⟨(by have := HJ2.out; have := HK2.out; omega)⟩, z1_11_⟩
       ·rw [if_neg c7] at H
        exact absurd H (by simp)
      ·rw [if_neg c6] at H
       have c6b0 : decide (x7_2 < (a0.size : Int)) = false := decide_eq_false c6
       clear c6
       simp only [Option.some.injEq, Prod.mk.injEq] at H
       obtain ⟨rfl, rfl⟩ := H
       go_wp2
       go_ret2
       exact ⟨z1_6_, z1_11_⟩
/-! ### spec_l6rd_num: function 25 -/
def spec_l6rd_num.f (k : Nat) (s0_0 : ByteArray) : Option (Int × ByteArray) := (spec_l6rd_upTo.f k s0_0 32).bind fun bt101 => ((spec_l2number.f k bt101.1 12).bind fun bt103 => (some (bt103.1, bt101.2)))
theorem spec_l6rd_num.mono : ∀ a0 k, LeO (spec_l6rd_num.f k a0) (spec_l6rd_num.f (k + 1) a0) := by
 intro a0 k
 unfold spec_l6rd_num.f
 repeat' first
   | (with_reducible exact spec_l2number.mono _ _ _)
   | (with_reducible exact spec_l6rd_upTo.mono _ _ _)
   | (with_reducible exact LeO.refl _)
   | (with_reducible exact LeO.none _)
   | (with_reducible refine LeO.ite ?_ ?_)
   | (with_reducible refine LeO.bind ?_ (fun _ => ?_))
   | exact spec_l2number.mono _ _ _
   | exact spec_l6rd_upTo.mono _ _ _
   | exact LeO.none _
   | refine LeO.ite ?_ ?_
   | refine LeO.bind ?_ (fun _ => ?_)
set_option maxHeartbeats 8000000 in
set_option maxRecDepth 100000 in
theorem spec_l6rd_num.calls (k : Nat) (g : Nat) (s0_0 : ByteArray) (r1 : Int) (r2 : ByteArray) (w0 w : World) (hI : IsS54 w0 w g s0_0) (hB : Below w0.heap.size w0 w) (h : spec_l6rd_num.f k s0_0 = some (r1, r2)) :
  Calls Tryz.prog 25 #[.pointer (some ⟨g, 0, none⟩)] w fun e w' => e = .returned (.int .i64 r1) ∧ IsS54 w0 w' g r2 ∧ Below w0.heap.size w0 w' ∧ KeepBut w w' g none := by
 have HI0 := Aside0.mk hI
 have HK := Aside0.mk (KeepBut.refl w g none)
 have HL := Aside0.mk hB.size
 clear hI
 have HW0 := Aside0.mk hB.size
 have HB := Aside0.mk hB
 clear hB
 have H : ((spec_l6rd_upTo.f k s0_0 32).bind fun bt101 => ((spec_l2number.f k bt101.1 12).bind fun bt103 => (some (bt103.1, bt101.2)))) = some (r1, r2) := h
 clear h
 obtain ⟨⟨t101, t102⟩, A2, H⟩ := zbi H
 try dsimp only at H
 obtain ⟨⟨t103, t104⟩, A3, H⟩ := zbi H
 try dsimp only at H
 simp only [Option.some.injEq, Prod.mk.injEq] at H
 obtain ⟨rfl, rfl⟩ := H
 go_enter Tryz.func25, Tryz.ntmps25
 go_wp2_with (first | ((with_reducible refine gate_callee (f := 24) rfl ?_); refine goesL_ (some 7) rfl rfl Tryz.func24 (by kernel_rfl) rfl #[.pointer (some ⟨g, 0, none⟩), .int .u8 32] rfl z1_10_ ?_; (with_reducible refine (spec_l6rd_upTo.calls k g s0_0 32 t101 t102 w0 _ ?side1 ?side2 A2.out).mono ?_); (case side1 => exact z1_1_); (case side2 => exact z1_0_); rintro e w4 ⟨rfl, hi, hb, hk⟩; refine ⟨_, rfl, ?_⟩; replace HK := Aside0.mk (KeepBut.trans z1_3_ hk (.inl rfl)); replace HB := Aside0.mk (hb); replace HI0 := Aside0.mk (hi); clear hb hk hi) | ((with_reducible refine gate_callee (f := 51) rfl ?_); refine goesL_ (some 8) rfl rfl Tryz.func51 (by kernel_rfl) rfl #[.string t101, .int .i64 12] rfl z1_10_ ?_; (with_reducible refine (spec_l2number.calls k t101 12 t103 t104 _ A3.out).mono ?_); rintro e w' ⟨rfl, ⟨nd, rfl⟩⟩; refine ⟨_, rfl, ?_⟩))
 go_ret
 exact ⟨z1_7_, z1_1_, z1_0_, z1_3_⟩
/-! ### spec_l1keep: function 52 -/
def spec_l1keep.f (a0 : ByteArray) (a1 : Int) : Option (ByteArray) := if a1 < 0 then (some (⟨#[]⟩ : ByteArray)) else (if a1 > (a0.size : Int) then (some a0) else (if 0 ≤ a1 then (if a1 ≤ (a0.size : Int) then (some (a0.extract 0 (a1 : Int).toNat)) else (none)) else (none)))
set_option maxHeartbeats 8000000 in
set_option maxRecDepth 100000 in
theorem spec_l1keep.calls (a0 : ByteArray) (a1 : Int) (r : ByteArray) (w : World) (h : spec_l1keep.f a0 a1 = some r) :
  Calls Tryz.prog 52 #[.string a0, .int .i64 a1] w fun e w' => e = .returned (.string r) ∧ Drawn0 w w' := by
 have H := h
 unfold spec_l1keep.f at H
 clear h
 by_cases c3 : a1 < 0
 ·rw [if_pos c3] at H
  have c3b0 : decide (a1 < 0) = true := decide_eq_true c3
  clear c3
  obtain rfl := Option.some.inj H
  go_enter Tryz.func52, Tryz.ntmps52
  go_wp2
  go_ret
  exact ⟨z1_6_, z1_11_⟩
 ·rw [if_neg c3] at H
  have c3b0 : decide (a1 < 0) = false := decide_eq_false c3
  clear c3
  by_cases c4 : a1 > (a0.size : Int)
  ·rw [if_pos c4] at H
   have c4b0 : decide ((a0.size : Int) < a1) = true := decide_eq_true c4
   clear c4
   obtain rfl := Option.some.inj H
   go_enter Tryz.func52, Tryz.ntmps52
   go_wp2
   go_ret
   exact ⟨z1_6_, z1_11_⟩
  ·rw [if_neg c4] at H
   have c4b0 : decide ((a0.size : Int) < a1) = false := decide_eq_false c4
   clear c4
   by_cases c5 : 0 ≤ a1
   ·rw [if_pos c5] at H
    have c5b0 := eq_true c5
    have c5b1 : decide (0 ≤ a1) = true := decide_eq_true c5
    clear c5
    by_cases c6 : a1 ≤ (a0.size : Int)
    ·rw [if_pos c6] at H
     have c6b0 := eq_true c6
     have c6b1 : decide (a1 ≤ (a0.size : Int)) = true := decide_eq_true c6
     clear c6
     obtain rfl := Option.some.inj H
     go_enter Tryz.func52, Tryz.ntmps52
     go_wp2
     go_ret
     exact ⟨z1_6_, z1_11_⟩
    ·rw [if_neg c6] at H
     exact absurd H (by simp)
   ·rw [if_neg c5] at H
    exact absurd H (by simp)
/-! ### spec_l6rd_str: function 26 -/
def spec_l6rd_str.f (k : Nat) (s0_0 : ByteArray) : Option (ByteArray × ByteArray) := (spec_l6rd_upTo.f k s0_0 58).bind fun bt105 => ((spec_l2number.f k bt105.1 9).bind fun bt107 => ((spec_l1keep.f bt105.2 bt107.1).bind fun t109 => (if 0 ≤ (t109.size : Int) then (if (t109.size : Int) ≤ (bt105.2.size : Int) then (if ((bt105.2.extract ((t109.size : Int) : Int).toNat bt105.2.size).size : Int) > 0 then (if 1 ≤ ((bt105.2.extract ((t109.size : Int) : Int).toNat bt105.2.size).size : Int) then (some (t109, (bt105.2.extract ((t109.size : Int) : Int).toNat bt105.2.size).extract 1 (bt105.2.extract ((t109.size : Int) : Int).toNat bt105.2.size).size)) else (none)) else (some (t109, bt105.2.extract ((t109.size : Int) : Int).toNat bt105.2.size))) else (none)) else (none))))
theorem spec_l6rd_str.mono : ∀ a0 k, LeO (spec_l6rd_str.f k a0) (spec_l6rd_str.f (k + 1) a0) := by
 intro a0 k
 unfold spec_l6rd_str.f
 repeat' first
   | (with_reducible exact spec_l2number.mono _ _ _)
   | (with_reducible exact spec_l6rd_upTo.mono _ _ _)
   | (with_reducible exact LeO.refl _)
   | (with_reducible exact LeO.none _)
   | (with_reducible refine LeO.ite ?_ ?_)
   | (with_reducible refine LeO.bind ?_ (fun _ => ?_))
   | exact spec_l2number.mono _ _ _
   | exact spec_l6rd_upTo.mono _ _ _
   | exact LeO.none _
   | refine LeO.ite ?_ ?_
   | refine LeO.bind ?_ (fun _ => ?_)
set_option maxHeartbeats 8000000 in
set_option maxRecDepth 100000 in
theorem spec_l6rd_str.calls (k : Nat) (g : Nat) (s0_0 : ByteArray) (r1 : ByteArray) (r2 : ByteArray) (w0 w : World) (hI : IsS54 w0 w g s0_0) (hB : Below w0.heap.size w0 w) (h : spec_l6rd_str.f k s0_0 = some (r1, r2)) :
  Calls Tryz.prog 26 #[.pointer (some ⟨g, 0, none⟩)] w fun e w' => e = .returned (.string r1) ∧ IsS54 w0 w' g r2 ∧ Below w0.heap.size w0 w' ∧ KeepBut w w' g none := by
 have HI0 := Aside0.mk hI
 have HK := Aside0.mk (KeepBut.refl w g none)
 have HL := Aside0.mk hB.size
 clear hI
 have HW0 := Aside0.mk hB.size
 have HB := Aside0.mk hB
 clear hB
 have H := h
 unfold spec_l6rd_str.f at H
 clear h
 obtain ⟨⟨t105, t106⟩, A2, H⟩ := zbi H
 try dsimp only at H
 obtain ⟨⟨t107, t108⟩, A3, H⟩ := zbi H
 try dsimp only at H
 obtain ⟨t109, A4, H⟩ := zbi H
 by_cases c5 : 0 ≤ (t109.size : Int)
 ·rw [if_pos c5] at H
  have c5b0 := eq_true c5
  have c5b1 : decide (0 ≤ (t109.size : Int)) = true := decide_eq_true c5
  clear c5
  by_cases c6 : (t109.size : Int) ≤ (t106.size : Int)
  ·rw [if_pos c6] at H
   have c6b0 := eq_true c6
   have c6b1 : decide ((t109.size : Int) ≤ (t106.size : Int)) = true := decide_eq_true c6
   clear c6
   have HS7 := Aside0.mk H
   clear H
   go_enter Tryz.func26, Tryz.ntmps26
   go_upto_if 33 with (first | ((with_reducible refine gate_callee (f := 24) rfl ?_); refine goesL_ (some 8) rfl rfl Tryz.func24 (by kernel_rfl) rfl #[.pointer (some ⟨g, 0, none⟩), .int .u8 58] rfl z1_10_ ?_; (with_reducible refine (spec_l6rd_upTo.calls k g s0_0 58 t105 t106 w0 _ ?side1 ?side2 A2.out).mono ?_); (case side1 => exact z1_1_); (case side2 => exact z1_0_); rintro e w8 ⟨rfl, hi, hb, hk⟩; refine ⟨_, rfl, ?_⟩; replace HK := Aside0.mk (KeepBut.trans z1_3_ hk (.inl rfl)); replace HB := Aside0.mk (hb); replace HI0 := Aside0.mk (hi); clear hb hk hi) | ((with_reducible refine gate_callee (f := 51) rfl ?_); refine goesL_ (some 9) rfl rfl Tryz.func51 (by kernel_rfl) rfl #[.string t105, .int .i64 9] rfl z1_10_ ?_; (with_reducible refine (spec_l2number.calls k t105 9 t107 t108 _ A3.out).mono ?_); rintro e w' ⟨rfl, ⟨nd, rfl⟩⟩; refine ⟨_, rfl, ?_⟩; (try (rw [drewN_self w8]; generalize hq_ : World.drewN w8 _ = w8; have n0_ : Aside0 (IsS54 w0 w8 g t106) := ⟨(by rw [← hq_]; exact z1_1_)⟩; have n1_ : Aside0 (KeepBut w w8 g none) := ⟨(by rw [← hq_]; exact z1_3_)⟩; have n2_ : Aside0 (Below w0.heap.size w0 w8) := ⟨(by rw [← hq_]; exact z1_0_)⟩; clear HI0 HK HB hq_; have HI0 := n0_; have HK := n1_; have HB := n2_; clear n0_ n1_ n2_)); obtain ⟨HGz9, hgz9⟩ := HI0.out; have q9_0 := cellS54_0 HGz9; have f9_0 := blk_frozen HGz9 0; clear HGz9 hgz9) | ((with_reducible refine gate_callee (f := 52) rfl ?_); refine goesL_ (some 17) rfl rfl Tryz.func52 (by kernel_rfl) rfl #[.string t106, .int .i64 t107] rfl z1_10_ ?_; (with_reducible refine (spec_l1keep.calls t106 t107 t109 _ A4.out).mono ?_); rintro e w' ⟨rfl, ⟨nd, rfl⟩⟩; refine ⟨_, rfl, ?_⟩; (try (rw [drewN_self w8]; generalize hq_ : World.drewN w8 _ = w8; have n0_ : Aside0 (IsS54 w0 w8 g t106) := ⟨(by rw [← hq_]; exact z1_1_)⟩; have n1_ : Aside0 (KeepBut w w8 g none) := ⟨(by rw [← hq_]; exact z1_3_)⟩; have n2_ : Aside0 (Below w0.heap.size w0 w8) := ⟨(by rw [← hq_]; exact z1_0_)⟩; clear HI0 HK HB hq_; have HI0 := n0_; have HK := n1_; have HB := n2_; clear n0_ n1_ n2_)); obtain ⟨HGz9, hgz9⟩ := HI0.out; have q9_0 := cellS54_0 HGz9; have f9_0 := blk_frozen HGz9 0; clear HGz9 hgz9))
   (try simp only [Act.put, List.setIfInBounds_toArray, List.set_cons_zero, List.set_cons_succ])
   have H := HS7.out
   clear HS7
   by_cases c10 : ((t106.extract ((t109.size : Int) : Int).toNat t106.size).size : Int) > 0
   ·rw [if_pos c10] at H
    have c10b0 : decide (0 < ((t106.extract ((t109.size : Int) : Int).toNat t106.size).size : Int)) = true := decide_eq_true c10
    have c10b1 : decide (0 < (t106.extract ((t109.size : Int) : Int).toNat t106.size).size) = true := decide_eq_true (by omega)
    try have c10b2 := c10b1
    try (simp only [ByteArray.size_extract, Nat.min_self, Int.toNat_natCast, decide_eq_true_eq] at c10b2; replace c10b2 := eq_true c10b2)
    clear c10
    (first | rw [c10b0] | (simp only [i64_w, i32_w]; rw [c10b0]) | rw [c10b1] | simp only [c10b2, decide_true, decide_false] | skip)
    by_cases c11 : 1 ≤ ((t106.extract ((t109.size : Int) : Int).toNat t106.size).size : Int)
    ·rw [if_pos c11] at H
     have c11b0 := eq_true c11
     have c11b1 : decide (1 ≤ ((t106.extract ((t109.size : Int) : Int).toNat t106.size).size : Int)) = true := decide_eq_true c11
     try have c11b2 := c11b1
     try (simp only [ByteArray.size_extract, Nat.min_self, Int.toNat_natCast, decide_eq_true_eq] at c11b2; replace c11b2 := eq_true c11b2)
     clear c11
     simp only [Option.some.injEq, Prod.mk.injEq] at H
     obtain ⟨rfl, rfl⟩ := H
     obtain ⟨HGz12, hgz12⟩ := HI0.out
     have q12_0 := cellS54_0 HGz12
     have f12_0 := blk_frozen HGz12 0
     clear HGz12 hgz12
     go_wp2
     go_ret
     try simp only [ByteArray.size_extract, Nat.min_self, Int.toNat_natCast]
     exact ⟨z1_7_, z1_1_, z1_0_, z1_3_⟩
    ·rw [if_neg c11] at H
     exact absurd H (by simp)
   ·rw [if_neg c10] at H
    have c10b0 : decide (0 < ((t106.extract ((t109.size : Int) : Int).toNat t106.size).size : Int)) = false := decide_eq_false c10
    have c10b1 : decide (0 < (t106.extract ((t109.size : Int) : Int).toNat t106.size).size) = false := decide_eq_false (by omega)
    try have c10b2 := c10b1
    try (simp only [ByteArray.size_extract, Nat.min_self, Int.toNat_natCast, decide_eq_false_iff_not] at c10b2; replace c10b2 := eq_false c10b2)
    clear c10
    (first | rw [c10b0] | (simp only [i64_w, i32_w]; rw [c10b0]) | rw [c10b1] | simp only [c10b2, decide_true, decide_false] | skip)
    simp only [Option.some.injEq, Prod.mk.injEq] at H
    obtain ⟨rfl, rfl⟩ := H
    go_wp2
    go_ret
    try simp only [ByteArray.size_extract, Nat.min_self, Int.toNat_natCast]
    exact ⟨z1_7_, z1_1_, z1_0_, z1_3_⟩
  ·rw [if_neg c6] at H
   exact absurd H (by simp)
 ·rw [if_neg c5] at H
  exact absurd H (by simp)
/-! ### impl_sameMessage: function 87 -/
mutual
def impl_sameMessage.j0 : Nat → Bool → Int → Int → ByteArray → List ByteArray → ByteArray → Int → Int → ByteArray → List ByteArray → ByteArray → Option (Bool)
 | 0, _, _, _, _, _, _, _, _, _, _, _ => none
 | k + 1, x40, x111000, x111001, x111002, x111003, x111004, x112000, x112001, x112002, x112003, x112004 => if x40 = true then (some false) else (impl_sameMessage.l0 k (x111003.length : Int) 0 x111000 x111001 x111002 x111003 x111004 x112000 x112001 x112002 x112003 x112004)
def impl_sameMessage.l0 : Nat → Int → Int → Int → Int → ByteArray → List ByteArray → ByteArray → Int → Int → ByteArray → List ByteArray → ByteArray → Option (Bool)
 | 0, _, _, _, _, _, _, _, _, _, _, _, _ => none
 | k + 1, x43, x44, x111000, x111001, x111002, x111003, x111004, x112000, x112001, x112002, x112003, x112004 => if x44 < x43 then (if 0 ≤ x44 then (if x44 < (x111003.length : Int) then (if x44 < (x112003.length : Int) then (if (rdOf ByteArray.empty x111003 x44).toList = (rdOf ByteArray.empty x112003 x44).toList then (impl_sameMessage.l0 k x43 (wrap64 (x44 + 1)) x111000 x111001 x111002 x111003 x111004 x112000 x112001 x112002 x112003 x112004) else (some false)) else (none)) else (none)) else (none)) else (some true)
end
def impl_sameMessage.f (k : Nat) (a0_0 : Int) (a0_1 : Int) (a0_2 : ByteArray) (l0_3 : List ByteArray) (a0_4 : ByteArray) (a1_0 : Int) (a1_1 : Int) (a1_2 : ByteArray) (l1_3 : List ByteArray) (a1_4 : ByteArray) : Option (Bool) := if a0_0 = a1_0 then (if a0_1 = a1_1 then (if a0_2.toList = a1_2.toList then (if a0_4.toList = a1_4.toList then (impl_sameMessage.j0 k ((l0_3.length : Int) != (l1_3.length : Int)) a0_0 a0_1 a0_2 l0_3 a0_4 a1_0 a1_1 a1_2 l1_3 a1_4) else (impl_sameMessage.j0 k true a0_0 a0_1 a0_2 l0_3 a0_4 a1_0 a1_1 a1_2 l1_3 a1_4)) else (impl_sameMessage.j0 k true a0_0 a0_1 a0_2 l0_3 a0_4 a1_0 a1_1 a1_2 l1_3 a1_4)) else (impl_sameMessage.j0 k true a0_0 a0_1 a0_2 l0_3 a0_4 a1_0 a1_1 a1_2 l1_3 a1_4)) else (impl_sameMessage.j0 k true a0_0 a0_1 a0_2 l0_3 a0_4 a1_0 a1_1 a1_2 l1_3 a1_4)
theorem impl_sameMessage.mono_l : ∀ k, (∀ y0 y1 y2 y3 y4 y5 y6 y7 y8 y9 y10, LeO (impl_sameMessage.j0 k y0 y1 y2 y3 y4 y5 y6 y7 y8 y9 y10) (impl_sameMessage.j0 (k + 1) y0 y1 y2 y3 y4 y5 y6 y7 y8 y9 y10)) ∧ (∀ y0 y1 y2 y3 y4 y5 y6 y7 y8 y9 y10 y11, LeO (impl_sameMessage.l0 k y0 y1 y2 y3 y4 y5 y6 y7 y8 y9 y10 y11) (impl_sameMessage.l0 (k + 1) y0 y1 y2 y3 y4 y5 y6 y7 y8 y9 y10 y11))
 | 0 => ⟨fun _ _ _ _ _ _ _ _ _ _ _ r h => by simp [impl_sameMessage.j0] at h, fun _ _ _ _ _ _ _ _ _ _ _ _ r h => by simp [impl_sameMessage.l0] at h⟩
 | k + 1 => by
  obtain ⟨ih0, ih1⟩ := impl_sameMessage.mono_l k
  refine ⟨?_, ?_⟩
  ·intro y0 y1 y2 y3 y4 y5 y6 y7 y8 y9 y10
   unfold impl_sameMessage.j0
   repeat' first
   | (with_reducible exact ih0 _ _ _ _ _ _ _ _ _ _ _)
   | (with_reducible exact ih1 _ _ _ _ _ _ _ _ _ _ _ _)
   | (with_reducible exact LeO.refl _)
   | (with_reducible exact LeO.none _)
   | (with_reducible refine LeO.ite ?_ ?_)
   | (with_reducible refine LeO.bind ?_ (fun _ => ?_))
   | exact ih0 _ _ _ _ _ _ _ _ _ _ _
   | exact ih1 _ _ _ _ _ _ _ _ _ _ _ _
   | exact LeO.none _
   | refine LeO.ite ?_ ?_
   | refine LeO.bind ?_ (fun _ => ?_)
  ·intro y0 y1 y2 y3 y4 y5 y6 y7 y8 y9 y10 y11
   unfold impl_sameMessage.l0
   repeat' first
   | (with_reducible exact ih0 _ _ _ _ _ _ _ _ _ _ _)
   | (with_reducible exact ih1 _ _ _ _ _ _ _ _ _ _ _ _)
   | (with_reducible exact LeO.refl _)
   | (with_reducible exact LeO.none _)
   | (with_reducible refine LeO.ite ?_ ?_)
   | (with_reducible refine LeO.bind ?_ (fun _ => ?_))
   | exact ih0 _ _ _ _ _ _ _ _ _ _ _
   | exact ih1 _ _ _ _ _ _ _ _ _ _ _ _
   | exact LeO.none _
   | refine LeO.ite ?_ ?_
   | refine LeO.bind ?_ (fun _ => ?_)
theorem impl_sameMessage.mono : ∀ a0 a1 a2 a3 a4 a5 a6 a7 a8 a9 k, LeO (impl_sameMessage.f k a0 a1 a2 a3 a4 a5 a6 a7 a8 a9) (impl_sameMessage.f (k + 1) a0 a1 a2 a3 a4 a5 a6 a7 a8 a9) := by
 intro a0 a1 a2 a3 a4 a5 a6 a7 a8 a9 k
 obtain ⟨ih0, ih1⟩ := impl_sameMessage.mono_l k
 unfold impl_sameMessage.f
 repeat' first
   | (with_reducible exact ih0 _ _ _ _ _ _ _ _ _ _ _)
   | (with_reducible exact ih1 _ _ _ _ _ _ _ _ _ _ _ _)
   | (with_reducible exact LeO.refl _)
   | (with_reducible exact LeO.none _)
   | (with_reducible refine LeO.ite ?_ ?_)
   | (with_reducible refine LeO.bind ?_ (fun _ => ?_))
   | exact ih0 _ _ _ _ _ _ _ _ _ _ _
   | exact ih1 _ _ _ _ _ _ _ _ _ _ _ _
   | exact LeO.none _
   | refine LeO.ite ?_ ?_
   | refine LeO.bind ?_ (fun _ => ?_)
set_option maxHeartbeats 8000000 in
set_option maxRecDepth 100000 in
theorem impl_sameMessage.calls (k : Nat) (a0_0 : Int) (a0_1 : Int) (a0_2 : ByteArray) (A0_3 : Option Addr) (c0_3 : Nat) (l0_3 : List ByteArray) (a0_4 : ByteArray) (a1_0 : Int) (a1_1 : Int) (a1_2 : ByteArray) (A1_3 : Option Addr) (c1_3 : Nat) (l1_3 : List ByteArray) (a1_4 : ByteArray) (r : Bool) (w : World) (hr0_3 : Kd.C Kd.string w A0_3 l0_3.length l0_3) (hc0_3 : l0_3.length ≤ c0_3) (hr1_3 : Kd.C Kd.string w A1_3 l1_3.length l1_3) (hc1_3 : l1_3.length ≤ c1_3) (h : impl_sameMessage.f k a0_0 a0_1 a0_2 l0_3 a0_4 a1_0 a1_1 a1_2 l1_3 a1_4 = some r) :
  Calls Tryz.prog 87 #[.agg #[.int .i64 a0_0, .int .i64 a0_1, .string a0_2, .slice A0_3 l0_3.length c0_3, .string a0_4], .agg #[.int .i64 a1_0, .int .i64 a1_1, .string a1_2, .slice A1_3 l1_3.length c1_3, .string a1_4]] w fun e w' => e = .returned (.bool r) ∧ Below w.heap.size w w' := by
 have hu24 := Tryz.underlying24
 have HR0_3 := Aside0.mk hr0_3
 have HC0_3 := Aside0.mk hc0_3
 clear hr0_3 hc0_3
 have HR1_3 := Aside0.mk hr1_3
 have HC1_3 := Aside0.mk hc1_3
 clear hr1_3 hc1_3
 have HB := Aside0.mk (Below.refl w.heap.size w)
 have H := h
 unfold impl_sameMessage.f at H
 clear h
 have HC3 := Aside0.mk H
 clear H
 go_enter Tryz.func87, Tryz.ntmps87
 go_upto_region 1 with (first | ((with_reducible refine gate_dst (N := 2) rfl ?_); (try (refine gate_guard (by rfl) ?_; dsimp only)); refine box_event (by rfl) (N := 2) (by rfl) (cs := #[.int .i64 a0_0, .int .i64 a0_1, .string a0_2, .slice A0_3 l0_3.length c0_3, .string a0_4]) (t := 24) (by first | (go_simp; done) | (go_simp; rfl)) ?_; intro gb110 hg w4 hbox hb; have BK110 := Aside0.mk (hbox); have GW110 := Aside0.mk ((by rw [hg]; exact (below_size (bq_)) : w.heap.size ≤ gb110)); have GE110 := GW110; replace HB := Aside0.mk (below_step (bq_) hb); clear hb hbox hg) | ((with_reducible refine gate_dst (N := 3) rfl ?_); (try (refine gate_guard (by rfl) ?_; dsimp only)); refine box_event (by rfl) (N := 3) (by rfl) (cs := #[.int .i64 a1_0, .int .i64 a1_1, .string a1_2, .slice A1_3 l1_3.length c1_3, .string a1_4]) (t := 24) (by first | (go_simp; done) | (go_simp; rfl)) ?_; intro gb111 hg w5 hbox hb; have BK111 := Aside0.mk (hbox); have GW111 := Aside0.mk ((by rw [hg]; exact (below_size z1_8_) : w.heap.size ≤ gb111)); have GE111 := GW111; replace HB := Aside0.mk (below_step z1_8_ hb); have NB110_111 := Aside0.mk ((by rw [hg]; exact Nat.ne_of_lt (blk_lt (g := gb110) (o := .cells #[.int .i64 a0_0, .int .i64 a0_1, .string a0_2, .slice A0_3 l0_3.length c0_3, .string a0_4] 24 (0, 0)) z1_5_) : gb110 ≠ gb111)); have NB111_110 := Aside0.mk NB110_111.out.symm; replace BK110 := Aside0.mk (zbb BK110.out hb); clear hb hbox hg))
 repeat (go_quiet (first | ((with_reducible refine gate_dst (N := 2) rfl ?_); (try (refine gate_guard (by rfl) ?_; dsimp only)); refine box_event (by rfl) (N := 2) (by rfl) (cs := #[.int .i64 a0_0, .int .i64 a0_1, .string a0_2, .slice A0_3 l0_3.length c0_3, .string a0_4]) (t := 24) (by first | (go_simp; done) | (go_simp; rfl)) ?_; intro gb110 hg w4 hbox hb; have BK110 := Aside0.mk (hbox); have GW110 := Aside0.mk ((by rw [hg]; exact (below_size (bq_)) : w.heap.size ≤ gb110)); have GE110 := GW110; replace HB := Aside0.mk (below_step (bq_) hb); clear hb hbox hg) | ((with_reducible refine gate_dst (N := 3) rfl ?_); (try (refine gate_guard (by rfl) ?_; dsimp only)); refine box_event (by rfl) (N := 3) (by rfl) (cs := #[.int .i64 a1_0, .int .i64 a1_1, .string a1_2, .slice A1_3 l1_3.length c1_3, .string a1_4]) (t := 24) (by first | (go_simp; done) | (go_simp; rfl)) ?_; intro gb111 hg w5 hbox hb; have BK111 := Aside0.mk (hbox); have GW111 := Aside0.mk ((by rw [hg]; exact (below_size z1_8_) : w.heap.size ≤ gb111)); have GE111 := GW111; replace HB := Aside0.mk (below_step z1_8_ hb); have NB110_111 := Aside0.mk ((by rw [hg]; exact Nat.ne_of_lt (blk_lt (g := gb110) (o := .cells #[.int .i64 a0_0, .int .i64 a0_1, .string a0_2, .slice A0_3 l0_3.length c0_3, .string a0_4] 24 (0, 0)) z1_5_) : gb110 ≠ gb111)); have NB111_110 := Aside0.mk NB110_111.out.symm; replace BK110 := Aside0.mk (zbb BK110.out hb); clear hb hbox hg)); go_upto_region 1 with (first | ((with_reducible refine gate_dst (N := 2) rfl ?_); (try (refine gate_guard (by rfl) ?_; dsimp only)); refine box_event (by rfl) (N := 2) (by rfl) (cs := #[.int .i64 a0_0, .int .i64 a0_1, .string a0_2, .slice A0_3 l0_3.length c0_3, .string a0_4]) (t := 24) (by first | (go_simp; done) | (go_simp; rfl)) ?_; intro gb110 hg w4 hbox hb; have BK110 := Aside0.mk (hbox); have GW110 := Aside0.mk ((by rw [hg]; exact (below_size (bq_)) : w.heap.size ≤ gb110)); have GE110 := GW110; replace HB := Aside0.mk (below_step (bq_) hb); clear hb hbox hg) | ((with_reducible refine gate_dst (N := 3) rfl ?_); (try (refine gate_guard (by rfl) ?_; dsimp only)); refine box_event (by rfl) (N := 3) (by rfl) (cs := #[.int .i64 a1_0, .int .i64 a1_1, .string a1_2, .slice A1_3 l1_3.length c1_3, .string a1_4]) (t := 24) (by first | (go_simp; done) | (go_simp; rfl)) ?_; intro gb111 hg w5 hbox hb; have BK111 := Aside0.mk (hbox); have GW111 := Aside0.mk ((by rw [hg]; exact (below_size z1_8_) : w.heap.size ≤ gb111)); have GE111 := GW111; replace HB := Aside0.mk (below_step z1_8_ hb); have NB110_111 := Aside0.mk ((by rw [hg]; exact Nat.ne_of_lt (blk_lt (g := gb110) (o := .cells #[.int .i64 a0_0, .int .i64 a0_1, .string a0_2, .slice A0_3 l0_3.length c0_3, .string a0_4] 24 (0, 0)) z1_5_) : gb110 ≠ gb111)); have NB111_110 := Aside0.mk NB110_111.out.symm; replace BK110 := Aside0.mk (zbb BK110.out hb); clear hb hbox hg)))
 (try simp only [Act.put, List.setIfInBounds_toArray, List.set_cons_zero, List.set_cons_succ])
 go_cut [40] (fun v40 wc => ∃ (kq : Nat) (x40_2 : Bool), v40 = .bool x40_2 ∧ Aside0 (impl_sameMessage.j0 kq x40_2 a0_0 a0_1 a0_2 l0_3 a0_4 a1_0 a1_1 a1_2 l1_3 a1_4 = some r) ∧ Aside0 (kq ≤ k) ∧ Aside0 (wc.heap[gb110]? = some (.cells #[.int .i64 a0_0, .int .i64 a0_1, .string a0_2, (.slice A0_3 l0_3.length c0_3), .string a0_4] 24 (0, 0))) ∧ Aside0 (wc.heap[gb111]? = some (.cells #[.int .i64 a1_0, .int .i64 a1_1, .string a1_2, (.slice A1_3 l1_3.length c1_3), .string a1_4] 24 (0, 0))) ∧ Aside0 (Below w.heap.size w wc))
 case first =>
  have H := HC3.out
  clear HC3
  by_cases c6 : a0_0 = a1_0
  ·rw [if_pos c6] at H
   have c6b0 : (a0_0 == a1_0) = true := beq_iff_eq.mpr c6
   have c6b1 : (a0_0 != a1_0) = false := bne_eq_false_iff_eq.mpr c6
   clear c6
   (first | rw [c6b0] | (simp only [i64_w, i32_w]; rw [c6b0]) | rw [c6b1] | simp only [c6b2, decide_true, decide_false] | skip)
   by_cases c7 : a0_1 = a1_1
   ·rw [if_pos c7] at H
    have c7b0 : (a0_1 == a1_1) = true := beq_iff_eq.mpr c7
    have c7b1 : (a0_1 != a1_1) = false := bne_eq_false_iff_eq.mpr c7
    clear c7
    by_cases c8 : a0_2.toList = a1_2.toList
    ·rw [if_pos c8] at H
     have c8b0 : (a0_2.toList == a1_2.toList) = true := beq_iff_eq.mpr c8
     have c8b1 : (a0_2.toList != a1_2.toList) = false := bne_eq_false_iff_eq.mpr c8
     clear c8
     by_cases c9 : a0_4.toList = a1_4.toList
     ·rw [if_pos c9] at H
      have c9b0 : (a0_4.toList == a1_4.toList) = true := beq_iff_eq.mpr c9
      have c9b1 : (a0_4.toList != a1_4.toList) = false := bne_eq_false_iff_eq.mpr c9
      clear c9
      have H' := Aside0.mk H
      clear H
      have hnb10 := NB110_111.out
      have hnc10 := NB111_110.out
      obtain ⟨q11_0, q11_1, q11_2, q11_3, q11_4⟩ := zc5 BK110.out
      obtain ⟨f11_0, f11_1, f11_2, f11_3, f11_4⟩ := zf5 BK110.out
      obtain ⟨q12_0, q12_1, q12_2, q12_3, q12_4⟩ := zc5 BK111.out
      obtain ⟨f12_0, f12_1, f12_2, f12_3, f12_4⟩ := zf5 BK111.out
      go_wp2
      repeat (go_quiet (fail); try go_wp2)
      go_meet
      case rel => exact ⟨_, (((l0_3.length : Int) != (l1_3.length : Int))), z1_6_, H', ⟨(by first | omega | exact Nat.le_refl _)⟩, ⟨z1_5_⟩, ⟨z1_9_⟩, ⟨z1_2_⟩⟩
     ·rw [if_neg c9] at H
      have c9b0 : (a0_4.toList == a1_4.toList) = false := beq_eq_false_iff_ne.mpr c9
      have c9b1 : (a0_4.toList != a1_4.toList) = true := bne_iff_ne.mpr c9
      have H' := Aside0.mk H
      clear H
      have hnb13 := NB110_111.out
      have hnc13 := NB111_110.out
      obtain ⟨q14_0, q14_1, q14_2, q14_3, q14_4⟩ := zc5 BK110.out
      obtain ⟨f14_0, f14_1, f14_2, f14_3, f14_4⟩ := zf5 BK110.out
      obtain ⟨q15_0, q15_1, q15_2, q15_3, q15_4⟩ := zc5 BK111.out
      obtain ⟨f15_0, f15_1, f15_2, f15_3, f15_4⟩ := zf5 BK111.out
      go_wp2
      repeat (go_quiet (fail); try go_wp2)
      go_meet
      case rel => exact ⟨_, (true), z1_6_, H', ⟨(by first | omega | exact Nat.le_refl _)⟩, ⟨z1_5_⟩, ⟨z1_9_⟩, ⟨z1_2_⟩⟩
    ·rw [if_neg c8] at H
     have c8b0 : (a0_2.toList == a1_2.toList) = false := beq_eq_false_iff_ne.mpr c8
     have c8b1 : (a0_2.toList != a1_2.toList) = true := bne_iff_ne.mpr c8
     have H' := Aside0.mk H
     clear H
     have hnb16 := NB110_111.out
     have hnc16 := NB111_110.out
     obtain ⟨q17_0, q17_1, q17_2, q17_3, q17_4⟩ := zc5 BK110.out
     obtain ⟨f17_0, f17_1, f17_2, f17_3, f17_4⟩ := zf5 BK110.out
     obtain ⟨q18_0, q18_1, q18_2, q18_3, q18_4⟩ := zc5 BK111.out
     obtain ⟨f18_0, f18_1, f18_2, f18_3, f18_4⟩ := zf5 BK111.out
     go_wp2
     repeat (go_quiet (fail); try go_wp2)
     go_meet
     case rel => exact ⟨_, (true), z1_6_, H', ⟨(by first | omega | exact Nat.le_refl _)⟩, ⟨z1_5_⟩, ⟨z1_9_⟩, ⟨z1_2_⟩⟩
   ·rw [if_neg c7] at H
    have c7b0 : (a0_1 == a1_1) = false := beq_eq_false_iff_ne.mpr c7
    have c7b1 : (a0_1 != a1_1) = true := bne_iff_ne.mpr c7
    have H' := Aside0.mk H
    clear H
    have hnb19 := NB110_111.out
    have hnc19 := NB111_110.out
    obtain ⟨q20_0, q20_1, q20_2, q20_3, q20_4⟩ := zc5 BK110.out
    obtain ⟨f20_0, f20_1, f20_2, f20_3, f20_4⟩ := zf5 BK110.out
    obtain ⟨q21_0, q21_1, q21_2, q21_3, q21_4⟩ := zc5 BK111.out
    obtain ⟨f21_0, f21_1, f21_2, f21_3, f21_4⟩ := zf5 BK111.out
    go_wp2
    repeat (go_quiet (fail); try go_wp2)
    go_meet
    case rel => exact ⟨_, (true), z1_6_, H', ⟨(by first | omega | exact Nat.le_refl _)⟩, ⟨z1_5_⟩, ⟨z1_9_⟩, ⟨z1_2_⟩⟩
  ·rw [if_neg c6] at H
   have c6b0 : (a0_0 == a1_0) = false := beq_eq_false_iff_ne.mpr c6
   have c6b1 : (a0_0 != a1_0) = true := bne_iff_ne.mpr c6
   (first | rw [c6b0] | (simp only [i64_w, i32_w]; rw [c6b0]) | rw [c6b1] | simp only [c6b2, decide_true, decide_false] | skip)
   have H' := Aside0.mk H
   clear H
   have hnb22 := NB110_111.out
   have hnc22 := NB111_110.out
   obtain ⟨q23_0, q23_1, q23_2, q23_3, q23_4⟩ := zc5 BK110.out
   obtain ⟨f23_0, f23_1, f23_2, f23_3, f23_4⟩ := zf5 BK110.out
   obtain ⟨q24_0, q24_1, q24_2, q24_3, q24_4⟩ := zc5 BK111.out
   obtain ⟨f24_0, f24_1, f24_2, f24_3, f24_4⟩ := zf5 BK111.out
   go_wp2
   repeat (go_quiet (fail); try go_wp2)
   go_meet
   case rel => exact ⟨_, (true), z1_6_, H', ⟨(by first | omega | exact Nat.le_refl _)⟩, ⟨z1_5_⟩, ⟨z1_9_⟩, ⟨z1_2_⟩⟩
 case rest =>
  clear HC3
  try clear c1
  try clear c2
  try clear p2
  try clear c6
  try clear c6b0
  try clear c6b1
  try clear c7
  try clear c7b0
  try clear c7b1
  try clear c8
  try clear c8b0
  try clear c8b1
  try clear c9
  try clear c9b0
  try clear c9b1
  try clear c10
  try clear c13
  try clear c16
  try clear c19
  try clear c22
  try clear q11_0 q11_1 q11_2 q11_3 q11_4
  try clear q12_0 q12_1 q12_2 q12_3 q12_4
  try clear q14_0 q14_1 q14_2 q14_3 q14_4
  try clear q15_0 q15_1 q15_2 q15_3 q15_4
  try clear q17_0 q17_1 q17_2 q17_3 q17_4
  try clear q18_0 q18_1 q18_2 q18_3 q18_4
  try clear q20_0 q20_1 q20_2 q20_3 q20_4
  try clear q21_0 q21_1 q21_2 q21_3 q21_4
  try clear q23_0 q23_1 q23_2 q23_3 q23_4
  try clear q24_0 q24_1 q24_2 q24_3 q24_4
  try clear f11_0 f11_1 f11_2 f11_3 f11_4
  try clear f12_0 f12_1 f12_2 f12_3 f12_4
  try clear f14_0 f14_1 f14_2 f14_3 f14_4
  try clear f15_0 f15_1 f15_2 f15_3 f15_4
  try clear f17_0 f17_1 f17_2 f17_3 f17_4
  try clear f18_0 f18_1 f18_2 f18_3 f18_4
  try clear f20_0 f20_1 f20_2 f20_3 f20_4
  try clear f21_0 f21_1 f21_2 f21_3 f21_4
  try clear f23_0 f23_1 f23_2 f23_3 f23_4
  try clear f24_0 f24_1 f24_2 f24_3 f24_4
  obtain ⟨kq, x40_2, rfl, HA, HJ2, BK110, BK111, HB⟩ := hcut
  cases kq with
  | zero => exact absurd HA.out (by simp [impl_sameMessage.j0])
  | succ kj2 =>
   have H := HA.out
   clear HA
   simp only [impl_sameMessage.j0] at H
   by_cases c25 : x40_2 = true
   ·subst c25
    rw [if_pos rfl] at H
    obtain rfl := Option.some.inj H
    go_wp2
    repeat (go_quiet (fail); try go_wp2)
    go_ret
    exact ⟨z1_7_, z1_2_⟩
   ·replace c25 := Bool.eq_false_iff.mpr c25
    subst c25
    rw [if_neg (show ¬ (false = true) by decide)] at H
    have H' := Aside0.mk H
    clear H
    have hnb26 := NB110_111.out
    have hnc26 := NB111_110.out
    obtain ⟨q27_0, q27_1, q27_2, q27_3, q27_4⟩ := zc5 BK110.out
    obtain ⟨f27_0, f27_1, f27_2, f27_3, f27_4⟩ := zf5 BK110.out
    go_wp2
    repeat (go_quiet (fail); try go_wp2)
    go_loopg [44] kj2 (fun kq v44 w' => ∃ (x44_2 : Int), v44 = .int .i64 x44_2 ∧ Aside0 (impl_sameMessage.l0 kq (l0_3.length : Int) x44_2 a0_0 a0_1 a0_2 l0_3 a0_4 a1_0 a1_1 a1_2 l1_3 a1_4 = some r) ∧ Aside0 (kq ≤ kj2) ∧ Aside0 (w'.heap[gb110]? = some (.cells #[.int .i64 a0_0, .int .i64 a0_1, .string a0_2, (.slice A0_3 l0_3.length c0_3), .string a0_4] 24 (0, 0))) ∧ Aside0 (w'.heap[gb111]? = some (.cells #[.int .i64 a1_0, .int .i64 a1_1, .string a1_2, (.slice A1_3 l1_3.length c1_3), .string a1_4] 24 (0, 0))) ∧ Aside0 (Below w.heap.size w w'))
    case atStart => exact ⟨(0), z1_6_, H', ⟨Nat.le_refl _⟩, ⟨z1_5_⟩, ⟨z1_9_⟩, ⟨z1_2_⟩⟩
    case round =>
     clear H'
     try clear c1
     try clear c2
     try clear p2
     try clear c6
     try clear c6b0
     try clear c6b1
     try clear c7
     try clear c7b0
     try clear c7b1
     try clear c8
     try clear c8b0
     try clear c8b1
     try clear c9
     try clear c9b0
     try clear c9b1
     try clear c10
     try clear c13
     try clear c16
     try clear c19
     try clear c22
     try clear c25
     try clear c26
     try clear q11_0 q11_1 q11_2 q11_3 q11_4
     try clear q12_0 q12_1 q12_2 q12_3 q12_4
     try clear q14_0 q14_1 q14_2 q14_3 q14_4
     try clear q15_0 q15_1 q15_2 q15_3 q15_4
     try clear q17_0 q17_1 q17_2 q17_3 q17_4
     try clear q18_0 q18_1 q18_2 q18_3 q18_4
     try clear q20_0 q20_1 q20_2 q20_3 q20_4
     try clear q21_0 q21_1 q21_2 q21_3 q21_4
     try clear q23_0 q23_1 q23_2 q23_3 q23_4
     try clear q24_0 q24_1 q24_2 q24_3 q24_4
     try clear q27_0 q27_1 q27_2 q27_3 q27_4
     try clear f11_0 f11_1 f11_2 f11_3 f11_4
     try clear f12_0 f12_1 f12_2 f12_3 f12_4
     try clear f14_0 f14_1 f14_2 f14_3 f14_4
     try clear f15_0 f15_1 f15_2 f15_3 f15_4
     try clear f17_0 f17_1 f17_2 f17_3 f17_4
     try clear f18_0 f18_1 f18_2 f18_3 f18_4
     try clear f20_0 f20_1 f20_2 f20_3 f20_4
     try clear f21_0 f21_1 f21_2 f21_3 f21_4
     try clear f23_0 f23_1 f23_2 f23_3 f23_4
     try clear f24_0 f24_1 f24_2 f24_3 f24_4
     try clear f27_0 f27_1 f27_2 f27_3 f27_4
     try clear p2
     obtain ⟨x44_2, rfl, HA, HK2, BK110, BK111, HB⟩ := hrel
     cases gk with
     | zero => exact absurd HA.out (by simp [impl_sameMessage.l0])
     | succ k2 =>
      have H := HA.out
      clear HA
      simp only [impl_sameMessage.l0] at H
      by_cases c28 : x44_2 < (l0_3.length : Int)
      ·rw [if_pos c28] at H
       have c28b0 : decide (x44_2 < (l0_3.length : Int)) = true := decide_eq_true c28
       clear c28
       by_cases c29 : 0 ≤ x44_2
       ·rw [if_pos c29] at H
        have c29b0 : decide (0 ≤ x44_2) = true := decide_eq_true c29
        clear c29
        by_cases c30 : x44_2 < (l0_3.length : Int)
        ·rw [if_pos c30] at H
         have c30b0 : decide (x44_2 < (l0_3.length : Int)) = true := decide_eq_true c30
         clear c30
         by_cases c31 : x44_2 < (l1_3.length : Int)
         ·rw [if_pos c31] at H
          have c31b0 : decide (x44_2 < (l1_3.length : Int)) = true := decide_eq_true c31
          clear c31
          by_cases c32 : (rdOf ByteArray.empty l0_3 x44_2).toList = (rdOf ByteArray.empty l1_3 x44_2).toList
          ·rw [if_pos c32] at H
           have c32b0 : ((rdOf ByteArray.empty l0_3 x44_2).toList == (rdOf ByteArray.empty l1_3 x44_2).toList) = true := beq_iff_eq.mpr c32
           have c32b1 : ((rdOf ByteArray.empty l0_3 x44_2).toList != (rdOf ByteArray.empty l1_3 x44_2).toList) = false := bne_eq_false_iff_eq.mpr c32
           clear c32
           have H' := Aside0.mk H
           clear H
           have hnb33 := NB110_111.out
           have hnc33 := NB111_110.out
           obtain ⟨q34_0, q34_1, q34_2, q34_3, q34_4⟩ := zc5 BK110.out
           obtain ⟨f34_0, f34_1, f34_2, f34_3, f34_4⟩ := zf5 BK110.out
           have p112 : 0 ≤ (x44_2 : Int) := of_decide_eq_true z1_4_
           have q112 : x44_2 < (l0_3.length : Int) := of_decide_eq_true z1_4_
           obtain ⟨ad112, e112, hx112_0⟩ := Kd.at_string HR0_3.out x44_2 p112 q112
           cases e112
           try replace hx112_0 := (HB.out.cell (World.block_lt_of_cell? w _ hx112_0)).trans hx112_0
           replace p112 := eq_true p112
           replace q112 := eq_true q112
           obtain ⟨q35_0, q35_1, q35_2, q35_3, q35_4⟩ := zc5 BK111.out
           obtain ⟨f35_0, f35_1, f35_2, f35_3, f35_4⟩ := zf5 BK111.out
           have p113 : 0 ≤ (x44_2 : Int) := of_decide_eq_true z1_4_
           have q113 : x44_2 < (l1_3.length : Int) := of_decide_eq_true z1_4_
           obtain ⟨ad113, e113, hx113_0⟩ := Kd.at_string HR1_3.out x44_2 p113 q113
           cases e113
           try replace hx113_0 := (HB.out.cell (World.block_lt_of_cell? w _ hx113_0)).trans hx113_0
           replace p113 := eq_true p113
           replace q113 := eq_true q113
           go_wp2
           repeat (go_quiet (fail); try go_wp2)
           go_roundg k2
           case measure => have := HJ2.out; have := HK2.out; omega
           case rel => exact ⟨(wrap64 (x44_2 + 1)), z1_6_, H', ⟨(by have := HJ2.out; have := HK2.out; omega)⟩, ⟨z1_5_⟩, ⟨z1_9_⟩, ⟨z1_2_⟩⟩
          ·rw [if_neg c32] at H
           have c32b0 : ((rdOf ByteArray.empty l0_3 x44_2).toList == (rdOf ByteArray.empty l1_3 x44_2).toList) = false := beq_eq_false_iff_ne.mpr c32
           have c32b1 : ((rdOf ByteArray.empty l0_3 x44_2).toList != (rdOf ByteArray.empty l1_3 x44_2).toList) = true := bne_iff_ne.mpr c32
           obtain rfl := Option.some.inj H
           have hnb36 := NB110_111.out
           have hnc36 := NB111_110.out
           obtain ⟨q37_0, q37_1, q37_2, q37_3, q37_4⟩ := zc5 BK110.out
           obtain ⟨f37_0, f37_1, f37_2, f37_3, f37_4⟩ := zf5 BK110.out
           have p112 : 0 ≤ (x44_2 : Int) := of_decide_eq_true z1_4_
           have q112 : x44_2 < (l0_3.length : Int) := of_decide_eq_true z1_4_
           obtain ⟨ad112, e112, hx112_0⟩ := Kd.at_string HR0_3.out x44_2 p112 q112
           cases e112
           try replace hx112_0 := (HB.out.cell (World.block_lt_of_cell? w _ hx112_0)).trans hx112_0
           replace p112 := eq_true p112
           replace q112 := eq_true q112
           obtain ⟨q38_0, q38_1, q38_2, q38_3, q38_4⟩ := zc5 BK111.out
           obtain ⟨f38_0, f38_1, f38_2, f38_3, f38_4⟩ := zf5 BK111.out
           have p113 : 0 ≤ (x44_2 : Int) := of_decide_eq_true z1_4_
           have q113 : x44_2 < (l1_3.length : Int) := of_decide_eq_true z1_4_
           obtain ⟨ad113, e113, hx113_0⟩ := Kd.at_string HR1_3.out x44_2 p113 q113
           cases e113
           try replace hx113_0 := (HB.out.cell (World.block_lt_of_cell? w _ hx113_0)).trans hx113_0
           replace p113 := eq_true p113
           replace q113 := eq_true q113
           go_wp2
           repeat (go_quiet (fail); try go_wp2)
           go_ret
           exact ⟨z1_7_, z1_2_⟩
         ·rw [if_neg c31] at H
          exact absurd H (by simp)
        ·rw [if_neg c30] at H
         exact absurd H (by simp)
       ·rw [if_neg c29] at H
        exact absurd H (by simp)
      ·rw [if_neg c28] at H
       have c28b0 : decide (x44_2 < (l0_3.length : Int)) = false := decide_eq_false c28
       clear c28
       obtain rfl := Option.some.inj H
       go_wp2
       repeat (go_quiet (fail); try go_wp2)
       go_ret
       exact ⟨z1_7_, z1_2_⟩
end Go.Proofs.YtnlembpmcbnpnaaGreatDoor.X
namespace Go.Proofs.YtnlembpmcbnpnaaGreatDoor.X
open Go.RowKit Go.Proofs.YtnlembpmcbnpnaaGreatDoorW.PrintWords Go.Proofs.YtnlembpmcbnpnaaGreatDoorW.PrintLast Go.Proofs.YtnlembpmcbnpnaaGreatDoorW.PrintMore
set_option linter.unusedVariables false
set_option linter.unusedSimpArgs false
theorem z14_0_ {P : Prop} (h : P := by first | rfl | (simp; done) | (simp [*]; done)) : P := h
theorem z14_1_ {P : Prop} (h : P := by first | (with_reducible assumption) | assumption) : P := h
theorem z14_2_ {P : Prop} (h : P := by repeat (first | exact Drawn0.refl _ | apply Drawn0.step)) : P := h
theorem z14_3_ {P : Prop} (h : P := by (try simp only [List.map_toArray, List.map_cons, List.map_nil]); first | done | rfl | (simp only [List.length_drop, List.length_take]; rfl)) : P := h
theorem z14_4_ {P : Prop} (h : P := by first | rfl | (simp [errW_none, errW_some] <;> rfl) | (simp [*, errW_none, errW_some] <;> rfl)) : P := h
/-! ### spec_l6id: function 53 -/
def spec_l6id.f (a0 : Int) : Option (Bool) := if a0 ≥ 1 then (some (decide (a0 ≤ 999999))) else (some false)
set_option maxHeartbeats 8000000 in
set_option maxRecDepth 100000 in
theorem spec_l6id.calls (a0 : Int) (r : Bool) (w : World) (h : spec_l6id.f a0 = some r) :
  Calls Tryz.prog 53 #[.int .i64 a0] w fun e w' => e = .returned (.bool r) ∧ Drawn0 w w' := by
 have H : (if a0 ≥ 1 then (some (decide (a0 ≤ 999999))) else (some false)) = some r := h
 clear h
 by_cases c2 : a0 ≥ 1
 ·rw [if_pos c2] at H
  have c2b0 : decide (1 ≤ a0) = true := decide_eq_true c2
  clear c2
  obtain rfl := Option.some.inj H
  go_enter Tryz.func53, Tryz.ntmps53
  go_wp2
  go_ret
  exact ⟨z14_0_, z14_2_⟩
 ·rw [if_neg c2] at H
  have c2b0 : decide (1 ≤ a0) = false := decide_eq_false c2
  clear c2
  obtain rfl := Option.some.inj H
  go_enter Tryz.func53, Tryz.ntmps53
  go_wp2
  go_ret
  exact ⟨z14_0_, z14_2_⟩
/-! ### spec_l2split: function 93 -/
def spec_l2split.l0 : Nat → ByteArray → ByteArray → List ByteArray → Int → Int → Option (List ByteArray)
 | 0, _, _, _, _, _ => none
 | k + 1, x0, x1, x5, x6, x7 => if (wrap64 (x7 + (x1.size : Int))) ≤ (x0.size : Int) then (if 0 ≤ x7 then (if x7 ≤ (wrap64 (x7 + (x1.size : Int))) then (if (x0.extract (x7 : Int).toNat ((wrap64 (x7 + (x1.size : Int))) : Int).toNat).toList = x1.toList then (if 0 ≤ x6 then (if x6 ≤ x7 then (if x7 ≤ (x0.size : Int) then (if x5.length < 8796093022208 then (spec_l2split.l0 k x0 x1 (x5 ++ [x0.extract (x6 : Int).toNat (x7 : Int).toNat]) (wrap64 (x7 + (x1.size : Int))) (wrap64 (x7 + (x1.size : Int)))) else (none)) else (none)) else (none)) else (none)) else (spec_l2split.l0 k x0 x1 x5 x6 (wrap64 (x7 + 1)))) else (none)) else (none)) else (if 0 ≤ x6 then (if x6 ≤ (x0.size : Int) then (if x5.length < 8796093022208 then (some (x5 ++ [x0.extract (x6 : Int).toNat x0.size])) else (none)) else (none)) else (none))
def spec_l2split.f (k : Nat) (a0 : ByteArray) (a1 : ByteArray) : Option (List ByteArray) := spec_l2split.l0 k a0 a1 ([] : List ByteArray) 0 0
theorem spec_l2split.mono_l : ∀ k, (∀ y0 y1 y2 y3 y4, LeO (spec_l2split.l0 k y0 y1 y2 y3 y4) (spec_l2split.l0 (k + 1) y0 y1 y2 y3 y4))
 | 0 => fun _ _ _ _ _ r h => by simp [spec_l2split.l0] at h
 | k + 1 => by
  have ih0 := spec_l2split.mono_l k
  ·intro y0 y1 y2 y3 y4
   unfold spec_l2split.l0
   repeat' first
   | (with_reducible exact ih0 _ _ _ _ _)
   | (with_reducible exact LeO.refl _)
   | (with_reducible exact LeO.none _)
   | (with_reducible refine LeO.ite ?_ ?_)
   | (with_reducible refine LeO.bind ?_ (fun _ => ?_))
   | exact ih0 _ _ _ _ _
   | exact LeO.none _
   | refine LeO.ite ?_ ?_
   | refine LeO.bind ?_ (fun _ => ?_)
theorem spec_l2split.mono : ∀ a0 a1 k, LeO (spec_l2split.f k a0 a1) (spec_l2split.f (k + 1) a0 a1) := by
 intro a0 a1 k
 have ih0 := spec_l2split.mono_l k
 unfold spec_l2split.f
 repeat' first
   | (with_reducible exact ih0 _ _ _ _ _)
   | (with_reducible exact LeO.refl _)
   | (with_reducible exact LeO.none _)
   | (with_reducible refine LeO.ite ?_ ?_)
   | (with_reducible refine LeO.bind ?_ (fun _ => ?_))
   | exact ih0 _ _ _ _ _
   | exact LeO.none _
   | refine LeO.ite ?_ ?_
   | refine LeO.bind ?_ (fun _ => ?_)
set_option maxHeartbeats 8000000 in
set_option maxRecDepth 100000 in
theorem spec_l2split.calls (k : Nat) (a0 : ByteArray) (a1 : ByteArray) (r : List ByteArray) (w : World) (h : spec_l2split.f k a0 a1 = some r) :
  Calls Tryz.prog 93 #[.string a0, .string a1] w fun e w' => ∃ v0_ : Value, e = .returned (v0_) ∧ Kd.R Kd.string 9 w' w.heap.size (fun _ => True) v0_ r ∧ Below w.heap.size w w' := by
 have HB := Aside0.mk (Below.refl w.heap.size w)
 have H : (spec_l2split.l0 k a0 a1 ([] : List ByteArray) 0 0) = some r := h
 clear h
 have H' := Aside0.mk H
 clear H
 go_enter Tryz.func93, Tryz.ntmps93
 go_wp2
 go_loopg [5, 6, 7] k (fun kq v5 v6 v7 w' => ∃ (x5_1 : List ByteArray) (x6_1 : Int) (x7_1 : Int), v6 = .int .i64 x6_1 ∧ v7 = .int .i64 x7_1 ∧ Aside0 (spec_l2split.l0 kq a0 a1 x5_1 x6_1 x7_1 = some r) ∧ Aside0 (kq ≤ k) ∧ Aside0 (Kd.R Kd.string 9 w' w.heap.size (fun _ => True) v5 x5_1) ∧ Aside0 (Below w.heap.size w w'))
 case atStart => exact ⟨(([] : List ByteArray)), (0), (0), z14_0_, z14_0_, H', ⟨Nat.le_refl _⟩, ⟨(by first | exact Kd.R_nil _ _ _ _ _ | exact Kd.N_nil _ _ _ _ _ | exact Kd.V_nil _ _ _ _ _ | exact Kd.Q_nil _ _ _ _ _ | exact Kd.S_nil _ _ _ _ _)⟩, ⟨bq_⟩⟩
 case round =>
  clear H'
  try clear p2
  obtain ⟨x5_1, x6_1, x7_1, rfl, rfl, HA, HK1, HO_5, HB⟩ := hrel
  cases gk with
  | zero => exact absurd HA.out (by simp [spec_l2split.l0])
  | succ k1 =>
   have H := HA.out
   clear HA
   simp only [spec_l2split.l0] at H
   by_cases c3 : (wrap64 (x7_1 + (a1.size : Int))) ≤ (a0.size : Int)
   ·rw [if_pos c3] at H
    have c3b0 : decide ((wrap64 (x7_1 + (a1.size : Int))) ≤ (a0.size : Int)) = true := decide_eq_true c3
    clear c3
    by_cases c4 : 0 ≤ x7_1
    ·rw [if_pos c4] at H
     have c4b0 := eq_true c4
     have c4b1 : decide (0 ≤ x7_1) = true := decide_eq_true c4
     clear c4
     by_cases c5 : x7_1 ≤ (wrap64 (x7_1 + (a1.size : Int)))
     ·rw [if_pos c5] at H
      have c5b0 := eq_true c5
      have c5b1 : decide (x7_1 ≤ (wrap64 (x7_1 + (a1.size : Int)))) = true := decide_eq_true c5
      have c6b0 := eq_true (of_decide_eq_true z14_1_ : (wrap64 (x7_1 + (a1.size : Int))) ≤ (a0.size : Int))
      by_cases c7 : (a0.extract (x7_1 : Int).toNat ((wrap64 (x7_1 + (a1.size : Int))) : Int).toNat).toList = a1.toList
      ·rw [if_pos c7] at H
       have c7b0 : ((a0.extract (x7_1 : Int).toNat ((wrap64 (x7_1 + (a1.size : Int))) : Int).toNat).toList == a1.toList) = true := beq_iff_eq.mpr c7
       have c7b1 : ((a0.extract (x7_1 : Int).toNat ((wrap64 (x7_1 + (a1.size : Int))) : Int).toNat).toList != a1.toList) = false := bne_eq_false_iff_eq.mpr c7
       clear c7
       by_cases c8 : 0 ≤ x6_1
       ·rw [if_pos c8] at H
        have c8b0 := eq_true c8
        have c8b1 : decide (0 ≤ x6_1) = true := decide_eq_true c8
        clear c8
        by_cases c9 : x6_1 ≤ x7_1
        ·rw [if_pos c9] at H
         have c9b0 := eq_true c9
         have c9b1 : decide (x6_1 ≤ x7_1) = true := decide_eq_true c9
         clear c9
         by_cases c10 : x7_1 ≤ (a0.size : Int)
         ·rw [if_pos c10] at H
          have c10b0 := eq_true c10
          have c10b1 : decide (x7_1 ≤ (a0.size : Int)) = true := decide_eq_true c10
          clear c10
          by_cases c11 : x5_1.length < 8796093022208
          ·rw [if_pos c11] at H
           have LMc11 := Aside0.mk c11
           clear c11
           obtain ⟨y226, hy226⟩ : ∃ y_ : List ByteArray, y_ = (x5_1 ++ [a0.extract (x6_1 : Int).toNat (x7_1 : Int).toNat]) := ⟨_, rfl⟩
           replace H : (spec_l2split.l0 k1 a0 a1 y226 (wrap64 (x7_1 + (a1.size : Int))) (wrap64 (x7_1 + (a1.size : Int)))) = some r := by first | (rw [hy226]; with_reducible exact H) | (have H2_ := (Option.bind_some _ _).symm.trans H; rw [hy226]; with_reducible exact H2_) | (have H2_ := (Option.bind_some _ _).symm.trans H; with_reducible exact H2_) | with_reducible exact H | (rw [hy226]; exact H) | exact H
           have Ny226 := Aside0.mk hy226
           clear hy226
           have H' := Aside0.mk H
           clear H
           go_wp2_with (first | ((with_reducible refine gate_builtin (b := .append) (xs := #[.tmp 24, .tmp 29]) rfl ?_); at_builtin; refine Kd.R_append Kd.string (w0 := w) w.heap.size rfl (.tmp 24) (.tmp 29) 22 9 (.string ⟨#[]⟩) 16 rfl Tryz.underlying22 info9 rfl (by decide) (by omega) u5 x5_1 (a0.extract (x6_1 : Int).toNat (x7_1 : Int).toNat) [.string (a0.extract (x6_1 : Int).toNat (x7_1 : Int).toNat)] (fun _ => True) (fun _ => False) rfl rfl ?aP (fun _ hk => hk.elim) ?aF ?aO ?aB ?aS ?aL ?_; (case aP => exact rfl); (case aB => exact (bq_)); (case aF => exact (fun _ _ => trivial)); (case aO => exact (by (with_reducible repeat (first | apply Kd.R_alloc | apply Kd.R_drewN | apply Kd.R_drew)); exact HO_5.out)); (case aS => exact (below_size (bq_))); (case aL => have := LMc11.out; omega); intro v227 w12 ho hb hg hat; rw [← Ny226.out] at ho; have n0_ := Aside0.mk (hb); have n1_ := Aside0.mk (ho); clear HB; clear HO_5; have HB := n0_; have HO228 := n1_; clear n0_ n1_; clear ho hb hg hat))
           go_roundg k1
           case measure => have := HK1.out; omega
           case rel => exact ⟨(y226), (wrap64 (x7_1 + (a1.size : Int))), (wrap64 (x7_1 + (a1.size : Int))), z14_0_, z14_0_, H', ⟨(by have := HK1.out; omega)⟩, ⟨(by (with_reducible repeat (first | apply Kd.R_alloc | apply Kd.R_drewN | apply Kd.R_drew)); exact HO228.out)⟩, ⟨bq_⟩⟩
          ·rw [if_neg c11] at H
           exact absurd H (by simp)
         ·rw [if_neg c10] at H
          exact absurd H (by simp)
        ·rw [if_neg c9] at H
         exact absurd H (by simp)
       ·rw [if_neg c8] at H
        exact absurd H (by simp)
      ·rw [if_neg c7] at H
       have c7b0 : ((a0.extract (x7_1 : Int).toNat ((wrap64 (x7_1 + (a1.size : Int))) : Int).toNat).toList == a1.toList) = false := beq_eq_false_iff_ne.mpr c7
       have c7b1 : ((a0.extract (x7_1 : Int).toNat ((wrap64 (x7_1 + (a1.size : Int))) : Int).toNat).toList != a1.toList) = true := bne_iff_ne.mpr c7
       have H' := Aside0.mk H
       clear H
       go_wp2
       go_roundg k1
       case measure => have := HK1.out; omega
       case rel => exact ⟨(x5_1), (x6_1), (wrap64 (x7_1 + 1)), z14_0_, z14_0_, H', ⟨(by have := HK1.out; omega)⟩, ⟨(by (with_reducible repeat (first | apply Kd.R_alloc | apply Kd.R_drewN | apply Kd.R_drew)); exact HO_5.out)⟩, ⟨bq_⟩⟩
     ·rw [if_neg c5] at H
      exact absurd H (by simp)
    ·rw [if_neg c4] at H
     exact absurd H (by simp)
   ·rw [if_neg c3] at H
    have c3b0 : decide ((wrap64 (x7_1 + (a1.size : Int))) ≤ (a0.size : Int)) = false := decide_eq_false c3
    clear c3
    by_cases c13 : 0 ≤ x6_1
    ·rw [if_pos c13] at H
     have c13b0 := eq_true c13
     have c13b1 : decide (0 ≤ x6_1) = true := decide_eq_true c13
     clear c13
     by_cases c14 : x6_1 ≤ (a0.size : Int)
     ·rw [if_pos c14] at H
      have c14b0 := eq_true c14
      have c14b1 : decide (x6_1 ≤ (a0.size : Int)) = true := decide_eq_true c14
      clear c14
      by_cases c15 : x5_1.length < 8796093022208
      ·rw [if_pos c15] at H
       have LMc15 := Aside0.mk c15
       clear c15
       obtain ⟨y229, hy229⟩ : ∃ y_ : List ByteArray, y_ = (x5_1 ++ [a0.extract (x6_1 : Int).toNat a0.size]) := ⟨_, rfl⟩
       replace H : (some y229) = some r := by first | (rw [hy229]; with_reducible exact H) | (have H2_ := (Option.bind_some _ _).symm.trans H; rw [hy229]; with_reducible exact H2_) | (have H2_ := (Option.bind_some _ _).symm.trans H; with_reducible exact H2_) | with_reducible exact H | (rw [hy229]; exact H) | exact H
       have Ny229 := Aside0.mk hy229
       clear hy229
       obtain rfl := Option.some.inj H
       go_wp2_with (first | ((with_reducible refine gate_builtin (b := .append) (xs := #[.tmp 38, .tmp 42]) rfl ?_); at_builtin; refine Kd.R_append Kd.string (w0 := w) w.heap.size rfl (.tmp 38) (.tmp 42) 22 9 (.string ⟨#[]⟩) 16 rfl Tryz.underlying22 info9 rfl (by decide) (by omega) u5 x5_1 (a0.extract (x6_1 : Int).toNat a0.size) [.string (a0.extract (x6_1 : Int).toNat a0.size)] (fun _ => True) (fun _ => False) rfl rfl ?aP (fun _ hk => hk.elim) ?aF ?aO ?aB ?aS ?aL ?_; (case aP => exact rfl); (case aB => exact (bq_)); (case aF => exact (fun _ _ => trivial)); (case aO => exact (by (with_reducible repeat (first | apply Kd.R_alloc | apply Kd.R_drewN | apply Kd.R_drew)); exact HO_5.out)); (case aS => exact (below_size (bq_))); (case aL => have := LMc15.out; omega); intro v230 w16 ho hb hg hat; rw [← Ny229.out] at ho; have n0_ := Aside0.mk (hb); have n1_ := Aside0.mk (ho); clear HB; clear HO_5; have HB := n0_; have HO231 := n1_; clear n0_ n1_; clear ho hb hg hat))
       go_ret
       exact ⟨_, z14_4_, (by (with_reducible repeat (first | apply Kd.R_alloc | apply Kd.R_drewN | apply Kd.R_drew)); exact HO231.out), bq_⟩
      ·rw [if_neg c15] at H
       exact absurd H (by simp)
     ·rw [if_neg c14] at H
      exact absurd H (by simp)
    ·rw [if_neg c13] at H
     exact absurd H (by simp)
/-! ### spec_l2letter: function 95 -/
def spec_l2letter.f (a0 : Int) : Option (Bool) := if a0 ≥ 97 then (if a0 ≤ 122 then (some true) else (if a0 ≥ 48 then (some (decide (a0 ≤ 57))) else (some false))) else (if a0 ≥ 48 then (some (decide (a0 ≤ 57))) else (some false))
set_option maxHeartbeats 8000000 in
set_option maxRecDepth 100000 in
theorem spec_l2letter.calls (a0 : Int) (r : Bool) (w : World) (h : spec_l2letter.f a0 = some r) :
  Calls Tryz.prog 95 #[.int .u8 a0] w fun e w' => e = .returned (.bool r) ∧ Drawn0 w w' := by
 have H := h
 unfold spec_l2letter.f at H
 clear h
 by_cases c2 : a0 ≥ 97
 ·rw [if_pos c2] at H
  have c2b0 : decide (97 ≤ a0) = true := decide_eq_true c2
  clear c2
  by_cases c3 : a0 ≤ 122
  ·rw [if_pos c3] at H
   have c3b0 : decide (a0 ≤ 122) = true := decide_eq_true c3
   clear c3
   obtain rfl := Option.some.inj H
   go_enter Tryz.func95, Tryz.ntmps95
   go_wp2
   go_ret
   exact ⟨z14_0_, z14_2_⟩
  ·rw [if_neg c3] at H
   have c3b0 : decide (a0 ≤ 122) = false := decide_eq_false c3
   clear c3
   by_cases c4 : a0 ≥ 48
   ·rw [if_pos c4] at H
    have c4b0 : decide (48 ≤ a0) = true := decide_eq_true c4
    clear c4
    obtain rfl := Option.some.inj H
    go_enter Tryz.func95, Tryz.ntmps95
    go_wp2
    go_ret
    exact ⟨z14_0_, z14_2_⟩
   ·rw [if_neg c4] at H
    have c4b0 : decide (48 ≤ a0) = false := decide_eq_false c4
    clear c4
    obtain rfl := Option.some.inj H
    go_enter Tryz.func95, Tryz.ntmps95
    go_wp2
    go_ret
    exact ⟨z14_0_, z14_2_⟩
 ·rw [if_neg c2] at H
  have c2b0 : decide (97 ≤ a0) = false := decide_eq_false c2
  clear c2
  by_cases c5 : a0 ≥ 48
  ·rw [if_pos c5] at H
   have c5b0 : decide (48 ≤ a0) = true := decide_eq_true c5
   clear c5
   obtain rfl := Option.some.inj H
   go_enter Tryz.func95, Tryz.ntmps95
   go_wp2
   go_ret
   exact ⟨z14_0_, z14_2_⟩
  ·rw [if_neg c5] at H
   have c5b0 : decide (48 ≤ a0) = false := decide_eq_false c5
   clear c5
   obtain rfl := Option.some.inj H
   go_enter Tryz.func95, Tryz.ntmps95
   go_wp2
   go_ret
   exact ⟨z14_0_, z14_2_⟩
/-! ### spec_l2label: function 107 -/
mutual
def spec_l2label.j0 : Nat → ByteArray → Bool → Option (Bool)
 | 0, _, _ => none
 | k + 1, x0, x24 => if x24 = true then (some false) else (spec_l2label.l0 k x0 0)
def spec_l2label.l0 : Nat → ByteArray → Int → Option (Bool)
 | 0, _, _ => none
 | k + 1, x0, x3 => if x3 < (x0.size : Int) then (if 0 ≤ x3 then ((spec_l2letter.f (bt x0 x3)).bind fun t232 => (if t232 = true then (spec_l2label.l0 k x0 (wrap64 (x3 + 1))) else (if (bt x0 x3) = 45 then (spec_l2label.l0 k x0 (wrap64 (x3 + 1))) else (some false)))) else (none)) else (some true)
end
def spec_l2label.f (k : Nat) (a0 : ByteArray) : Option (Bool) := if (a0.size : Int) < 1 then (spec_l2label.j0 k a0 true) else (if (a0.size : Int) > 63 then (spec_l2label.j0 k a0 true) else (if 0 < (a0.size : Int) then (if (bt a0 0) = 45 then (spec_l2label.j0 k a0 true) else (if 0 ≤ (wrap64 ((a0.size : Int) - 1)) then (if (wrap64 ((a0.size : Int) - 1)) < (a0.size : Int) then (spec_l2label.j0 k a0 ((bt a0 (wrap64 ((a0.size : Int) - 1))) == 45)) else (none)) else (none))) else (none)))
theorem spec_l2label.mono_l : ∀ k, (∀ y0 y1, LeO (spec_l2label.j0 k y0 y1) (spec_l2label.j0 (k + 1) y0 y1)) ∧ (∀ y0 y1, LeO (spec_l2label.l0 k y0 y1) (spec_l2label.l0 (k + 1) y0 y1))
 | 0 => ⟨fun _ _ r h => by simp [spec_l2label.j0] at h, fun _ _ r h => by simp [spec_l2label.l0] at h⟩
 | k + 1 => by
  obtain ⟨ih0, ih1⟩ := spec_l2label.mono_l k
  refine ⟨?_, ?_⟩
  ·intro y0 y1
   unfold spec_l2label.j0
   repeat' first
   | (with_reducible exact ih0 _ _)
   | (with_reducible exact ih1 _ _)
   | (with_reducible exact LeO.refl _)
   | (with_reducible exact LeO.none _)
   | (with_reducible refine LeO.ite ?_ ?_)
   | (with_reducible refine LeO.bind ?_ (fun _ => ?_))
   | exact ih0 _ _
   | exact ih1 _ _
   | exact LeO.none _
   | refine LeO.ite ?_ ?_
   | refine LeO.bind ?_ (fun _ => ?_)
  ·intro y0 y1
   unfold spec_l2label.l0
   repeat' first
   | (with_reducible exact ih0 _ _)
   | (with_reducible exact ih1 _ _)
   | (with_reducible exact LeO.refl _)
   | (with_reducible exact LeO.none _)
   | (with_reducible refine LeO.ite ?_ ?_)
   | (with_reducible refine LeO.bind ?_ (fun _ => ?_))
   | exact ih0 _ _
   | exact ih1 _ _
   | exact LeO.none _
   | refine LeO.ite ?_ ?_
   | refine LeO.bind ?_ (fun _ => ?_)
theorem spec_l2label.mono : ∀ a0 k, LeO (spec_l2label.f k a0) (spec_l2label.f (k + 1) a0) := by
 intro a0 k
 obtain ⟨ih0, ih1⟩ := spec_l2label.mono_l k
 unfold spec_l2label.f
 repeat' first
   | (with_reducible exact ih0 _ _)
   | (with_reducible exact ih1 _ _)
   | (with_reducible exact LeO.refl _)
   | (with_reducible exact LeO.none _)
   | (with_reducible refine LeO.ite ?_ ?_)
   | (with_reducible refine LeO.bind ?_ (fun _ => ?_))
   | exact ih0 _ _
   | exact ih1 _ _
   | exact LeO.none _
   | refine LeO.ite ?_ ?_
   | refine LeO.bind ?_ (fun _ => ?_)
set_option maxHeartbeats 8000000 in
set_option maxRecDepth 100000 in
theorem spec_l2label.calls (k : Nat) (a0 : ByteArray) (r : Bool) (w : World) (h : spec_l2label.f k a0 = some r) :
  Calls Tryz.prog 107 #[.string a0] w fun e w' => e = .returned (.bool r) ∧ Drawn0 w w' := by
 have H := h
 unfold spec_l2label.f at H
 clear h
 have HC2 := Aside0.mk H
 clear H
 go_enter Tryz.func107, Tryz.ntmps107
 go_upto_region 1 with (fail)
 go_cut [24] (fun v24 wc => ∃ (kq : Nat) (x24_1 : Bool), v24 = .bool x24_1 ∧ Aside0 (spec_l2label.j0 kq a0 x24_1 = some r) ∧ Aside0 (kq ≤ k) ∧ Drawn0 w wc)
 case first =>
  have H := HC2.out
  clear HC2
  by_cases c3 : (a0.size : Int) < 1
  ·rw [if_pos c3] at H
   have c3b0 : decide ((a0.size : Int) < 1) = true := decide_eq_true c3
   have c3b1 : decide (a0.size < 1) = true := decide_eq_true (by omega)
   clear c3
   (first | rw [c3b0] | (simp only [i64_w, i32_w]; rw [c3b0]) | rw [c3b1] | simp only [c3b2, decide_true, decide_false] | skip)
   have H' := Aside0.mk H
   clear H
   go_wp2
   go_meet
   case rel => exact ⟨_, (true), z14_0_, H', ⟨(by first | omega | exact Nat.le_refl _)⟩, z14_2_⟩
  ·rw [if_neg c3] at H
   have c3b0 : decide ((a0.size : Int) < 1) = false := decide_eq_false c3
   have c3b1 : decide (a0.size < 1) = false := decide_eq_false (by omega)
   clear c3
   (first | rw [c3b0] | (simp only [i64_w, i32_w]; rw [c3b0]) | rw [c3b1] | simp only [c3b2, decide_true, decide_false] | skip)
   by_cases c4 : (a0.size : Int) > 63
   ·rw [if_pos c4] at H
    have c4b0 : decide (63 < (a0.size : Int)) = true := decide_eq_true c4
    have c4b1 : decide (63 < a0.size) = true := decide_eq_true (by omega)
    clear c4
    have H' := Aside0.mk H
    clear H
    go_wp2
    go_meet
    case rel => exact ⟨_, (true), z14_0_, H', ⟨(by first | omega | exact Nat.le_refl _)⟩, z14_2_⟩
   ·rw [if_neg c4] at H
    have c4b0 : decide (63 < (a0.size : Int)) = false := decide_eq_false c4
    have c4b1 : decide (63 < a0.size) = false := decide_eq_false (by omega)
    clear c4
    by_cases c5 : 0 < (a0.size : Int)
    ·rw [if_pos c5] at H
     have c5b0 : decide (0 < (a0.size : Int)) = true := decide_eq_true c5
     have c5b1 : decide (0 < a0.size) = true := decide_eq_true (by omega)
     clear c5
     by_cases c7 : (bt a0 0) = 45
     ·rw [if_pos c7] at H
      have c7b0 : ((bt a0 0) == 45) = true := beq_iff_eq.mpr c7
      have c7b1 : ((bt a0 0) != 45) = false := bne_eq_false_iff_eq.mpr c7
      clear c7
      have H' := Aside0.mk H
      clear H
      have p6 : 0 ≤ (0 : Int) := (by omega)
      have q6 : 0 < a0.size := (by have : (0 : Int) < (a0.size : Int) := of_decide_eq_true z14_1_; omega)
      have hx6 : ∀ h : 0 < a0.size, ((a0[0]'h).toNat : Int) = bt a0 0 := bt_at a0 0
      clear p6
      have qi6 : (0 < (a0.size : Int)) = True := eq_true (of_decide_eq_true z14_1_)
      replace q6 := eq_true q6
      go_wp2
      go_meet
      case rel => exact ⟨_, (true), z14_0_, H', ⟨(by first | omega | exact Nat.le_refl _)⟩, z14_2_⟩
     ·rw [if_neg c7] at H
      have c7b0 : ((bt a0 0) == 45) = false := beq_eq_false_iff_ne.mpr c7
      have c7b1 : ((bt a0 0) != 45) = true := bne_iff_ne.mpr c7
      obtain ⟨ji8, hji8⟩ : ∃ j_ : Int, (wrap64 ((a0.size : Int) - 1)) = j_ := ⟨_, rfl⟩
      replace H : (if 0 ≤ (ji8) then (if (ji8) < (a0.size : Int) then (spec_l2label.j0 k a0 ((bt a0 (ji8)) == 45)) else (none)) else (none)) = some r := by first | (rw [hji8] at H; exact H) | (simp only [hji8] at H ⊢; exact H)
      have hji8w : (IntKind.i64.wrap ((a0.size : Int) - 1)) = ji8 := (i64_w _).trans hji8
      by_cases c9 : 0 ≤ (ji8)
      ·rw [if_pos c9] at H
       have c9b0 : decide (0 ≤ (ji8)) = true := decide_eq_true c9
       clear c9
       by_cases c10 : (ji8) < (a0.size : Int)
       ·rw [if_pos c10] at H
        have c10b0 : decide ((ji8) < (a0.size : Int)) = true := decide_eq_true c10
        clear c10
        have H' := Aside0.mk H
        clear H
        have p6 : 0 ≤ (0 : Int) := (by omega)
        have q6 : 0 < a0.size := (by have : (0 : Int) < (a0.size : Int) := of_decide_eq_true z14_1_; omega)
        have hx6 : ∀ h : 0 < a0.size, ((a0[0]'h).toNat : Int) = bt a0 0 := bt_at a0 0
        clear p6
        have qi6 : (0 < (a0.size : Int)) = True := eq_true (of_decide_eq_true z14_1_)
        replace q6 := eq_true q6
        have p11 : 0 ≤ ((ji8) : Int) := of_decide_eq_true z14_1_
        have q11 : (ji8) < (a0.size : Int) := of_decide_eq_true z14_1_
        have hx11 := bt_at a0 (ji8)
        replace p11 := eq_true p11
        replace q11 := eq_true q11
        go_wp2
        go_meet
        case rel => exact ⟨_, (((bt a0 (ji8)) == 45)), (by first | rfl | (simp; done) | (simp only [← hji8] <;> (first | rfl | simp)) | (simp [*]; done)), H', ⟨(by first | omega | exact Nat.le_refl _)⟩, z14_2_⟩
       ·rw [if_neg c10] at H
        exact absurd H (by simp)
      ·rw [if_neg c9] at H
       exact absurd H (by simp)
    ·rw [if_neg c5] at H
     exact absurd H (by simp)
 case rest =>
  clear HC2
  try clear c1
  try clear p1
  try clear q1
  try clear hx1
  try clear p2
  try clear c3
  try clear c3b0
  try clear c3b1
  try clear c4
  try clear c4b0
  try clear c4b1
  try clear c5
  try clear c5b0
  try clear c5b1
  try clear p6
  try clear q6
  try clear hx6
  try clear qi6
  try clear c7
  try clear c7b0
  try clear c7b1
  try clear c9
  try clear c9b0
  try clear c10
  try clear c10b0
  try clear p11
  try clear q11
  try clear hx11
  try clear p11
  try clear p6
  try clear q11
  try clear q6
  obtain ⟨kq, x24_1, rfl, HA, HJ1, ⟨mc1, rfl⟩⟩ := hcut
  cases kq with
  | zero => exact absurd HA.out (by simp [spec_l2label.j0])
  | succ kj1 =>
   have H := HA.out
   clear HA
   simp only [spec_l2label.j0] at H
   by_cases c12 : x24_1 = true
   ·subst c12
    rw [if_pos rfl] at H
    obtain rfl := Option.some.inj H
    go_wp2
    go_ret
    exact ⟨z14_0_, z14_2_⟩
   ·replace c12 := Bool.eq_false_iff.mpr c12
    subst c12
    rw [if_neg (show ¬ (false = true) by decide)] at H
    have H' := Aside0.mk H
    clear H
    go_wp2
    go_loopg [3] kj1 (fun kq v3 w' => ∃ (x3_2 : Int), v3 = .int .i64 x3_2 ∧ Aside0 (spec_l2label.l0 kq a0 x3_2 = some r) ∧ Aside0 (kq ≤ kj1) ∧ Drawn0 w w')
    case atStart => exact ⟨(0), z14_0_, H', ⟨Nat.le_refl _⟩, z14_2_⟩
    case round =>
     clear H'
     try clear c1
     try clear p1
     try clear q1
     try clear hx1
     try clear p2
     try clear c3
     try clear c3b0
     try clear c3b1
     try clear c4
     try clear c4b0
     try clear c4b1
     try clear c5
     try clear c5b0
     try clear c5b1
     try clear p6
     try clear q6
     try clear hx6
     try clear qi6
     try clear c7
     try clear c7b0
     try clear c7b1
     try clear c9
     try clear c9b0
     try clear c10
     try clear c10b0
     try clear p11
     try clear q11
     try clear hx11
     try clear c12
     try clear p1
     try clear p11
     try clear p2
     try clear p6
     try clear q1
     try clear q11
     try clear q6
     obtain ⟨x3_2, rfl, HA, HK2, ⟨m2, rfl⟩⟩ := hrel
     cases gk with
     | zero => exact absurd HA.out (by simp [spec_l2label.l0])
     | succ k2 =>
      have H := HA.out
      clear HA
      simp only [spec_l2label.l0] at H
      by_cases c13 : x3_2 < (a0.size : Int)
      ·rw [if_pos c13] at H
       have c13b0 : decide (x3_2 < (a0.size : Int)) = true := decide_eq_true c13
       clear c13
       by_cases c14 : 0 ≤ x3_2
       ·rw [if_pos c14] at H
        have c14b0 : decide (0 ≤ x3_2) = true := decide_eq_true c14
        clear c14
        obtain ⟨t232, A16, H⟩ := zbi H
        by_cases c17 : t232 = true
        ·subst c17
         rw [if_pos rfl] at H
         have H' := Aside0.mk H
         clear H
         have p15 : 0 ≤ (x3_2 : Int) := of_decide_eq_true z14_1_
         have q15 : x3_2 < (a0.size : Int) := of_decide_eq_true z14_1_
         have hx15 := bt_at a0 x3_2
         replace p15 := eq_true p15
         replace q15 := eq_true q15
         go_wp2_with (first | ((with_reducible refine gate_callee (f := 95) rfl ?_); refine goesL_ (some 34) rfl rfl Tryz.func95 (by kernel_rfl) rfl #[.int .u8 (bt a0 x3_2)] rfl z14_3_ ?_; (with_reducible refine (spec_l2letter.calls (bt a0 x3_2) true _ A16.out).mono ?_); rintro e w' ⟨rfl, ⟨nd, rfl⟩⟩; refine ⟨_, rfl, ?_⟩))
         go_roundg k2
         case measure => have := HJ1.out; have := HK2.out; omega
         case rel => exact ⟨(wrap64 (x3_2 + 1)), z14_0_, H', ⟨(by have := HJ1.out; have := HK2.out; omega)⟩, z14_2_⟩
        ·replace c17 := Bool.eq_false_iff.mpr c17
         subst c17
         rw [if_neg (show ¬ (false = true) by decide)] at H
         have HS19 := Aside0.mk H
         clear H
         have p15 : 0 ≤ (x3_2 : Int) := of_decide_eq_true z14_1_
         have q15 : x3_2 < (a0.size : Int) := of_decide_eq_true z14_1_
         have hx15 := bt_at a0 x3_2
         replace p15 := eq_true p15
         replace q15 := eq_true q15
         go_upto_if 41 with (first | ((with_reducible refine gate_callee (f := 95) rfl ?_); refine goesL_ (some 34) rfl rfl Tryz.func95 (by kernel_rfl) rfl #[.int .u8 (bt a0 x3_2)] rfl z14_3_ ?_; (with_reducible refine (spec_l2letter.calls (bt a0 x3_2) false _ A16.out).mono ?_); rintro e w' ⟨rfl, ⟨nd, rfl⟩⟩; refine ⟨_, rfl, ?_⟩; have p18 : 0 ≤ (x3_2 : Int) := of_decide_eq_true z14_1_; have q18 : x3_2 < (a0.size : Int) := of_decide_eq_true z14_1_; have hx18 := bt_at a0 x3_2; replace p18 := eq_true p18; replace q18 := eq_true q18))
         (try simp only [Act.put, List.setIfInBounds_toArray, List.set_cons_zero, List.set_cons_succ])
         have H := HS19.out
         clear HS19
         by_cases c20 : (bt a0 x3_2) = 45
         ·rw [if_pos c20] at H
          have c20b0 : ((bt a0 x3_2) == 45) = true := beq_iff_eq.mpr c20
          have c20b1 : ((bt a0 x3_2) != 45) = false := bne_eq_false_iff_eq.mpr c20
          clear c20
          (first | rw [c20b0] | (simp only [i64_w, i32_w]; rw [c20b0]) | rw [c20b1] | simp only [c20b2, decide_true, decide_false] | skip)
          have H' := Aside0.mk H
          clear H
          go_wp2
          go_roundg k2
          case measure => have := HJ1.out; have := HK2.out; omega
          case rel => exact ⟨(wrap64 (x3_2 + 1)), z14_0_, H', ⟨(by have := HJ1.out; have := HK2.out; omega)⟩, z14_2_⟩
         ·rw [if_neg c20] at H
          have c20b0 : ((bt a0 x3_2) == 45) = false := beq_eq_false_iff_ne.mpr c20
          have c20b1 : ((bt a0 x3_2) != 45) = true := bne_iff_ne.mpr c20
          (first | rw [c20b0] | (simp only [i64_w, i32_w]; rw [c20b0]) | rw [c20b1] | simp only [c20b2, decide_true, decide_false] | skip)
          obtain rfl := Option.some.inj H
          go_wp2
          go_ret
          exact ⟨z14_0_, z14_2_⟩
       ·rw [if_neg c14] at H
        exact absurd H (by simp)
      ·rw [if_neg c13] at H
       have c13b0 : decide (x3_2 < (a0.size : Int)) = false := decide_eq_false c13
       clear c13
       obtain rfl := Option.some.inj H
       go_wp2
       go_ret
       exact ⟨z14_0_, z14_2_⟩
/-! ### spec_ValidDomain: function 94 -/
def spec_ValidDomain.l0 : Nat → List ByteArray → Int → Int → Option (Bool)
 | 0, _, _, _ => none
 | k + 1, x9, x10, x11 => if x11 < x10 then (if 0 ≤ x11 then (if x11 < (x9.length : Int) then ((spec_l2label.f k (rdOf ByteArray.empty x9 x11)).bind fun t237 => (if t237 = true then (spec_ValidDomain.l0 k x9 x10 (wrap64 (x11 + 1))) else (some false))) else (none)) else (none)) else (some true)
def spec_ValidDomain.f (k : Nat) (a0 : ByteArray) : Option (Bool) := if (a0.size : Int) > 100 then (some false) else ((spec_l2split.f k a0 (⟨#[46]⟩ : ByteArray)).bind fun t233 => (spec_ValidDomain.l0 k t233 (t233.length : Int) 0))
theorem spec_ValidDomain.mono_l : ∀ k, (∀ y0 y1 y2, LeO (spec_ValidDomain.l0 k y0 y1 y2) (spec_ValidDomain.l0 (k + 1) y0 y1 y2))
 | 0 => fun _ _ _ r h => by simp [spec_ValidDomain.l0] at h
 | k + 1 => by
  have ih0 := spec_ValidDomain.mono_l k
  ·intro y0 y1 y2
   unfold spec_ValidDomain.l0
   repeat' first
   | (with_reducible exact ih0 _ _ _)
   | (with_reducible exact spec_l2label.mono _ _)
   | (with_reducible exact spec_l2split.mono _ _ _)
   | (with_reducible exact LeO.refl _)
   | (with_reducible exact LeO.none _)
   | (with_reducible refine LeO.ite ?_ ?_)
   | (with_reducible refine LeO.bind ?_ (fun _ => ?_))
   | exact ih0 _ _ _
   | exact spec_l2label.mono _ _
   | exact spec_l2split.mono _ _ _
   | exact LeO.none _
   | refine LeO.ite ?_ ?_
   | refine LeO.bind ?_ (fun _ => ?_)
theorem spec_ValidDomain.mono : ∀ a0 k, LeO (spec_ValidDomain.f k a0) (spec_ValidDomain.f (k + 1) a0) := by
 intro a0 k
 have ih0 := spec_ValidDomain.mono_l k
 unfold spec_ValidDomain.f
 repeat' first
   | (with_reducible exact ih0 _ _ _)
   | (with_reducible exact spec_l2label.mono _ _)
   | (with_reducible exact spec_l2split.mono _ _ _)
   | (with_reducible exact LeO.refl _)
   | (with_reducible exact LeO.none _)
   | (with_reducible refine LeO.ite ?_ ?_)
   | (with_reducible refine LeO.bind ?_ (fun _ => ?_))
   | exact ih0 _ _ _
   | exact spec_l2label.mono _ _
   | exact spec_l2split.mono _ _ _
   | exact LeO.none _
   | refine LeO.ite ?_ ?_
   | refine LeO.bind ?_ (fun _ => ?_)
set_option maxHeartbeats 8000000 in
set_option maxRecDepth 100000 in
theorem spec_ValidDomain.calls (k : Nat) (a0 : ByteArray) (r : Bool) (w : World) (h : spec_ValidDomain.f k a0 = some r) :
  Calls Tryz.prog 94 #[.string a0] w fun e w' => e = .returned (.bool r) ∧ Below w.heap.size w w' := by
 have HB := Aside0.mk (Below.refl w.heap.size w)
 have H : (if (a0.size : Int) > 100 then (some false) else ((spec_l2split.f k a0 (⟨#[46]⟩ : ByteArray)).bind fun t233 => (spec_ValidDomain.l0 k t233 (t233.length : Int) 0))) = some r := h
 clear h
 by_cases c2 : (a0.size : Int) > 100
 ·rw [if_pos c2] at H
  have c2b0 : decide (100 < (a0.size : Int)) = true := decide_eq_true c2
  have c2b1 : decide (100 < a0.size) = true := decide_eq_true (by omega)
  clear c2
  obtain rfl := Option.some.inj H
  go_enter Tryz.func94, Tryz.ntmps94
  go_wp2
  go_ret
  exact ⟨z14_4_, bq_⟩
 ·rw [if_neg c2] at H
  have c2b0 : decide (100 < (a0.size : Int)) = false := decide_eq_false c2
  have c2b1 : decide (100 < a0.size) = false := decide_eq_false (by omega)
  clear c2
  obtain ⟨t233, A3, H⟩ := zbi H
  have H' := Aside0.mk H
  clear H
  go_enter Tryz.func94, Tryz.ntmps94
  go_wp2_with (first | ((with_reducible refine gate_callee (f := 93) rfl ?_); refine goesL_ (some 9) rfl rfl Tryz.func93 (by kernel_rfl) rfl #[.string a0, .string (⟨#[46]⟩ : ByteArray)] rfl z14_3_ ?_; (with_reducible refine (spec_l2split.calls k a0 (⟨#[46]⟩ : ByteArray) t233 _ A3.out).mono ?_); rintro e w4 ⟨v234, rfl, ho0, hb⟩; refine ⟨_, rfl, ?_⟩; have HO235 := Aside0.mk (Kd.R_lower ho0 (below_size (bq_))); replace HB := Aside0.mk (below_step (bq_) hb); clear hb; (try clear ho0); obtain ⟨Ao5, co5, eo5⟩ := Kd.R_slice HO235.out; subst eo5))
  go_loopg [11] k (fun kq v11 w' => ∃ (x11_1 : Int), v11 = .int .i64 x11_1 ∧ Aside0 (spec_ValidDomain.l0 kq t233 (t233.length : Int) x11_1 = some r) ∧ Aside0 (kq ≤ k) ∧ Aside0 (Kd.R Kd.string 9 w' w.heap.size (fun _ => True) (.slice Ao5 t233.length co5) t233) ∧ Aside0 (Below w.heap.size w w'))
  case atStart => exact ⟨(0), z14_0_, H', ⟨Nat.le_refl _⟩, ⟨(by (with_reducible repeat (first | apply Kd.R_alloc | apply Kd.R_drewN | apply Kd.R_drew)); exact HO235.out)⟩, ⟨bq_⟩⟩
  case round =>
   clear H'
   try clear c2
   try clear c2b0
   try clear c2b1
   try clear p2
   obtain ⟨x11_1, rfl, HA, HK1, HO_9, HB⟩ := hrel
   cases gk with
   | zero => exact absurd HA.out (by simp [spec_ValidDomain.l0])
   | succ k1 =>
    have H := HA.out
    clear HA
    simp only [spec_ValidDomain.l0] at H
    by_cases c6 : x11_1 < (t233.length : Int)
    ·rw [if_pos c6] at H
     have c6b0 : decide (x11_1 < (t233.length : Int)) = true := decide_eq_true c6
     clear c6
     by_cases c7 : 0 ≤ x11_1
     ·rw [if_pos c7] at H
      have c7b0 : decide (0 ≤ x11_1) = true := decide_eq_true c7
      clear c7
      by_cases c8 : x11_1 < (t233.length : Int)
      ·rw [if_pos c8] at H
       have c8b0 : decide (x11_1 < (t233.length : Int)) = true := decide_eq_true c8
       clear c8
       obtain ⟨t237, A9, H⟩ := zbi H
       have HS10 := Aside0.mk H
       clear H
       have p236 : 0 ≤ (x11_1 : Int) := of_decide_eq_true z14_1_
       have q236 : x11_1 < (t233.length : Int) := of_decide_eq_true z14_1_
       obtain ⟨ad236, e236, hx236_0⟩ := Kd.at_string (Kd.R_reads' HO_9.out).2.2 x11_1 p236 q236
       cases e236
       replace p236 := eq_true p236
       replace q236 := eq_true q236
       go_upto_if 17 with (first | ((with_reducible refine gate_callee (f := 107) rfl ?_); refine goesL_ (some 16) rfl rfl Tryz.func107 (by kernel_rfl) rfl #[.string (rdOf ByteArray.empty t233 x11_1)] rfl z14_3_ ?_; (with_reducible refine (spec_l2label.calls k1 (rdOf ByteArray.empty t233 x11_1) t237 _ A9.out).mono ?_); rintro e w' ⟨rfl, ⟨nd, rfl⟩⟩; refine ⟨_, rfl, ?_⟩))
       (try simp only [Act.put, List.setIfInBounds_toArray, List.set_cons_zero, List.set_cons_succ])
       have H := HS10.out
       clear HS10
       by_cases c11 : t237 = true
       ·subst c11
        rw [if_pos rfl] at H
        have H' := Aside0.mk H
        clear H
        go_wp2
        go_roundg k1
        case measure => have := HK1.out; omega
        case rel => exact ⟨(wrap64 (x11_1 + 1)), z14_0_, H', ⟨(by have := HK1.out; omega)⟩, ⟨(by (with_reducible repeat (first | apply Kd.R_alloc | apply Kd.R_drewN | apply Kd.R_drew)); exact HO_9.out)⟩, ⟨bq_⟩⟩
       ·replace c11 := Bool.eq_false_iff.mpr c11
        subst c11
        rw [if_neg (show ¬ (false = true) by decide)] at H
        obtain rfl := Option.some.inj H
        go_wp2
        go_ret
        exact ⟨z14_4_, bq_⟩
      ·rw [if_neg c8] at H
       exact absurd H (by simp)
     ·rw [if_neg c7] at H
      exact absurd H (by simp)
    ·rw [if_neg c6] at H
     have c6b0 : decide (x11_1 < (t233.length : Int)) = false := decide_eq_false c6
     clear c6
     obtain rfl := Option.some.inj H
     go_wp2
     go_ret
     exact ⟨z14_4_, bq_⟩
/-! ### spec_l2has: function 96 -/
def spec_l2has.l0 : Nat → ByteArray → Int → Int → Option (Bool)
 | 0, _, _, _ => none
 | k + 1, x0, x1, x5 => if x5 < (x0.size : Int) then (if 0 ≤ x5 then (if (bt x0 x5) = x1 then (some true) else (spec_l2has.l0 k x0 x1 (wrap64 (x5 + 1)))) else (none)) else (some false)
def spec_l2has.f (k : Nat) (a0 : ByteArray) (a1 : Int) : Option (Bool) := spec_l2has.l0 k a0 a1 0
theorem spec_l2has.mono_l : ∀ k, (∀ y0 y1 y2, LeO (spec_l2has.l0 k y0 y1 y2) (spec_l2has.l0 (k + 1) y0 y1 y2))
 | 0 => fun _ _ _ r h => by simp [spec_l2has.l0] at h
 | k + 1 => by
  have ih0 := spec_l2has.mono_l k
  ·intro y0 y1 y2
   unfold spec_l2has.l0
   repeat' first
   | (with_reducible exact ih0 _ _ _)
   | (with_reducible exact LeO.refl _)
   | (with_reducible exact LeO.none _)
   | (with_reducible refine LeO.ite ?_ ?_)
   | (with_reducible refine LeO.bind ?_ (fun _ => ?_))
   | exact ih0 _ _ _
   | exact LeO.none _
   | refine LeO.ite ?_ ?_
   | refine LeO.bind ?_ (fun _ => ?_)
theorem spec_l2has.mono : ∀ a0 a1 k, LeO (spec_l2has.f k a0 a1) (spec_l2has.f (k + 1) a0 a1) := by
 intro a0 a1 k
 have ih0 := spec_l2has.mono_l k
 unfold spec_l2has.f
 repeat' first
   | (with_reducible exact ih0 _ _ _)
   | (with_reducible exact LeO.refl _)
   | (with_reducible exact LeO.none _)
   | (with_reducible refine LeO.ite ?_ ?_)
   | (with_reducible refine LeO.bind ?_ (fun _ => ?_))
   | exact ih0 _ _ _
   | exact LeO.none _
   | refine LeO.ite ?_ ?_
   | refine LeO.bind ?_ (fun _ => ?_)
set_option maxHeartbeats 8000000 in
set_option maxRecDepth 100000 in
theorem spec_l2has.calls (k : Nat) (a0 : ByteArray) (a1 : Int) (r : Bool) (w : World) (h : spec_l2has.f k a0 a1 = some r) :
  Calls Tryz.prog 96 #[.string a0, .int .u8 a1] w fun e w' => e = .returned (.bool r) ∧ Drawn0 w w' := by
 have H : (spec_l2has.l0 k a0 a1 0) = some r := h
 clear h
 have H' := Aside0.mk H
 clear H
 go_enter Tryz.func96, Tryz.ntmps96
 go_wp2
 go_loopg [5] k (fun kq v5 w' => ∃ (x5_1 : Int), v5 = .int .i64 x5_1 ∧ Aside0 (spec_l2has.l0 kq a0 a1 x5_1 = some r) ∧ Aside0 (kq ≤ k) ∧ Drawn0 w w')
 case atStart => exact ⟨(0), z14_0_, H', ⟨Nat.le_refl _⟩, z14_2_⟩
 case round =>
  clear H'
  try clear p2
  obtain ⟨x5_1, rfl, HA, HK1, ⟨m1, rfl⟩⟩ := hrel
  cases gk with
  | zero => exact absurd HA.out (by simp [spec_l2has.l0])
  | succ k1 =>
   have H := HA.out
   clear HA
   simp only [spec_l2has.l0] at H
   by_cases c3 : x5_1 < (a0.size : Int)
   ·rw [if_pos c3] at H
    have c3b0 : decide (x5_1 < (a0.size : Int)) = true := decide_eq_true c3
    clear c3
    by_cases c4 : 0 ≤ x5_1
    ·rw [if_pos c4] at H
     have c4b0 : decide (0 ≤ x5_1) = true := decide_eq_true c4
     clear c4
     by_cases c6 : (bt a0 x5_1) = a1
     ·rw [if_pos c6] at H
      have c6b0 : ((bt a0 x5_1) == a1) = true := beq_iff_eq.mpr c6
      have c6b1 : ((bt a0 x5_1) != a1) = false := bne_eq_false_iff_eq.mpr c6
      clear c6
      obtain rfl := Option.some.inj H
      have p5 : 0 ≤ (x5_1 : Int) := of_decide_eq_true z14_1_
      have q5 : x5_1 < (a0.size : Int) := of_decide_eq_true z14_1_
      have hx5 := bt_at a0 x5_1
      replace p5 := eq_true p5
      replace q5 := eq_true q5
      go_wp2
      go_ret
      exact ⟨z14_0_, z14_2_⟩
     ·rw [if_neg c6] at H
      have c6b0 : ((bt a0 x5_1) == a1) = false := beq_eq_false_iff_ne.mpr c6
      have c6b1 : ((bt a0 x5_1) != a1) = true := bne_iff_ne.mpr c6
      have H' := Aside0.mk H
      clear H
      have p5 : 0 ≤ (x5_1 : Int) := of_decide_eq_true z14_1_
      have q5 : x5_1 < (a0.size : Int) := of_decide_eq_true z14_1_
      have hx5 := bt_at a0 x5_1
      replace p5 := eq_true p5
      replace q5 := eq_true q5
      go_wp2
      go_roundg k1
      case measure => have := HK1.out; omega
      case rel => exact ⟨(wrap64 (x5_1 + 1)), z14_0_, H', ⟨(by have := HK1.out; omega)⟩, z14_2_⟩
    ·rw [if_neg c4] at H
     exact absurd H (by simp)
   ·rw [if_neg c3] at H
    have c3b0 : decide (x5_1 < (a0.size : Int)) = false := decide_eq_false c3
    clear c3
    obtain rfl := Option.some.inj H
    go_wp2
    go_ret
    exact ⟨z14_0_, z14_2_⟩
/-! ### spec_ValidAddress: function 80 -/
mutual
def spec_ValidAddress.j0 : Nat → List ByteArray → Bool → Option (Bool)
 | 0, _, _ => none
 | k + 1, x3, x28 => if x28 = true then (some false) else (if 0 < (x3.length : Int) then ((spec_l2split.f k (rdOf ByteArray.empty x3 0) (⟨#[46]⟩ : ByteArray)).bind fun t245 => (spec_ValidAddress.l0 k t245 (t245.length : Int) 0)) else (none))
def spec_ValidAddress.l0 : Nat → List ByteArray → Int → Int → Option (Bool)
 | 0, _, _, _ => none
 | k + 1, x32, x33, x34 => if x34 < x33 then (if 0 ≤ x34 then (if x34 < (x32.length : Int) then (if (rdOf ByteArray.empty x32 x34).toList = ([] : List UInt8) then (some false) else (spec_ValidAddress.l1 k (rdOf ByteArray.empty x32 x34) 0 x32 x33 x34)) else (none)) else (none)) else (some true)
def spec_ValidAddress.l1 : Nat → ByteArray → Int → List ByteArray → Int → Int → Option (Bool)
 | 0, _, _, _, _, _ => none
 | k + 1, x5, x6, x32, x33, x34 => if x6 < (x5.size : Int) then (if 0 ≤ x6 then ((spec_l2letter.f (bt x5 x6)).bind fun t249 => (if t249 = true then (spec_ValidAddress.l1 k x5 (wrap64 (x6 + 1)) x32 x33 x34) else ((spec_l2has.f k (⟨#[43, 95, 45]⟩ : ByteArray) (bt x5 x6)).bind fun t250 => (if t250 = true then (spec_ValidAddress.l1 k x5 (wrap64 (x6 + 1)) x32 x33 x34) else (some false))))) else (none)) else (spec_ValidAddress.l0 k x32 x33 (wrap64 (x34 + 1)))
end
def spec_ValidAddress.f (k : Nat) (a0 : ByteArray) : Option (Bool) := if (a0.size : Int) > 160 then (some false) else ((spec_l2split.f k a0 (⟨#[64]⟩ : ByteArray)).bind fun t238 => (if (t238.length : Int) = 2 then (if 0 < (t238.length : Int) then (if ((rdOf ByteArray.empty t238 0).size : Int) > 64 then (spec_ValidAddress.j0 k t238 true) else (if 1 < (t238.length : Int) then ((spec_ValidDomain.f k (rdOf ByteArray.empty t238 1)).bind fun t243 => (spec_ValidAddress.j0 k t238 (!t243))) else (none))) else (none)) else (spec_ValidAddress.j0 k t238 true)))
theorem spec_ValidAddress.mono_l : ∀ k, (∀ y0 y1, LeO (spec_ValidAddress.j0 k y0 y1) (spec_ValidAddress.j0 (k + 1) y0 y1)) ∧ (∀ y0 y1 y2, LeO (spec_ValidAddress.l0 k y0 y1 y2) (spec_ValidAddress.l0 (k + 1) y0 y1 y2)) ∧ (∀ y0 y1 y2 y3 y4, LeO (spec_ValidAddress.l1 k y0 y1 y2 y3 y4) (spec_ValidAddress.l1 (k + 1) y0 y1 y2 y3 y4))
 | 0 => ⟨fun _ _ r h => by simp [spec_ValidAddress.j0] at h, fun _ _ _ r h => by simp [spec_ValidAddress.l0] at h, fun _ _ _ _ _ r h => by simp [spec_ValidAddress.l1] at h⟩
 | k + 1 => by
  obtain ⟨ih0, ih1, ih2⟩ := spec_ValidAddress.mono_l k
  refine ⟨?_, ?_, ?_⟩
  ·intro y0 y1
   unfold spec_ValidAddress.j0
   repeat' first
   | (with_reducible exact ih0 _ _)
   | (with_reducible exact ih1 _ _ _)
   | (with_reducible exact ih2 _ _ _ _ _)
   | (with_reducible exact spec_ValidDomain.mono _ _)
   | (with_reducible exact spec_l2has.mono _ _ _)
   | (with_reducible exact spec_l2split.mono _ _ _)
   | (with_reducible exact LeO.refl _)
   | (with_reducible exact LeO.none _)
   | (with_reducible refine LeO.ite ?_ ?_)
   | (with_reducible refine LeO.bind ?_ (fun _ => ?_))
   | exact ih0 _ _
   | exact ih1 _ _ _
   | exact ih2 _ _ _ _ _
   | exact spec_ValidDomain.mono _ _
   | exact spec_l2has.mono _ _ _
   | exact spec_l2split.mono _ _ _
   | exact LeO.none _
   | refine LeO.ite ?_ ?_
   | refine LeO.bind ?_ (fun _ => ?_)
  ·intro y0 y1 y2
   unfold spec_ValidAddress.l0
   repeat' first
   | (with_reducible exact ih0 _ _)
   | (with_reducible exact ih1 _ _ _)
   | (with_reducible exact ih2 _ _ _ _ _)
   | (with_reducible exact spec_ValidDomain.mono _ _)
   | (with_reducible exact spec_l2has.mono _ _ _)
   | (with_reducible exact spec_l2split.mono _ _ _)
   | (with_reducible exact LeO.refl _)
   | (with_reducible exact LeO.none _)
   | (with_reducible refine LeO.ite ?_ ?_)
   | (with_reducible refine LeO.bind ?_ (fun _ => ?_))
   | exact ih0 _ _
   | exact ih1 _ _ _
   | exact ih2 _ _ _ _ _
   | exact spec_ValidDomain.mono _ _
   | exact spec_l2has.mono _ _ _
   | exact spec_l2split.mono _ _ _
   | exact LeO.none _
   | refine LeO.ite ?_ ?_
   | refine LeO.bind ?_ (fun _ => ?_)
  ·intro y0 y1 y2 y3 y4
   unfold spec_ValidAddress.l1
   repeat' first
   | (with_reducible exact ih0 _ _)
   | (with_reducible exact ih1 _ _ _)
   | (with_reducible exact ih2 _ _ _ _ _)
   | (with_reducible exact spec_ValidDomain.mono _ _)
   | (with_reducible exact spec_l2has.mono _ _ _)
   | (with_reducible exact spec_l2split.mono _ _ _)
   | (with_reducible exact LeO.refl _)
   | (with_reducible exact LeO.none _)
   | (with_reducible refine LeO.ite ?_ ?_)
   | (with_reducible refine LeO.bind ?_ (fun _ => ?_))
   | exact ih0 _ _
   | exact ih1 _ _ _
   | exact ih2 _ _ _ _ _
   | exact spec_ValidDomain.mono _ _
   | exact spec_l2has.mono _ _ _
   | exact spec_l2split.mono _ _ _
   | exact LeO.none _
   | refine LeO.ite ?_ ?_
   | refine LeO.bind ?_ (fun _ => ?_)
theorem spec_ValidAddress.mono : ∀ a0 k, LeO (spec_ValidAddress.f k a0) (spec_ValidAddress.f (k + 1) a0) := by
 intro a0 k
 obtain ⟨ih0, ih1, ih2⟩ := spec_ValidAddress.mono_l k
 unfold spec_ValidAddress.f
 repeat' first
   | (with_reducible exact ih0 _ _)
   | (with_reducible exact ih1 _ _ _)
   | (with_reducible exact ih2 _ _ _ _ _)
   | (with_reducible exact spec_ValidDomain.mono _ _)
   | (with_reducible exact spec_l2has.mono _ _ _)
   | (with_reducible exact spec_l2split.mono _ _ _)
   | (with_reducible exact LeO.refl _)
   | (with_reducible exact LeO.none _)
   | (with_reducible refine LeO.ite ?_ ?_)
   | (with_reducible refine LeO.bind ?_ (fun _ => ?_))
   | exact ih0 _ _
   | exact ih1 _ _ _
   | exact ih2 _ _ _ _ _
   | exact spec_ValidDomain.mono _ _
   | exact spec_l2has.mono _ _ _
   | exact spec_l2split.mono _ _ _
   | exact LeO.none _
   | refine LeO.ite ?_ ?_
   | refine LeO.bind ?_ (fun _ => ?_)
set_option maxHeartbeats 8000000 in
set_option maxRecDepth 100000 in
theorem spec_ValidAddress.calls (k : Nat) (a0 : ByteArray) (r : Bool) (w : World) (h : spec_ValidAddress.f k a0 = some r) :
  Calls Tryz.prog 80 #[.string a0] w fun e w' => e = .returned (.bool r) ∧ Below w.heap.size w w' := by
 have HB := Aside0.mk (Below.refl w.heap.size w)
 have H := h
 unfold spec_ValidAddress.f at H
 clear h
 by_cases c2 : (a0.size : Int) > 160
 ·rw [if_pos c2] at H
  have c2b0 : decide (160 < (a0.size : Int)) = true := decide_eq_true c2
  have c2b1 : decide (160 < a0.size) = true := decide_eq_true (by omega)
  clear c2
  obtain rfl := Option.some.inj H
  go_enter Tryz.func80, Tryz.ntmps80
  go_wp2
  go_ret
  exact ⟨z14_4_, bq_⟩
 ·rw [if_neg c2] at H
  have c2b0 : decide (160 < (a0.size : Int)) = false := decide_eq_false c2
  have c2b1 : decide (160 < a0.size) = false := decide_eq_false (by omega)
  clear c2
  obtain ⟨t238, A3, H⟩ := zbi H
  have HC4 := Aside0.mk H
  clear H
  go_enter Tryz.func80, Tryz.ntmps80
  go_upto_region 4 with (first | ((with_reducible refine gate_callee (f := 93) rfl ?_); refine goesL_ (some 11) rfl rfl Tryz.func93 (by kernel_rfl) rfl #[.string a0, .string (⟨#[64]⟩ : ByteArray)] rfl z14_3_ ?_; (with_reducible refine (spec_l2split.calls k a0 (⟨#[64]⟩ : ByteArray) t238 _ A3.out).mono ?_); rintro e w5 ⟨v239, rfl, ho0, hb⟩; refine ⟨_, rfl, ?_⟩; have HO240 := Aside0.mk (Kd.R_lower ho0 (below_size (bq_))); replace HB := Aside0.mk (below_step (bq_) hb); clear hb; (try clear ho0)))
  (try simp only [Act.put, List.setIfInBounds_toArray, List.set_cons_zero, List.set_cons_succ])
  go_cut [28] (fun v28 wc => ∃ (kq : Nat) (x28_3 : Bool), v28 = .bool x28_3 ∧ Aside0 (spec_ValidAddress.j0 kq t238 x28_3 = some r) ∧ Aside0 (kq ≤ k) ∧ Aside0 (Kd.R Kd.string 9 wc w.heap.size (fun _ => True) v239 t238) ∧ Aside0 (Below w.heap.size w wc))
  case first =>
   have H := HC4.out
   clear HC4
   by_cases c6 : (t238.length : Int) = 2
   ·rw [if_pos c6] at H
    have c6b0 : ((t238.length : Int) == 2) = true := beq_iff_eq.mpr c6
    have c6b1 : ((t238.length : Int) != 2) = false := bne_eq_false_iff_eq.mpr c6
    clear c6
    (first | rw [c6b0] | (simp only [i64_w, i32_w]; rw [c6b0]) | rw [c6b1] | simp only [c6b2, decide_true, decide_false] | skip)
    by_cases c7 : 0 < (t238.length : Int)
    ·rw [if_pos c7] at H
     have c7b0 : decide (0 < (t238.length : Int)) = true := decide_eq_true c7
     have c7b1 : decide (0 < t238.length) = true := decide_eq_true (by omega)
     clear c7
     by_cases c8 : ((rdOf ByteArray.empty t238 0).size : Int) > 64
     ·rw [if_pos c8] at H
      have c8b0 : decide (64 < ((rdOf ByteArray.empty t238 0).size : Int)) = true := decide_eq_true c8
      have c8b1 : decide (64 < (rdOf ByteArray.empty t238 0).size) = true := decide_eq_true (by omega)
      clear c8
      have H' := Aside0.mk H
      clear H
      obtain ⟨Ao9, co9, eo9⟩ := Kd.R_slice HO240.out
      subst eo9
      have p241 : 0 ≤ (0 : Int) := (by omega)
      have q241 : 0 < (t238.length : Int) := of_decide_eq_true z14_1_
      obtain ⟨ad241, e241, hx241_0⟩ := Kd.at_string (Kd.R_reads' HO240.out).2.2 0 p241 q241
      cases e241
      have qi241 : (0 < t238.length) = True := eq_true (by omega)
      (try rw [show ((0 : Int)).toNat = 0 from rfl] at hx241_0)
      (try rw [Addr.add_zero'] at hx241_0)
      replace p241 := eq_true p241
      replace q241 := eq_true q241
      go_wp2
      go_meet
      case rel => exact ⟨_, (true), z14_0_, H', ⟨(by first | omega | exact Nat.le_refl _)⟩, ⟨(by (with_reducible repeat (first | apply Kd.R_alloc | apply Kd.R_drewN | apply Kd.R_drew)); exact HO240.out)⟩, ⟨bq_⟩⟩
     ·rw [if_neg c8] at H
      have c8b0 : decide (64 < ((rdOf ByteArray.empty t238 0).size : Int)) = false := decide_eq_false c8
      have c8b1 : decide (64 < (rdOf ByteArray.empty t238 0).size) = false := decide_eq_false (by omega)
      clear c8
      by_cases c10 : 1 < (t238.length : Int)
      ·rw [if_pos c10] at H
       have c10b0 : decide (1 < (t238.length : Int)) = true := decide_eq_true c10
       have c10b1 : decide (1 < t238.length) = true := decide_eq_true (by omega)
       clear c10
       obtain ⟨t243, A11, H⟩ := zbi H
       have H' := Aside0.mk H
       clear H
       obtain ⟨Ao12, co12, eo12⟩ := Kd.R_slice HO240.out
       subst eo12
       have p241 : 0 ≤ (0 : Int) := (by omega)
       have q241 : 0 < (t238.length : Int) := of_decide_eq_true z14_1_
       obtain ⟨ad241, e241, hx241_0⟩ := Kd.at_string (Kd.R_reads' HO240.out).2.2 0 p241 q241
       cases e241
       have qi241 : (0 < t238.length) = True := eq_true (by omega)
       (try rw [show ((0 : Int)).toNat = 0 from rfl] at hx241_0)
       (try rw [Addr.add_zero'] at hx241_0)
       replace p241 := eq_true p241
       replace q241 := eq_true q241
       have p242 : 0 ≤ (1 : Int) := (by omega)
       have q242 : 1 < (t238.length : Int) := of_decide_eq_true z14_1_
       obtain ⟨ad242, e242, hx242_0⟩ := Kd.at_string (Kd.R_reads' HO240.out).2.2 1 p242 q242
       obtain rfl : ad241 = ad242 := (by injection e242)
       (try simp only [show (1 : Int).toNat = 1 from rfl, Nat.reduceMul, Nat.reduceEqDiff, Go.Addr.add, ↓reduceIte] at hx242_0)
       have qi242 : (1 < t238.length) = True := eq_true (by omega)
       (try rw [show ((1 : Int)).toNat = 1 from rfl] at hx242_0)
       replace p242 := eq_true p242
       replace q242 := eq_true q242
       go_wp2_with (first | (go_at_call 94; (with_reducible refine (spec_ValidDomain.calls k (rdOf ByteArray.empty t238 1) t243 _ A11.out).mono ?_); rintro e w13 ⟨rfl, hb⟩; replace HO240 := Aside0.mk (Kd.R_below (by (with_reducible repeat (first | apply Kd.R_alloc | apply Kd.R_drewN | apply Kd.R_drew)); exact HO240.out) hb); replace HB := Aside0.mk (below_step (bq_) hb); clear hb))
       go_meet
       case rel => exact ⟨_, (!t243), z14_0_, H', ⟨(by first | omega | exact Nat.le_refl _)⟩, ⟨(by (with_reducible repeat (first | apply Kd.R_alloc | apply Kd.R_drewN | apply Kd.R_drew)); exact HO240.out)⟩, ⟨bq_⟩⟩
      ·rw [if_neg c10] at H
       exact absurd H (by simp)
    ·rw [if_neg c7] at H
     exact absurd H (by simp)
   ·rw [if_neg c6] at H
    have c6b0 : ((t238.length : Int) == 2) = false := beq_eq_false_iff_ne.mpr c6
    have c6b1 : ((t238.length : Int) != 2) = true := bne_iff_ne.mpr c6
    (first | rw [c6b0] | (simp only [i64_w, i32_w]; rw [c6b0]) | rw [c6b1] | simp only [c6b2, decide_true, decide_false] | skip)
    have H' := Aside0.mk H
    clear H
    obtain ⟨Ao14, co14, eo14⟩ := Kd.R_slice HO240.out
    subst eo14
    go_wp2
    go_meet
    case rel => exact ⟨_, (true), z14_0_, H', ⟨(by first | omega | exact Nat.le_refl _)⟩, ⟨(by (with_reducible repeat (first | apply Kd.R_alloc | apply Kd.R_drewN | apply Kd.R_drew)); exact HO240.out)⟩, ⟨bq_⟩⟩
  case rest =>
   clear HC4
   try clear c1
   try clear c2
   try clear c2b0
   try clear c2b1
   try clear p2
   try clear q2
   try clear hx2
   try clear qi2
   try clear c6
   try clear c6b0
   try clear c6b1
   try clear c7
   try clear c7b0
   try clear c7b1
   try clear c8
   try clear c8b0
   try clear c8b1
   try clear c9
   try clear c10
   try clear c10b0
   try clear c10b1
   try clear hx241_0
   try clear hx242_0
   try clear p241
   try clear p242
   try clear q241
   try clear q242
   obtain ⟨kq, x28_3, rfl, HA, HJ3, HO_3, HB⟩ := hcut
   cases kq with
   | zero => exact absurd HA.out (by simp [spec_ValidAddress.j0])
   | succ kj3 =>
    have H := HA.out
    clear HA
    simp only [spec_ValidAddress.j0] at H
    by_cases c15 : x28_3 = true
    ·subst c15
     rw [if_pos rfl] at H
     obtain rfl := Option.some.inj H
     go_wp2
     go_ret
     exact ⟨z14_4_, bq_⟩
    ·replace c15 := Bool.eq_false_iff.mpr c15
     subst c15
     rw [if_neg (show ¬ (false = true) by decide)] at H
     by_cases c16 : 0 < (t238.length : Int)
     ·rw [if_pos c16] at H
      have c16b0 : decide (0 < (t238.length : Int)) = true := decide_eq_true c16
      have c16b1 : decide (0 < t238.length) = true := decide_eq_true (by omega)
      clear c16
      obtain ⟨t245, A17, H⟩ := zbi H
      have H' := Aside0.mk H
      clear H
      obtain ⟨Ao18, co18, eo18⟩ := Kd.R_slice HO_3.out
      subst eo18
      have p244 : 0 ≤ (0 : Int) := (by omega)
      have q244 : 0 < (t238.length : Int) := of_decide_eq_true z14_1_
      obtain ⟨ad244, e244, hx244_0⟩ := Kd.at_string (Kd.R_reads' HO_3.out).2.2 0 p244 q244
      cases e244
      have qi244 : (0 < t238.length) = True := eq_true (by omega)
      (try rw [show ((0 : Int)).toNat = 0 from rfl] at hx244_0)
      (try rw [Addr.add_zero'] at hx244_0)
      replace p244 := eq_true p244
      replace q244 := eq_true q244
      go_wp2_with (first | ((with_reducible refine gate_callee (f := 93) rfl ?_); refine goesL_ (some 32) rfl rfl Tryz.func93 (by kernel_rfl) rfl #[.string (rdOf ByteArray.empty t238 0), .string (⟨#[46]⟩ : ByteArray)] rfl z14_3_ ?_; (with_reducible refine (spec_l2split.calls kj3 (rdOf ByteArray.empty t238 0) (⟨#[46]⟩ : ByteArray) t245 _ A17.out).mono ?_); rintro e w19 ⟨v246, rfl, ho0, hb⟩; refine ⟨_, rfl, ?_⟩; have HO247 := Aside0.mk (Kd.R_lower (Kd.R_new' ho0 (Kd.R_lt (by (with_reducible repeat (first | apply Kd.R_alloc | apply Kd.R_drewN | apply Kd.R_drew)); exact HO_3.out))) (below_size (bq_))); replace HO_3 := Aside0.mk (Kd.R_elder' (by (with_reducible repeat (first | apply Kd.R_alloc | apply Kd.R_drewN | apply Kd.R_drew)); exact HO_3.out) (Kd.R_base ho0) hb); replace HB := Aside0.mk (below_step (bq_) hb); clear hb; (try clear ho0); obtain ⟨Ao20, co20, eo20⟩ := Kd.R_slice HO247.out; subst eo20))
      go_loopg [34] kj3 (fun kq v34 w' => ∃ (x34_2 : Int), v34 = .int .i64 x34_2 ∧ Aside0 (spec_ValidAddress.l0 kq t245 (t245.length : Int) x34_2 = some r) ∧ Aside0 (kq ≤ kj3) ∧ Aside0 (Kd.R Kd.string 9 w' w.heap.size (fun _ => True) (.slice Ao20 t245.length co20) t245) ∧ Aside0 (Below w.heap.size w w'))
      case atStart => exact ⟨(0), z14_0_, H', ⟨Nat.le_refl _⟩, ⟨(by (with_reducible repeat (first | apply Kd.R_alloc | apply Kd.R_drewN | apply Kd.R_drew)); exact Kd.R_mono HO247.out (fun _ hk => trivial))⟩, ⟨bq_⟩⟩
      case round =>
       clear H'
       try clear c1
       try clear c2
       try clear c2b0
       try clear c2b1
       try clear p2
       try clear q2
       try clear hx2
       try clear qi2
       try clear c6
       try clear c6b0
       try clear c6b1
       try clear c7
       try clear c7b0
       try clear c7b1
       try clear c8
       try clear c8b0
       try clear c8b1
       try clear c9
       try clear c10
       try clear c10b0
       try clear c10b1
       try clear c15
       try clear c16
       try clear c16b0
       try clear c16b1
       try clear hx241_0
       try clear hx242_0
       try clear hx244_0
       try clear p2
       try clear p241
       try clear p242
       try clear p244
       try clear q2
       try clear q241
       try clear q242
       try clear q244
       obtain ⟨x34_2, rfl, HA, HK2, HO_32, HB⟩ := hrel
       cases gk with
       | zero => exact absurd HA.out (by simp [spec_ValidAddress.l0])
       | succ k2 =>
        have H := HA.out
        clear HA
        simp only [spec_ValidAddress.l0] at H
        by_cases c21 : x34_2 < (t245.length : Int)
        ·rw [if_pos c21] at H
         have c21b0 : decide (x34_2 < (t245.length : Int)) = true := decide_eq_true c21
         clear c21
         by_cases c22 : 0 ≤ x34_2
         ·rw [if_pos c22] at H
          have c22b0 : decide (0 ≤ x34_2) = true := decide_eq_true c22
          clear c22
          by_cases c23 : x34_2 < (t245.length : Int)
          ·rw [if_pos c23] at H
           have c23b0 : decide (x34_2 < (t245.length : Int)) = true := decide_eq_true c23
           clear c23
           by_cases c24 : (rdOf ByteArray.empty t245 x34_2).toList = ([] : List UInt8)
           ·rw [if_pos c24] at H
            have c24b0 : ((rdOf ByteArray.empty t245 x34_2).toList == ([] : List UInt8)) = true := beq_iff_eq.mpr c24
            have c24b7 : (rdOf ByteArray.empty t245 x34_2).toList.isEmpty = true := by rw [c24]; rfl
            have c24b1 : ((rdOf ByteArray.empty t245 x34_2).toList != ([] : List UInt8)) = false := bne_eq_false_iff_eq.mpr c24
            clear c24
            obtain rfl := Option.some.inj H
            have p248 : 0 ≤ (x34_2 : Int) := of_decide_eq_true z14_1_
            have q248 : x34_2 < (t245.length : Int) := of_decide_eq_true z14_1_
            obtain ⟨ad248, e248, hx248_0⟩ := Kd.at_string (Kd.R_reads' HO_32.out).2.2 x34_2 p248 q248
            cases e248
            replace p248 := eq_true p248
            replace q248 := eq_true q248
            go_wp2
            go_ret
            exact ⟨z14_4_, bq_⟩
           ·rw [if_neg c24] at H
            have c24b0 : ((rdOf ByteArray.empty t245 x34_2).toList == ([] : List UInt8)) = false := beq_eq_false_iff_ne.mpr c24
            have c24b7 : (rdOf ByteArray.empty t245 x34_2).toList.isEmpty = false := by simpa using c24
            have c24b1 : ((rdOf ByteArray.empty t245 x34_2).toList != ([] : List UInt8)) = true := bne_iff_ne.mpr c24
            have H' := Aside0.mk H
            clear H
            have p248 : 0 ≤ (x34_2 : Int) := of_decide_eq_true z14_1_
            have q248 : x34_2 < (t245.length : Int) := of_decide_eq_true z14_1_
            obtain ⟨ad248, e248, hx248_0⟩ := Kd.at_string (Kd.R_reads' HO_32.out).2.2 x34_2 p248 q248
            cases e248
            replace p248 := eq_true p248
            replace q248 := eq_true q248
            go_wp2
            go_loopg [6] k2 (fun kq v6 w' => ∃ (x6_3 : Int), v6 = .int .i64 x6_3 ∧ Aside0 (spec_ValidAddress.l1 kq (rdOf ByteArray.empty t245 x34_2) x6_3 t245 (t245.length : Int) x34_2 = some r) ∧ Aside0 (kq ≤ k2) ∧ Aside0 (Kd.R Kd.string 9 w' w.heap.size (fun _ => True) (.slice (some ad248) t245.length co20) t245) ∧ Aside0 (Below w.heap.size w w'))
            case atStart => exact ⟨(0), z14_0_, H', ⟨Nat.le_refl _⟩, ⟨(by (with_reducible repeat (first | apply Kd.R_alloc | apply Kd.R_drewN | apply Kd.R_drew)); exact HO_32.out)⟩, ⟨bq_⟩⟩
            case round =>
             clear H'
             try clear c1
             try clear c2
             try clear c2b0
             try clear c2b1
             try clear p2
             try clear q2
             try clear hx2
             try clear qi2
             try clear c6
             try clear c6b0
             try clear c6b1
             try clear c7
             try clear c7b0
             try clear c7b1
             try clear c8
             try clear c8b0
             try clear c8b1
             try clear c9
             try clear c10
             try clear c10b0
             try clear c10b1
             try clear c15
             try clear c16
             try clear c16b0
             try clear c16b1
             try clear c21
             try clear c21b0
             try clear c22
             try clear c22b0
             try clear c23
             try clear c23b0
             try clear c24
             try clear c24b0
             try clear c24b1
             try clear p24
             try clear q24
             try clear hx24
             try clear qi24
             try clear hx241_0
             try clear hx242_0
             try clear hx244_0
             try clear hx248_0
             try clear p2
             try clear p241
             try clear p242
             try clear p244
             try clear p248
             try clear q2
             try clear q241
             try clear q242
             try clear q244
             try clear q248
             obtain ⟨x6_3, rfl, HA, HK3, HO_32, HB⟩ := hrel
             cases gk with
             | zero => exact absurd HA.out (by simp [spec_ValidAddress.l1])
             | succ k3 =>
              have H := HA.out
              clear HA
              simp only [spec_ValidAddress.l1] at H
              by_cases c25 : x6_3 < ((rdOf ByteArray.empty t245 x34_2).size : Int)
              ·rw [if_pos c25] at H
               have c25b0 : decide (x6_3 < ((rdOf ByteArray.empty t245 x34_2).size : Int)) = true := decide_eq_true c25
               clear c25
               by_cases c26 : 0 ≤ x6_3
               ·rw [if_pos c26] at H
                have c26b0 : decide (0 ≤ x6_3) = true := decide_eq_true c26
                clear c26
                obtain ⟨t249, A28, H⟩ := zbi H
                by_cases c29 : t249 = true
                ·subst c29
                 rw [if_pos rfl] at H
                 have H' := Aside0.mk H
                 clear H
                 have p27 : 0 ≤ (x6_3 : Int) := of_decide_eq_true z14_1_
                 have q27 : x6_3 < ((rdOf ByteArray.empty t245 x34_2).size : Int) := of_decide_eq_true z14_1_
                 have hx27 := bt_at (rdOf ByteArray.empty t245 x34_2) x6_3
                 replace p27 := eq_true p27
                 replace q27 := eq_true q27
                 go_wp2_with (first | ((with_reducible refine gate_callee (f := 95) rfl ?_); refine goesL_ (some 49) rfl rfl Tryz.func95 (by kernel_rfl) rfl #[.int .u8 (bt (rdOf ByteArray.empty t245 x34_2) x6_3)] rfl z14_3_ ?_; (with_reducible refine (spec_l2letter.calls (bt (rdOf ByteArray.empty t245 x34_2) x6_3) true _ A28.out).mono ?_); rintro e w' ⟨rfl, ⟨nd, rfl⟩⟩; refine ⟨_, rfl, ?_⟩))
                 go_roundg k3
                 case measure => have := HJ3.out; have := HK2.out; have := HK3.out; omega
                 case rel => exact ⟨(wrap64 (x6_3 + 1)), z14_0_, H', ⟨(by have := HJ3.out; have := HK2.out; have := HK3.out; omega)⟩, ⟨(by (with_reducible repeat (first | apply Kd.R_alloc | apply Kd.R_drewN | apply Kd.R_drew)); exact HO_32.out)⟩, ⟨bq_⟩⟩
                ·replace c29 := Bool.eq_false_iff.mpr c29
                 subst c29
                 rw [if_neg (show ¬ (false = true) by decide)] at H
                 obtain ⟨t250, A31, H⟩ := zbi H
                 have HS32 := Aside0.mk H
                 clear H
                 have p27 : 0 ≤ (x6_3 : Int) := of_decide_eq_true z14_1_
                 have q27 : x6_3 < ((rdOf ByteArray.empty t245 x34_2).size : Int) := of_decide_eq_true z14_1_
                 have hx27 := bt_at (rdOf ByteArray.empty t245 x34_2) x6_3
                 replace p27 := eq_true p27
                 replace q27 := eq_true q27
                 go_upto_if 57 with (first | ((with_reducible refine gate_callee (f := 95) rfl ?_); refine goesL_ (some 49) rfl rfl Tryz.func95 (by kernel_rfl) rfl #[.int .u8 (bt (rdOf ByteArray.empty t245 x34_2) x6_3)] rfl z14_3_ ?_; (with_reducible refine (spec_l2letter.calls (bt (rdOf ByteArray.empty t245 x34_2) x6_3) false _ A28.out).mono ?_); rintro e w' ⟨rfl, ⟨nd, rfl⟩⟩; refine ⟨_, rfl, ?_⟩; have p30 : 0 ≤ (x6_3 : Int) := of_decide_eq_true z14_1_; have q30 : x6_3 < ((rdOf ByteArray.empty t245 x34_2).size : Int) := of_decide_eq_true z14_1_; have hx30 := bt_at (rdOf ByteArray.empty t245 x34_2) x6_3; replace p30 := eq_true p30; replace q30 := eq_true q30) | (go_at_call 96; (with_reducible refine (spec_l2has.calls k3 (⟨#[43, 95, 45]⟩ : ByteArray) (bt (rdOf ByteArray.empty t245 x34_2) x6_3) t250 _ A31.out).mono ?_); rintro e w' ⟨rfl, ⟨nd, rfl⟩⟩))
                 (try simp only [Act.put, List.setIfInBounds_toArray, List.set_cons_zero, List.set_cons_succ])
                 have H := HS32.out
                 clear HS32
                 by_cases c33 : t250 = true
                 ·subst c33
                  rw [if_pos rfl] at H
                  have H' := Aside0.mk H
                  clear H
                  go_wp2
                  go_roundg k3
                  case measure => have := HJ3.out; have := HK2.out; have := HK3.out; omega
                  case rel => exact ⟨(wrap64 (x6_3 + 1)), z14_0_, H', ⟨(by have := HJ3.out; have := HK2.out; have := HK3.out; omega)⟩, ⟨(by (with_reducible repeat (first | apply Kd.R_alloc | apply Kd.R_drewN | apply Kd.R_drew)); exact HO_32.out)⟩, ⟨bq_⟩⟩
                 ·replace c33 := Bool.eq_false_iff.mpr c33
                  subst c33
                  rw [if_neg (show ¬ (false = true) by decide)] at H
                  obtain rfl := Option.some.inj H
                  go_wp2
                  go_ret
                  exact ⟨z14_4_, bq_⟩
               ·rw [if_neg c26] at H
                exact absurd H (by simp)
              ·rw [if_neg c25] at H
               have c25b0 : decide (x6_3 < ((rdOf ByteArray.empty t245 x34_2).size : Int)) = false := decide_eq_false c25
               clear c25
               have H' := Aside0.mk H
               clear H
               go_wp2
               go_roundg k3
               case measure => have := HJ3.out; have := HK2.out; have := HK3.out; omega
               case rel => exact ⟨(wrap64 (x34_2 + 1)), z14_0_, H', ⟨(by have := HJ3.out; have := HK2.out; have := HK3.out; omega)⟩, ⟨(by (with_reducible repeat (first | apply Kd.R_alloc | apply Kd.R_drewN | apply Kd.R_drew)); exact HO_32.out)⟩, ⟨bq_⟩⟩
          ·rw [if_neg c23] at H
           exact absurd H (by simp)
         ·rw [if_neg c22] at H
          exact absurd H (by simp)
        ·rw [if_neg c21] at H
         have c21b0 : decide (x34_2 < (t245.length : Int)) = false := decide_eq_false c21
         clear c21
         obtain rfl := Option.some.inj H
         go_wp2
         go_ret
         exact ⟨z14_4_, bq_⟩
     ·rw [if_neg c16] at H
      exact absurd H (by simp)
end Go.Proofs.YtnlembpmcbnpnaaGreatDoor.X
