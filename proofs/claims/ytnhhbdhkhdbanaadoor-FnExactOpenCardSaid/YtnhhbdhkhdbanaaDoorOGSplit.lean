/- Contracts of strings.Split and strings.SplitAfter at a separator of one byte or more, in the form in which this seat's printed functions are told. Condition: texts shorter than 4294967281 bytes. -/
import Derived.Test.YtnhhbdhkhdbanaaDoorOGStr
namespace Go.Proofs.YtnhhbdhkhdbanaaDoor.X
open Go.RowKit Go.Proofs.YtnhhbdhkhdbanaaDoorW.PrintWords

theorem info_str : (Tryd.prog.info? 9).map (fun i => (i.zero, i.size, i.bytes)) = some (some (.string ByteArray.empty), 1, 16) := by kernel_rfl

/-- Pieces in a new block are a row of the call's own. -/
theorem cells_row (w : World) (ps : List ByteArray) (N : Nat) (hN : ps.length ≤ N) (hm : N ≤ maxLen) :
    Kd.R Kd.string 9 (w.alloc (.cells (Lib.cellsOf ps N) 9)) w.heap.size (fun _ => True) (.slice (some ⟨w.heap.size, 0, none⟩) ps.length N) ps := by
  refine Kd.R_of_own ⟨by simp [encs], .inr ⟨w.heap.size, N, Lib.cellsOf ps N, rfl, Nat.le_refl _, heap_alloc_new w _, hN, hm, by rw [Lib.cellsOf_size hN, Nat.mul_one], ?_⟩⟩ (fun _ _ => trivial)
  simp [Lib.cellsOf, encs]

theorem N_exists (s sep : ByteArray) : ∃ N : Nat, (N : Int) = min (if (-1 : Int) < 0 then (Lib.countB s sep : Int) + 1 else -1) ((s.size : Int) + 1) := ⟨min (Lib.countB s sep + 1) (s.size + 1), by simp only [show ((-1 : Int) < 0) from by decide, if_true]; omega⟩

/-- How many pieces there are at most. -/
def pieces (s sep : ByteArray) : Nat := min (Lib.countB s sep + 1) (s.size + 1)
theorem pieces_eq (s sep : ByteArray) : (pieces s sep : Int) = min (if (-1 : Int) < 0 then (Lib.countB s sep : Int) + 1 else -1) ((s.size : Int) + 1) := by
  unfold pieces
  simp only [show ((-1 : Int) < 0) from by decide, if_true]
  omega

def strings_Split.f (a0 a1 : ByteArray) : Option (List ByteArray) := if a0.size < 4294967281 ∧ 1 ≤ a1.size then some (Lib.splitB a1 0 (pieces a0 a1 - 1) a0) else none
def strings_SplitAfter.f (a0 a1 : ByteArray) : Option (List ByteArray) := if a0.size < 4294967281 ∧ 1 ≤ a1.size then some (Lib.splitB a1 a1.size (pieces a0 a1 - 1) a0) else none
theorem splitB_len (sep : ByteArray) (sv : Nat) : ∀ (k : Nat) (s : ByteArray), (Lib.splitB sep sv k s).length ≤ k + 1
  | 0, s => by simp [Lib.splitB]
  | k + 1, s => by
    unfold Lib.splitB
    split
    · simp
    · simp only [List.length_cons]
      have := splitB_len sep sv k (s.extract ((Lib.indexB s sep).toNat + sep.size) s.size)
      omega
theorem genSplit_all (a0 a1 : ByteArray) (sv : Nat) (w : World) (hGM : GlM w) (hs : a0.size < 4294967281) (h1 : 1 ≤ a1.size) (hsv : sv ≤ a1.size) :
    Calls Tryd.prog 126 #[.string a0, .string a1, .int .i64 sv, .int .i64 (-1)] w fun e w' => ∃ v : Value, e = .returned v ∧ Kd.R Kd.string 9 w' w.heap.size (fun _ => True) v (Lib.splitB a1 sv (pieces a0 a1 - 1) a0) ∧ Below w.heap.size w w' := by
  obtain ⟨m, hm⟩ := hGM
  refine (Any.strings_genSplit { Tryd.lays221 with } info_str a0 a1 sv (-1) (pieces a0 a1) m w hs hm h1 hsv (by decide) (by decide) (pieces_eq a0 a1)).mono ?_
  rintro e w' ⟨rfl, rfl⟩
  have hl := splitB_len a1 sv (pieces a0 a1 - 1) a0
  have hp : 1 ≤ pieces a0 a1 ∧ pieces a0 a1 ≤ a0.size + 1 := by unfold pieces; omega
  exact ⟨_, rfl, cells_row w _ _ (by omega) (by simp only [maxLen]; omega), (Below.refl _ _).alloc (Nat.le_refl _) _⟩

set_option maxHeartbeats 1000000 in
theorem strings_Split.calls (a0 a1 : ByteArray) (r : List ByteArray) (w : World) (hGM : GlM w) (h : strings_Split.f a0 a1 = some r) :
    Calls Tryd.prog 141 #[.string a0, .string a1] w fun e w' => ∃ v0_ : Value, e = .returned (v0_) ∧ Kd.R Kd.string 9 w' w.heap.size (fun _ => True) v0_ r ∧ Below w.heap.size w w' := by
  unfold strings_Split.f at h
  split at h
  · rename_i hs
    obtain rfl := Option.some.inj h
    obtain ⟨hs0, hs1⟩ := hs
    have HG := Lib.hid hGM
    clear hGM
    have H1 := Lib.hid hs1
    have H0 := Lib.hid hs0
    clear hs0 hs1
    go_enter Tryd.func141, Tryd.ntmps141
    go_wp2_with fail
    refine (genSplit_all a0 a1 0 _ HG.out H0.out H1.out (Nat.zero_le _)).mono ?_
    rintro e w1 ⟨v, rfl, hv, hb⟩
    have HV := Lib.hid hv
    have HB := Lib.hid hb
    clear hv hb
    go_wp2_with fail
    go_ret
    exact ⟨v, rfl, HV.out, HB.out⟩
  · cases h

set_option maxHeartbeats 1000000 in
theorem strings_SplitAfter.calls (a0 a1 : ByteArray) (r : List ByteArray) (w : World) (hGM : GlM w) (h : strings_SplitAfter.f a0 a1 = some r) :
    Calls Tryd.prog 97 #[.string a0, .string a1] w fun e w' => ∃ v0_ : Value, e = .returned (v0_) ∧ Kd.R Kd.string 9 w' w.heap.size (fun _ => True) v0_ r ∧ Below w.heap.size w w' := by
  unfold strings_SplitAfter.f at h
  split at h
  · rename_i hs
    obtain rfl := Option.some.inj h
    obtain ⟨hs0, hs1⟩ := hs
    have HG := Lib.hid hGM
    clear hGM
    have H1 := Lib.hid hs1
    have H0 := Lib.hid hs0
    clear hs0 hs1
    go_enter Tryd.func97, Tryd.ntmps97
    go_wp2_with fail
    refine (genSplit_all a0 a1 a1.size _ HG.out H0.out H1.out (Nat.le_refl _)).mono ?_
    rintro e w1 ⟨v, rfl, hv, hb⟩
    have HV := Lib.hid hv
    have HB := Lib.hid hb
    clear hv hb
    go_wp2_with fail
    go_ret
    exact ⟨v, rfl, HV.out, HB.out⟩
  · cases h
end Go.Proofs.YtnhhbdhkhdbanaaDoor.X
