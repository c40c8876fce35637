/- What the two Stuff answer: one law. Plain Lean. -/
import Derived.Test.YtnhhbdhkhdbanaaDoorX5
import Derived.Test.YtnhhbdhkhdbanaaDoorX5
import Derived.Test.YtnhhbdhkhdbanaaDoorPLines
namespace Go.Proofs.YtnhhbdhkhdbanaaDoor.Pure
open Go Go.RowKit Go.Proofs.YtnhhbdhkhdbanaaDoorW.PrintWords
set_option linter.unusedVariables false
set_option linter.unusedSimpArgs false
theorem add_empty (a e : ByteArray) (h : e.toList = []) : a ++ e = a := by
  rw [ByteArray.toList_eq] at h
  apply ByteArray.ext; apply Array.ext'
  rw [ByteArray.data_append, Array.toList_append, h, List.append_nil]
theorem crlf_line (q : ByteArray) : ((q ++ crlf).toList = ([13, 10] : List UInt8)) ↔ q.toList = [] := by
  rw [ByteArray.toList_eq, ByteArray.toList_eq, ByteArray.data_append, Array.toList_append]
  show q.data.toList ++ [13, 10] = [13, 10] ↔ _
  constructor
  · intro h
    have := congrArg List.length h
    rw [List.length_append] at this
    exact List.eq_nil_of_length_eq_zero (by omega)
  · intro h; rw [h]; rfl
theorem rd_map (qs : List ByteArray) (last : ByteArray) (i : Nat) (h : i < qs.length) : rdOf ByteArray.empty (qs.map (· ++ crlf) ++ [last]) (i : Int) = qs[i] ++ crlf := by
  rw [rd_get _ i (by simp; omega), List.getElem_append_left (by simpa using h)]; simp
theorem rd_mapl (qs : List ByteArray) (last : ByteArray) : rdOf ByteArray.empty (qs.map (· ++ crlf) ++ [last]) (qs.length : Int) = last := by rw [rd_get _ _ (by simp)]; simp
theorem body_bounds (s : ByteArray) (qs : List ByteArray) (last : ByteArray) (h : sp s crlf = qs ++ [last]) (hb : bodyB qs last s = true) : qs.length ≤ 100000 ∧ (∀ p ∈ qs, p.size ≤ 100000) ∧ last.toList = [] := by
  unfold bodyB at hb
  simp only [Bool.and_eq_true, decide_eq_true_eq, List.isEmpty_iff] at hb
  have hlen := sp_len s crlf (by decide)
  rw [h, List.length_append, List.length_singleton] at hlen
  refine ⟨by omega, fun p hp => ?_, hb.1.2⟩
  have := sp_sizes crlf s.size (Lib.countB s crlf) s (Nat.le_refl _) p (by
    show p ∈ sp s crlf
    rw [h]; exact List.mem_append_left _ hp)
  omega
def dot : ByteArray := ⟨#[46]⟩
def starts (q : ByteArray) : Bool := decide (bt q 0 = 46)
def stf : List ByteArray → ByteArray → ByteArray
  | [], acc => acc ++ ⟨#[46, 13, 10]⟩
  | q :: qs, acc => if q.size ≠ 0 ∧ bt q 0 = 46 then stf qs ((acc ++ dot) ++ (q ++ crlf)) else stf qs (acc ++ (q ++ crlf))
theorem specStf_l0 (xs : List ByteArray) (hl : xs.length ≤ 100000) (hx : ∀ p ∈ xs, p.size ≤ 100000) : ∀ (n i : Nat) (acc : ByteArray), xs.length - i = n → i ≤ xs.length → acc.size ≤ 1000000 * i →
    Ev (fun k => X.spec_Stuff.l0 k acc xs (xs.length : Int) (i : Int)) (stf (xs.drop i) acc) := by
  intro n
  induction n with
  | zero =>
    intro i acc hn hi ha
    refine Ev.step (f := fun _ => some (acc ++ ⟨#[46, 13, 10]⟩)) (fun k => ?_) ?_
    · rw [X.spec_Stuff.l0, if_neg (by omega), if_pos (by omega)]
    · rw [List.drop_of_length_le (by omega)]; exact Ev.now _
  | succ n ih =>
    intro i acc hn hi ha
    have e2 : wrap64 ((i : Int) + 1) = ((i + 1 : Nat) : Int) := by rw [wrap_id _ (by omega) (by omega)]; omega
    have hi' : i < xs.length := by omega
    rw [List.drop_eq_getElem_cons hi']
    have hz := hx _ (List.getElem_mem hi')
    have hr := rd_get xs i hi'
    generalize xs[i] = q at hz hr ⊢
    have hc : (q ++ (⟨#[13, 10]⟩ : ByteArray)).size = q.size + 2 := by rw [ByteArray.size_append]; rfl
    have hc' : (q ++ crlf).size = q.size + 2 := hc
    have hd : (acc ++ (⟨#[46]⟩ : ByteArray)).size = acc.size + 1 := by rw [ByteArray.size_append]; rfl
    have hd' : (acc ++ dot).size = acc.size + 1 := hd
    unfold stf
    by_cases h0 : q.size = 0
    · rw [if_neg (fun h => h.1 h0)]
      refine Ev.step (f := fun k => X.spec_Stuff.l0 k (acc ++ (q ++ crlf)) xs (xs.length : Int) ((i + 1 : Nat) : Int)) (fun k => ?_) (ih (i + 1) _ (by omega) (by omega) (by rw [ByteArray.size_append, hc']; omega))
      rw [X.spec_Stuff.l0, if_pos (by omega), if_pos (by omega), if_pos (by omega), hr, if_neg (by omega), if_pos (by omega), if_pos (by rw [hc]; omega), e2]; rfl
    by_cases h1 : bt q 0 = 46
    · rw [if_pos ⟨h0, h1⟩]
      refine Ev.step (f := fun k => X.spec_Stuff.l0 k ((acc ++ dot) ++ (q ++ crlf)) xs (xs.length : Int) ((i + 1 : Nat) : Int)) (fun k => ?_) (ih (i + 1) _ (by omega) (by omega) (by rw [ByteArray.size_append, hc', hd']; omega))
      rw [X.spec_Stuff.l0, if_pos (by omega), if_pos (by omega), if_pos (by omega), hr, if_pos (by omega), if_pos (by omega), if_pos h1, if_pos (by omega), if_pos (by omega), if_pos (by rw [hc, hd]; omega), e2]; rfl
    · rw [if_neg (fun h => h1 h.2)]
      refine Ev.step (f := fun k => X.spec_Stuff.l0 k (acc ++ (q ++ crlf)) xs (xs.length : Int) ((i + 1 : Nat) : Int)) (fun k => ?_) (ih (i + 1) _ (by omega) (by omega) (by rw [ByteArray.size_append, hc']; omega))
      rw [X.spec_Stuff.l0, if_pos (by omega), if_pos (by omega), if_pos (by omega), hr, if_pos (by omega), if_pos (by omega), if_neg h1, if_pos (by omega), if_pos (by rw [hc]; omega), e2]; rfl
theorem prefix_f (q : ByteArray) : X.strings_HasPrefix.f q ⟨#[46]⟩ = some (decide (q.size ≠ 0 ∧ bt q 0 = 46)) := by
  unfold X.strings_HasPrefix.f X.stringslite_HasPrefix.f
  have h1 : ((⟨#[46]⟩ : ByteArray).size : Int) = 1 := rfl
  rw [h1]
  by_cases h0 : q.size = 0
  · rw [if_neg (by omega), Option.bind_some]; simp [h0]
  · rw [if_pos (by omega), if_pos (by omega), if_pos (by omega), Option.bind_some]
    congr 1
    have hlen : 0 < q.data.toList.length := by rw [data_length]; omega
    have hb := bt_get q 0 (by omega)
    have he : (q.extract 0 (1 : Int).toNat).toList = [q.data.toList[0]] := by
      rw [ByteArray.toList_eq, data_extract]
      show (List.drop 0 (List.take 1 q.data.toList)) = _
      rw [List.drop_zero, List.take_one, List.head?_eq_getElem?, List.getElem?_eq_getElem hlen]; rfl
    rw [he, Bool.eq_iff_iff, beq_iff_eq, decide_eq_true_eq]
    have e46 : ((⟨#[46]⟩ : ByteArray).toList) = [46] := by rw [ByteArray.toList_eq]
    rw [e46, List.cons.injEq]
    have hb' : bt q 0 = ((q.data.toList[0]).toNat : Int) := hb
    rw [hb', show (46 : Int) = ((46 : UInt8).toNat : Int) from rfl, byte_iff]
    exact ⟨fun h => ⟨h0, h.1⟩, fun h => ⟨h.2, rfl⟩⟩
theorem prefix_crlf (q : ByteArray) : ((q ++ crlf).size ≠ 0 ∧ bt (q ++ crlf) 0 = 46) ↔ (q.size ≠ 0 ∧ bt q 0 = 46) := by
  have hc : (q ++ crlf).size = q.size + 2 := by rw [ByteArray.size_append]; rfl
  have hb := bt_get (q ++ crlf) 0 (by omega)
  have hb' : bt (q ++ crlf) 0 = (((q ++ crlf).data.toList[0]'(by rw [data_length]; omega)).toNat : Int) := hb
  have hd : (q ++ crlf).data.toList = q.data.toList ++ [13, 10] := by rw [ByteArray.data_append, Array.toList_append]; rfl
  by_cases h0 : q.size = 0
  · have hq : q.data.toList = [] := List.eq_nil_of_length_eq_zero (by rw [data_length]; exact h0)
    have : ((q ++ crlf).data.toList[0]'(by rw [data_length]; omega)) = 13 := by
      simp only [hd, hq, List.nil_append, List.getElem_cons_zero]
    rw [hb', this, h0]
    constructor
    · rintro ⟨_, h⟩; exact absurd h (by decide)
    · rintro ⟨h, _⟩; exact absurd rfl h
  · have hq := bt_get q 0 (by omega)
    have hq' : bt q 0 = ((q.data.toList[0]'(by rw [data_length]; omega)).toNat : Int) := hq
    have : ((q ++ crlf).data.toList[0]'(by rw [data_length]; omega)) = (q.data.toList[0]'(by rw [data_length]; omega)) := by
      simp only [hd]
      rw [List.getElem_append_left]
    rw [hb', this, ← hq']
    exact ⟨fun h => ⟨h0, h.2⟩, fun h => ⟨by omega, h.2⟩⟩
theorem implStf_l0 (xs : List ByteArray) (last : ByteArray) (hlast : last.toList = []) (hl : xs.length ≤ 100000) (hx : ∀ p ∈ xs, p.size ≤ 100000) : ∀ (n i : Nat) (acc : ByteArray), xs.length - i = n → i ≤ xs.length → acc.size ≤ 1000000 * i →
    Ev (fun k => X.impl_Stuff.l0 k acc (xs.map (· ++ crlf) ++ [last]) ((xs.map (· ++ crlf) ++ [last]).length : Int) (i : Int)) (stf (xs.drop i) acc) := by
  have hls : last.size = 0 := by rw [← data_length, ← ByteArray.toList_eq, hlast]; rfl
  have hll : (xs.map (· ++ crlf) ++ [last]).length = xs.length + 1 := by simp
  intro n
  induction n with
  | zero =>
    intro i acc hn hi ha
    obtain rfl : i = xs.length := by omega
    have e2 : wrap64 ((xs.length : Int) + 1) = ((xs.length + 1 : Nat) : Int) := by rw [wrap_id _ (by omega) (by omega)]; omega
    rw [List.drop_length]
    refine Ev.step (f := fun k => X.impl_Stuff.l0 k acc (xs.map (· ++ crlf) ++ [last]) ((xs.map (· ++ crlf) ++ [last]).length : Int) ((xs.length + 1 : Nat) : Int)) (fun k => ?_) ?_
    · rw [X.impl_Stuff.l0, if_pos (by rw [hll]; omega), if_pos (by omega), if_pos (by rw [hll]; omega), rd_mapl, prefix_f, Option.bind_some, if_neg (by simp [hls]), if_pos (by omega), add_empty acc last hlast, e2]
    · refine Ev.step (f := fun _ => some (acc ++ ⟨#[46, 13, 10]⟩)) (fun k => ?_) (Ev.now _)
      rw [X.impl_Stuff.l0, if_neg (by rw [hll]; omega), if_pos (by omega)]
  | succ n ih =>
    intro i acc hn hi ha
    have e2 : wrap64 ((i : Int) + 1) = ((i + 1 : Nat) : Int) := by rw [wrap_id _ (by omega) (by omega)]; omega
    have hi' : i < xs.length := by omega
    have hr := rd_map xs last i hi'
    rw [List.drop_eq_getElem_cons hi']
    have hz := hx _ (List.getElem_mem hi')
    generalize xs[i] = q at hz hr ⊢
    have hc : (q ++ crlf).size = q.size + 2 := by rw [ByteArray.size_append]; rfl
    have hd : (acc ++ (⟨#[46]⟩ : ByteArray)).size = acc.size + 1 := by rw [ByteArray.size_append]; rfl
    have hd' : (acc ++ dot).size = acc.size + 1 := hd
    unfold stf
    by_cases h : q.size ≠ 0 ∧ bt q 0 = 46
    · rw [if_pos h]
      refine Ev.step (f := fun k => X.impl_Stuff.l0 k ((acc ++ dot) ++ (q ++ crlf)) (xs.map (· ++ crlf) ++ [last]) ((xs.map (· ++ crlf) ++ [last]).length : Int) ((i + 1 : Nat) : Int)) (fun k => ?_) (ih (i + 1) _ (by omega) (by omega) (by rw [ByteArray.size_append, hc, hd']; omega))
      rw [X.impl_Stuff.l0, if_pos (by rw [hll]; omega), if_pos (by omega), if_pos (by rw [hll]; omega), hr, prefix_f, Option.bind_some, if_pos (decide_eq_true ((prefix_crlf q).2 h)), if_pos (by omega), if_pos (by rw [hc, hd]; omega), e2]; rfl
    · rw [if_neg h]
      refine Ev.step (f := fun k => X.impl_Stuff.l0 k (acc ++ (q ++ crlf)) (xs.map (· ++ crlf) ++ [last]) ((xs.map (· ++ crlf) ++ [last]).length : Int) ((i + 1 : Nat) : Int)) (fun k => ?_) (ih (i + 1) _ (by omega) (by omega) (by rw [ByteArray.size_append, hc]; omega))
      rw [X.impl_Stuff.l0, if_pos (by rw [hll]; omega), if_pos (by omega), if_pos (by rw [hll]; omega), hr, prefix_f, Option.bind_some, if_neg (fun hh => h ((prefix_crlf q).1 (of_decide_eq_true hh))), if_pos (by rw [hc]; omega), e2]
theorem stuffs (s : ByteArray) (hs : s.size < 4294967281) : ∃ r, Ev (fun k => X.spec_Stuff.f k s) r ∧ Ev (fun k => X.impl_Stuff.f k s) r := by
  obtain ⟨qs, last, e1, e2⟩ := lines_of s
  have h1 := specLines_f s qs last e1
  have h2 := implBody_f s hs qs last e1 e2
  cases hb : bodyB qs last s with
  | false =>
    rw [hb] at h1 h2
    refine ⟨⟨#[]⟩, ?_, ?_⟩
    · exact Ev.bind (f := fun k (bt204 : List ByteArray × Bool) => if bt204.2 = true then (X.spec_Stuff.l0 k (⟨#[]⟩ : ByteArray) bt204.1 (bt204.1.length : Int) 0) else (some (⟨#[]⟩ : ByteArray))) h1 (Ev.now _)
    · exact Ev.bind (f := fun k (t210 : Bool) => if t210 = true then ((X.impl_lines.f s).bind fun t211 => (X.impl_Stuff.l0 k (⟨#[]⟩ : ByteArray) t211 (t211.length : Int) 0)) else (some (⟨#[]⟩ : ByteArray))) h2 (Ev.now _)
  | true =>
    obtain ⟨b1, b2, b3⟩ := body_bounds s qs last e1 hb
    rw [hb] at h1 h2
    refine ⟨stf qs ⟨#[]⟩, ?_, ?_⟩
    · refine Ev.bind (f := fun k (bt204 : List ByteArray × Bool) => if bt204.2 = true then (X.spec_Stuff.l0 k (⟨#[]⟩ : ByteArray) bt204.1 (bt204.1.length : Int) 0) else (some (⟨#[]⟩ : ByteArray))) h1 ?_
      have := specStf_l0 qs b1 b2 qs.length 0 ⟨#[]⟩ (by omega) (by omega) (Nat.le_refl 0)
      rw [List.drop_zero] at this
      exact this
    · refine Ev.bind (f := fun k (t210 : Bool) => if t210 = true then ((X.impl_lines.f s).bind fun t211 => (X.impl_Stuff.l0 k (⟨#[]⟩ : ByteArray) t211 (t211.length : Int) 0)) else (some (⟨#[]⟩ : ByteArray))) h2 ?_
      have := implStf_l0 qs last b3 b1 b2 qs.length 0 ⟨#[]⟩ (by omega) (by omega) (Nat.le_refl 0)
      rw [List.drop_zero] at this
      refine Ev.congr (fun k => ?_) this
      simp only [if_true]
      rw [implLines_f s hs qs last e2, Option.bind_some]; rfl
end Go.Proofs.YtnhhbdhkhdbanaaDoor.Pure
