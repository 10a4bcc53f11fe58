import Derived.Test.YtlfnpnkpjdmonaaReadFields
import Derived.Test.YtlfnpnkpjdmonaaCodec
set_option linter.unusedVariables false
set_option linter.unusedSimpArgs false
namespace Go.Proofs.Ytlfnpnkpjdmonaa
open Go.RowKit

/-! ### just so many fields -/
def rdX (k : Nat) (l : List UInt8) : Option (List (List UInt8) × List UInt8) := match parseF l with
  | some p => if p.1.length = k then some p else none
  | none => none
def ExRes (k : Nat) (l : List UInt8) (bad : Bool) (xs : List (List UInt8)) (l' : List UInt8) (bad' : Bool) : Prop :=
  xs.length = k ∧ l'.length ≤ l.length ∧ match (if bad = true then none else rdX k l) with
  | some p => xs = p.1 ∧ l' = p.2 ∧ bad' = false
  | none => bad' = true
def ExPost (w : World) (g : Nat) (k : Nat) (l : List UInt8) (bad : Bool) (e : Ending) (w' : World) : Prop :=
  ∃ v xs l' bad', e = .returned v ∧ ExRes k l bad xs l' bad' ∧ w'.ownsRow w.heap.size 9 1 v k (xs.map sv) ∧ Tk w' g l' bad' ∧ w.grownBy w' (some g)
theorem ex_bad {k : Nat} {l l' : List UInt8} {bad : Bool} {out : List (List UInt8)} (h : FieldsRes l bad out l' true) (xs : List (List UInt8)) (hx : xs.length = k) : ExRes k l bad xs l' true := by
  refine ⟨hx, h.1, ?_⟩
  have h2 := h.2.2
  cases bad with
  | true => rfl
  | false =>
    simp only [Bool.false_eq_true, if_false] at h2 ⊢
    unfold rdX
    cases hp : parseF l with
    | none => exact trivial
    | some p => rw [hp] at h2; exact absurd h2.2.2 (by simp)
theorem ex_good {l l' : List UInt8} {bad : Bool} {out : List (List UInt8)} (h : FieldsRes l bad out l' false) : bad = false ∧ parseF l = some (out, l') := by
  have h2 := h.2.2
  cases bad with
  | true => exact absurd h2 (by simp)
  | false =>
    simp only [Bool.false_eq_true, if_false] at h2
    cases hp : parseF l with
    | none => rw [hp] at h2; exact absurd h2 (by simp)
    | some p => rw [hp] at h2; exact ⟨rfl, by rw [h2.1, h2.2.1]⟩
theorem ex_ok {k : Nat} {l l' : List UInt8} {bad : Bool} {out : List (List UInt8)} (h : FieldsRes l bad out l' false) (hk : out.length = k) : ExRes k l bad out l' false := by
  obtain ⟨rfl, hp⟩ := ex_good h
  refine ⟨hk, h.1, ?_⟩
  simp only [Bool.false_eq_true, if_false, rdX, hp, if_pos hk]
  exact ⟨trivial, trivial, trivial⟩
theorem ex_no {k : Nat} {l l' : List UInt8} {bad : Bool} {out : List (List UInt8)} (h : FieldsRes l bad out l' false) (hk : out.length ≠ k) (xs : List (List UInt8)) (hx : xs.length = k) : ExRes k l bad xs l' true := by
  obtain ⟨rfl, hp⟩ := ex_good h
  refine ⟨hx, h.1, ?_⟩
  simp only [Bool.false_eq_true, if_false, rdX, hp, if_neg hk]
theorem zeroTexts (k : Nat) : (madeCells (Value.string ⟨#[]⟩).cells (k * 1)).toList = (List.replicate k ([] : List UInt8)).map sv := by
  apply List.ext_getElem
  · simp [madeCells]
  · intro i h1 h2
    simp [madeCells, sv, bs, Value.cells, Nat.mod_one]
set_option maxRecDepth 100000 in
set_option maxHeartbeats 1000000 in
theorem exactly_any (g : Nat) (l : List UInt8) (bad : Bool) (k : Nat) (w : World) (hg : Tk w g l bad) (hl : l.length ≤ 4194304) (hk : k ≤ 8) :
    Calls Try.prog 218 #[.pointer (some ⟨g, 0, none⟩), .int .i64 k] w (ExPost w g k l bad) := by
  obtain ⟨i0, hi, hz0, hz1, hz2⟩ := info_parts infoString
  have hz2' : i0.bytes * k ≤ 281474976710656 := by rw [hz2]; omega
  have HI := Lib.hid (And.intro hi (And.intro hz0 (And.intro hz1 hz2')))
  clear hi hz0 hz1 hz2 hz2'
  have HG := Lib.hid hg
  clear hg
  go_enter Try.func218, Try.ntmps218
  go_wp2_with fail
  refine (fields_any g l bad _ HG.out hl).mono ?_
  rintro e w1 ⟨v, out, l', bad', rfl, hr, ho, ht, hg1⟩
  obtain ⟨c0, c1, hf⟩ := ht.cells
  have hf1 := hf 1
  have HR := Lib.hid hr
  have hol : out.length ≤ 255 := hr.2.1
  obtain ⟨A, c, rfl, _⟩ := own_form ho
  have HT := Lib.hid ht
  have HO := Lib.hid ho
  have HG1 := Lib.hid hg1
  have hs1 := hg1.size
  clear hr ht hf ho hg1
  by_cases hbad : bad' = false ∧ out.length = k
  · obtain ⟨rfl, hlk⟩ := hbad
    have HEX : Hid (ExRes k l bad out l' false) := ex_ok HR.out hlk
    subst hlk
    obtain ⟨q1, q2⟩ := eqI ((out.length : Nat) : Int)
    go_wp2_with fail
    go_ret
    exact ⟨_, out, l', false, rfl, HEX.out, HO.out, HT.out, HG1.out⟩
  · have HEX : Hid (ExRes k l bad (List.replicate k []) l' true) := by
      cases bad' with
      | true => exact ex_bad HR.out _ (by simp)
      | false => exact ex_no HR.out (fun h => hbad ⟨rfl, h⟩) _ (by simp)
    have HT2 := Lib.hid (HT.out.setBad true)
    have HG2 := Lib.hid (grown_after HG1.out (grown_set w1 g 1 (.bool true)))
    cases bad' with
    | true =>
      clear hbad
      go_wp2_with (at_make; refine wpList_make_full _ rfl _ _ _ rfl w.heap.size 9 i0 (.string ⟨#[]⟩) 1 Try.underlying29 HI.out.1 HI.out.2.1 HI.out.2.2.1 _ _ _ _ k rfl rfl rfl rfl HI.out.2.2.2 (by simp only [maxLen]; omega) (by simpa using hs1) ?_; intro w2 hown2 hg2)
      rw [zeroTexts, World.size_setCell] at hown2
      have HO2 := Lib.hid hown2
      have HT3 := Lib.hid (HT2.out.far hg2 (by simp))
      have HG3 := Lib.hid (grown_after HG2.out (by exact ⟨hg2.os, hg2.tape, hg2.output, hg2.size, fun k hk _ => hg2.block k hk (by simp)⟩))
      clear hown2 hg2
      go_wp2_with fail
      go_ret
      exact ⟨_, _, l', true, rfl, HEX.out, HO2.out, HT3.out, HG3.out⟩
    | false =>
      have hne : out.length ≠ k := fun h => hbad ⟨rfl, h⟩
      have q1 : ((out.length : Int) == (k : Int)) = false := by rw [beq_eq_false_iff_ne]; omega
      have q2 : ((out.length : Int) != (k : Int)) = true := by rw [bne_iff_ne]; omega
      clear hbad hne
      go_wp2_with (at_make; refine wpList_make_full _ rfl _ _ _ rfl w.heap.size 9 i0 (.string ⟨#[]⟩) 1 Try.underlying29 HI.out.1 HI.out.2.1 HI.out.2.2.1 _ _ _ _ k rfl rfl rfl rfl HI.out.2.2.2 (by simp only [maxLen]; omega) (by simpa using hs1) ?_; intro w2 hown2 hg2)
      rw [zeroTexts, World.size_setCell] at hown2
      have HO2 := Lib.hid hown2
      have HT3 := Lib.hid (HT2.out.far hg2 (by simp))
      have HG3 := Lib.hid (grown_after HG2.out (by exact ⟨hg2.os, hg2.tape, hg2.output, hg2.size, fun k hk _ => hg2.block k hk (by simp)⟩))
      clear hown2 hg2
      go_wp2_with fail
      go_ret
      exact ⟨_, _, l', true, rfl, HEX.out, HO2.out, HT3.out, HG3.out⟩
end Go.Proofs.Ytlfnpnkpjdmonaa
