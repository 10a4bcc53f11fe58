import Derived.Test.YtlfnpnkpjdmonaaSum
set_option linter.unusedVariables false
set_option linter.unusedSimpArgs false
namespace Go.Proofs.Ytlfnpnkpjdmonaa
open Go.RowKit

/-! ### backups: head, marks, body -/
def shortA (s : ByteArray) : Bool := shortB s.data.toList
def headB (f t : ByteArray) (ch : Int) : Bool := (shortA f || (decide (f = ⟨#[]⟩) && decide (ch = 0))) && shortA t && withinB ch 0 4294967295
theorem notEmpty {a : ByteArray} (h : a ≠ ⟨#[]⟩) : a.toList.isEmpty = false := by
  cases h1 : a.toList.isEmpty with
  | false => rfl
  | true =>
    refine absurd ?_ h
    rw [← bs_of a, List.isEmpty_iff.1 h1]
theorem bit_any (b : Bool) (n : Int) (w : World) : Calls Try.prog 244 #[.bool b, .int .i64 n] w fun e w' => e = .returned (.int .i64 (if b then n else 0)) ∧ w = w' := by
  cases b
  all_goals
    go_enter Try.func244, Try.ntmps244
    go_wp2_with fail
    go_ret
    exact ⟨rfl, rfl⟩
set_option maxRecDepth 100000 in
set_option maxHeartbeats 2000000 in
theorem headOK_any (f t : ByteArray) (ch : Int) (w : World) (hf : f.size ≤ maxLen) (ht : t.size ≤ maxLen) :
    Calls Try.prog 150 #[.string f, .string t, .int .i64 ch] w fun e w' => e = .returned (.bool (headB f t ch)) ∧ w = w' := by
  obtain ⟨r, hr⟩ : ∃ r, r = headB f t ch := ⟨_, rfl⟩
  rw [← hr]
  have H1 := fun W => shortName_any f W hf
  have H2 := fun W => shortName_any t W ht
  have H3 := fun W => within_any ch 0 4294967295 W
  clear hf ht
  rw [show shortB f.data.toList = shortA f from rfl] at H1
  rw [show shortB t.data.toList = shortA t from rfl] at H2
  unfold headB at hr
  cases ha : shortA f <;> cases hb : shortA t <;> cases hc : withinB ch 0 4294967295 <;> by_cases he : f = ⟨#[]⟩ <;> by_cases hz : ch = 0
  all_goals
    rw [ha] at H1
    rw [hb] at H2
    rw [hc] at H3
    rw [ha, hb, hc] at hr
    first
    | (have e1 : f.toList.isEmpty = true := by rw [he, ByteArray.toList_eq]; rfl)
    | (have e1 : f.toList.isEmpty = false := notEmpty he)
    first
    | (have z1 : (ch == 0) = true := by rw [hz]; simp)
    | (have z1 : (ch == 0) = false := by rw [beq_eq_false_iff_ne]; exact hz)
    have hr2 := hr
    simp only [he, hz] at hr2
    have HR : Hid (r = _) := hr2
    clear ha hb hc hr hr2
    first | subst he | clear he
    first | subst hz | clear hz
    go_enter Try.func150, Try.ntmps150
    go_wp2_with (first | (go_at_call 103; first | (with_reducible refine (H1 _).mono ?_; rintro e w' ⟨rfl, rfl⟩) | (with_reducible refine (H2 _).mono ?_; rintro e w' ⟨rfl, rfl⟩)) | (go_at_call 106; refine (H3 _).mono ?_; rintro e w' ⟨rfl, rfl⟩))
    go_ret
    exact ⟨by rw [HR.out]; rfl, rfl⟩
end Go.Proofs.Ytlfnpnkpjdmonaa
