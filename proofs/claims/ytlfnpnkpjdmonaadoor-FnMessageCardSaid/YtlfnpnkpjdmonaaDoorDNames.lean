import Derived.Test.YtlfnpnkpjdmonaaDoorProg
import Derived.Test.YtlfnpnkpjdmonaaDoorBase
set_option linter.unusedVariables false
set_option linter.unusedSimpArgs false
namespace Go.Proofs.YtlfnpnkpjdmonaaDoor
open Go.RowKit

/-! ### bounds, letters, digits, names -/
def withinB (n l h : Int) : Bool := decide (l ≤ n) && decide (n ≤ h)
def digitB (c : Int) : Bool := decide (48 ≤ c) && decide (c ≤ 57)
def letterB (c : Int) : Bool := decide (97 ≤ c ∧ c ≤ 122 ∨ 65 ≤ c ∧ c ≤ 90 ∨ c = 95)
def chB (c : UInt8) : Bool := letterB c.toNat || digitB c.toNat
def nameB (l : List UInt8) : Bool := withinB l.length 1 40 && !(l.head?.any fun c => digitB c.toNat) && l.all chB
def shortB (l : List UInt8) : Bool := decide (l.length ≤ 8) && nameB l

theorem within_any (n l h : Int) (w : World) : Calls Tryd.prog 87 #[.int .i64 n, .int .i64 l, .int .i64 h] w fun e w' => e = .returned (.bool (withinB n l h)) ∧ w = w' := by
  by_cases h1 : l ≤ n
  all_goals
    go_enter Tryd.func87, Tryd.ntmps87
    go_wp2
    go_ret
    exact ⟨ret_b (by simp [withinB]; try omega), rfl⟩
theorem in_any (n l h : Int) (w : World) : Calls Tryd.prog 76 #[.int .i64 n, .int .i64 l, .int .i64 h] w fun e w' => e = .returned (.bool (withinB n l h)) ∧ w = w' := by
  by_cases h1 : l ≤ n
  all_goals
    go_enter Tryd.func76, Tryd.ntmps76
    go_wp2
    go_ret
    exact ⟨ret_b (by simp [withinB]; try omega), rfl⟩
theorem isLetter_any (c : Int) (w : World) : Calls Tryd.prog 86 #[.int .u8 c] w fun e w' => e = .returned (.bool (letterB c)) ∧ w = w' := by
  go_enter Tryd.func86, Tryd.ntmps86
  go_wp2
  all_goals
    go_ret
    exact ⟨ret_b (by simp [letterB]; try omega), rfl⟩
theorem letter_any (c : Int) (w : World) : Calls Tryd.prog 75 #[.int .u8 c] w fun e w' => e = .returned (.bool (letterB c)) ∧ w = w' := by
  go_enter Tryd.func75, Tryd.ntmps75
  go_wp2
  all_goals
    go_ret
    exact ⟨ret_b (by simp [letterB]; try omega), rfl⟩

theorem all_take_succ (s : ByteArray) (p : UInt8 → Bool) (k : Nat) (h : k < s.size) : (s.data.toList.take (k + 1)).all p = ((s.data.toList.take k).all p && p s[k]) := by
  have e : s.data.toList.take (k + 1) = s.data.toList.take k ++ [s[k]] := by
    rw [List.take_succ_eq_append_getElem (by simpa using h)]; rfl
  rw [e, List.all_append]
  simp
theorem all_false_at (s : ByteArray) (p : UInt8 → Bool) (k : Nat) (h : k < s.size) (hp : p s[k] = false) : s.data.toList.all p = false := by
  rw [List.all_eq_false]
  refine ⟨s[k], ?_, by simp [hp]⟩
  have e : s.data.toList[k]'(by simpa using h) = s[k] := rfl
  rw [← e]
  exact List.getElem_mem _
theorem all_take_all (s : ByteArray) (p : UInt8 → Bool) (k : Nat) (h : s.size ≤ k) : (s.data.toList.take k).all p = s.data.toList.all p := by
  rw [List.take_of_length_le (by simpa using h)]

end Go.Proofs.YtlfnpnkpjdmonaaDoor
