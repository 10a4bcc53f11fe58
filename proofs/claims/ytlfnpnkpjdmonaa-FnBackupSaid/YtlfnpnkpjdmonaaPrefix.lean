import Derived.Test.YtlfnpnkpjdmonaaTaker
set_option linter.unusedVariables false
set_option linter.unusedSimpArgs false
namespace Go.Proofs.Ytlfnpnkpjdmonaa
open Go.RowKit

/-! ### what begins so -/
theorem bs_eq (a b : List UInt8) : ((bs a).toList == (bs b).toList) = decide (a = b) := by
  rw [Bool.eq_iff_iff]
  simp [ByteArray.toList_eq]
set_option maxRecDepth 100000 in
theorem hasPrefix_any (l p : List UInt8) (w : World) (hl : l.length ≤ 4194304) (hp : p.length ≤ 4194304) : Calls Try.prog 209 #[.string (bs l), .string (bs p)] w fun e w' => e = .returned (.bool (decide (l.take p.length = p))) ∧ w = w' := by
  have hsz : (bs l).size = l.length := by simp [ByteArray.size]
  have hsp : (bs p).size = p.length := by simp [ByteArray.size]
  by_cases h : l.length < p.length
  · have e : decide (l.take p.length = p) = false := decide_eq_false fun e => by
      have := congrArg List.length e
      rw [List.length_take] at this
      omega
    rw [e]
    clear e
    go_enter Try.func209, Try.ntmps209
    go_wp2
    go_ret
    exact ⟨rfl, rfl⟩
  · have hle : p.length ≤ l.length := by omega
    go_enter Try.func209, Try.ntmps209
    go_wp2
    go_ret
    refine ⟨?_, rfl⟩
    rw [← bs_eq, ← bs_take]
    simp
def cutP (l p : List UInt8) : List UInt8 := if l.take p.length = p then l.drop p.length else l
set_option maxRecDepth 100000 in
theorem cutPrefix_any (l p : List UInt8) (w : World) (hl : l.length ≤ 4194304) (hp : p.length ≤ 4194304) : Calls Try.prog 216 #[.string (bs l), .string (bs p)] w fun e w' => e = .returned (.tuple #[.string (bs (cutP l p)), .bool (decide (l.take p.length = p))]) ∧ w = w' := by
  have hC : Calls Try.prog 246 #[.string (bs l), .string (bs p)] w fun e w' => e = .returned (.tuple #[.string (bs (cutP l p)), .bool (decide (l.take p.length = p))]) ∧ w = w' := by
    have HP := Lib.hid (hasPrefix_any l p w hl hp)
    have hsz : (bs l).size = l.length := by simp [ByteArray.size]
    have hsp : (bs p).size = p.length := by simp [ByteArray.size]
    by_cases h : l.take p.length = p
    · have e : cutP l p = l.drop p.length := if_pos h
      rw [decide_eq_true h] at HP ⊢
      rw [e]
      have hle : p.length ≤ l.length := by
        have := congrArg List.length h
        rw [List.length_take] at this
        omega
      clear e h
      go_enter Try.func246, Try.ntmps246
      go_wp2_with fail
      refine HP.out.mono ?_
      rintro e w1 ⟨rfl, rfl⟩
      go_wp2_with fail
      go_ret2
      refine ⟨?_, rfl⟩
      rw [← bs_drop]
      rfl
    · have e : cutP l p = l := if_neg h
      rw [decide_eq_false h] at HP ⊢
      rw [e]
      clear e h
      go_enter Try.func246, Try.ntmps246
      go_wp2_with fail
      refine HP.out.mono ?_
      rintro e w1 ⟨rfl, rfl⟩
      go_wp2_with fail
      go_ret2
      exact ⟨rfl, rfl⟩
  have HC := Lib.hid hC
  clear hC
  go_enter Try.func216, Try.ntmps216
  go_wp2_with fail
  refine HC.out.mono ?_
  rintro e w1 ⟨rfl, rfl⟩
  go_wp2_with fail
  go_ret2
  exact ⟨rfl, rfl⟩
end Go.Proofs.Ytlfnpnkpjdmonaa
