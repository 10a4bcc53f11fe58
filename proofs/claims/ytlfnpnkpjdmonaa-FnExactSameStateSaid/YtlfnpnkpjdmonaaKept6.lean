import Derived.Test.YtlfnpnkpjdmonaaKept5
set_option linter.unusedVariables false
set_option linter.unusedSimpArgs false
namespace Go.Proofs.Ytlfnpnkpjdmonaa
open Go.RowKit

/-! ### the program's and the reference's comparison -/
theorem kdata_iff {k k' : Kp} {a b c r : Bool} (ha : (k.name.toList == k'.name.toList) = a) (hb : (k.tick == k'.tick) = b) (hc : decide (k.ps = k'.ps) = c) (hr : (a && (b && c)) = r) : decide (k.data = k'.data) = r := by
  subst ha hb hc hr
  rw [Bool.eq_iff_iff]
  simp only [decide_eq_true_eq, Bool.and_eq_true, Kp.data, Prod.mk.injEq, beq_iff_eq]
  constructor
  · rintro ⟨h1, h2, h3⟩
    exact ⟨by rw [h1], h2, h3⟩
  · rintro ⟨h1, h2, h3⟩
    exact ⟨bytes_of_eq (by simp [h1]), h2, h3⟩
set_option maxRecDepth 100000 in
theorem sameKept_any (k k' : Kp) (w : World) (hx : Rd w w.heap.size k.A (flat encP k.ps)) (hy : Rd w w.heap.size k'.A (flat encP k'.ps)) (hl : k.ps.length ≤ maxLen) (hl' : k'.ps.length ≤ maxLen) :
    Calls Try.prog 121 #[kpV k, kpV k'] w fun e w' => e = .returned (.bool (decide (k.data = k'.data))) ∧ Below w.heap.size w w' := by
  have hb1 : Below w.heap.size w ((w.alloc (.cells #[.string k.name, .int .i64 k.tick, .slice k.A k.ps.length k.c] 131)).alloc (.cells #[.string k'.name, .int .i64 k'.tick, .slice k'.A k'.ps.length k'.c] 131)) := by repeat (first | exact Below.refl _ _ | assumption | refine Below.drew ?_ | refine below_drewN ?_ _ | refine Below.setCell ?_ (by first | exact Nat.le_refl _ | exact Below.size (by assumption) | (simp; done) | (simp; omega) | omega) _ | refine Below.alloc ?_ (by first | exact Nat.le_refl _ | exact Below.size (by assumption) | (simp; done) | (simp; omega) | omega) _)
  have HX := Lib.hid (And.intro (hx.next hb1) (hy.next hb1))
  have HB := Lib.hid hb1
  have HL := Lib.hid (And.intro hl hl')
  clear hx hy hb1 hl hl'
  cases hc : decide (k.ps = k'.ps) <;> cases ha : (k.name.toList == k'.name.toList) <;> cases hb : (k.tick == k'.tick)
  all_goals
    have HE := Lib.hid (kdata_iff ha hb hc rfl)
    have HC := Lib.hid hc
    clear hc
    generalize decide (k.data = k'.data) = r at *
    go_enter Try.func121, Try.ntmps121
    go_wp2_with fail
    first
      | (go_ret; exact ⟨by rw [HE.out]; rfl, HB.out⟩)
      | (refine (equalP_any _ _ _ _ _ _ _ HX.out.1 HX.out.2 HL.out.1 HL.out.2).mono ?_
         rw [HC.out]
         rintro e w1 ⟨rfl, n, rfl⟩
         go_wp2_with fail
         go_ret
         exact ⟨by rw [HE.out]; rfl, below_drewN HB.out _⟩)
end Go.Proofs.Ytlfnpnkpjdmonaa
