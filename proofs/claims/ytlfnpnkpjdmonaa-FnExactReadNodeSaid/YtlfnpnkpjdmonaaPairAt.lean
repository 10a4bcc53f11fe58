import Derived.Test.YtlfnpnkpjdmonaaOrd
import Derived.Test.YtlfnpnkpjdmonaaShelf
set_option linter.unusedVariables false
set_option linter.unusedSimpArgs false
namespace Go.Proofs.Ytlfnpnkpjdmonaa
open Go.RowKit

/-! ### the place of a key -/
def cmpK (a b : ByteArray) : Int := Lib.compareBytes a.data.toList b.data.toList
theorem toL (a : ByteArray) : a.data.toList = a.toList := (ByteArray.toList_eq a).symm
theorem cmpK_lt (a b : ByteArray) : cmpK a b < 0 ↔ lt a b = true := by unfold cmpK lt; rw [toL, toL]; exact compare_lt _ _
theorem cmpK_eq (a b : ByteArray) : cmpK a b = 0 ↔ a = b := by
  unfold cmpK
  rw [toL, toL, compare_eq]
  exact ⟨fun h => bytes_of_eq (by simp [h]), fun h => by rw [h]⟩
theorem cmpAt_any (p : Pr) (k : ByteArray) (w : World) : Calls Try.prog 203 #[prV p, .string k] w fun e w' => e = .returned (.int .i64 (cmpK p.1 k)) ∧ Below w.heap.size w w' := by
  go_enter Try.func203, Try.ntmps203
  go_wp2_with fail
  refine (Try.strings_Compare p.1 k _).mono ?_
  rintro e w1 ⟨rfl, rfl⟩
  go_wp2_with fail
  go_ret
  exact ⟨rfl, by repeat (first | exact Below.refl _ _ | assumption | refine Below.drew ?_ | refine below_drewN ?_ _ | refine Below.setCell ?_ (by first | exact Nat.le_refl _ | exact Below.size (by assumption) | (simp; done) | (simp; omega) | omega) _ | refine Below.alloc ?_ (by first | exact Nat.le_refl _ | exact Below.size (by assumption) | (simp; done) | (simp; omega) | omega) _)⟩
set_option maxRecDepth 100000 in
set_option maxHeartbeats 1000000 in
theorem binary_any (A : Option Addr) (c : Nat) (l : List Pr) (k : ByteArray) (w : World) (hx : Rd w w.heap.size A (flat encP l)) (hl : l.length ≤ 1048576) (hr : Rise l) :
    Calls Try.prog 202 #[.slice A l.length c, .string k, .func (.func 203) #[] #[]] w fun e w' => e = .returned (.tuple #[.int .i64 (atP l k), .bool (hitP l k)]) ∧ Below w.heap.size w w' := by
  have HX := Lib.hid hx
  have HR := Lib.hid hr
  clear hx hr
  go_enter Try.func202, Try.ntmps202
  go_wp2
  go_loopw [9, 10] (fun a b wr => ∃ i j : Nat, i ≤ j ∧ j ≤ l.length ∧ a = .int .i64 i ∧ b = .int .i64 j ∧ (∀ q (h : q < l.length), q < i → lt l[q].1 k = true) ∧ (∀ q (h : q < l.length), j ≤ q → lt l[q].1 k = false) ∧ Below w.heap.size w wr) (fun a b _ => (intOf b - intOf a).toNat)
  case atStart => exact ⟨0, l.length, by omega, by omega, rfl, rfl, fun q _ h => by omega, fun q _ h => by omega, Below.refl _ _⟩
  case round =>
    obtain ⟨i, j, hij, hj, rfl, rfl, hlo, hhi, hb⟩ := hrel
    have HLO := Lib.hid hlo
    have HHI := Lib.hid hhi
    clear hlo hhi
    by_cases hlt : i < j
    · have hm : (i + j) / 2 < l.length := by omega
      obtain ⟨ad, rfl, hbl, hca, hcb⟩ := (HX.out.below hb).pr hm
      have HLT := Lib.hid (cmpK_lt l[(i + j) / 2].1 k)
      by_cases hneg : cmpK l[(i + j) / 2].1 k < 0
      · go_wp2_with fail
        refine (cmpAt_any l[(i + j) / 2] k _).mono ?_
        rintro e w2 ⟨rfl, hb2⟩
        have hb3 := below_after hb hb2
        have HL2 := Lib.hid (HLT.out.1 hneg)
        clear hb2 hca hcb
        go_wp2_with fail
        go_roundw
        case rel =>
          refine ⟨(i + j) / 2 + 1, j, by omega, hj, by go_num, rfl, fun q hq hlq => ?_, HHI.out, hb3⟩
          rcases Nat.lt_or_ge q ((i + j) / 2) with h1 | h1
          · exact lt_trans (HR.out.at q _ hq hm h1) HL2.out
          · obtain rfl : q = (i + j) / 2 := by omega
            exact HL2.out
        case measure => simp [intOf]; omega
      · have hneg' : 0 ≤ cmpK l[(i + j) / 2].1 k := by omega
        have HL2 : Hid (lt l[(i + j) / 2].1 k = false) := by
          show _ = _
          cases h : lt l[(i + j) / 2].1 k with
          | false => rfl
          | true => exact absurd (HLT.out.2 h) hneg
        clear hneg
        go_wp2_with fail
        refine (cmpAt_any l[(i + j) / 2] k _).mono ?_
        rintro e w2 ⟨rfl, hb2⟩
        have hb3 := below_after hb hb2
        clear hb2 hca hcb
        go_wp2_with fail
        go_roundw
        case rel =>
          refine ⟨i, (i + j) / 2, by omega, by omega, rfl, by go_num, HLO.out, fun q hq hlq => ?_, hb3⟩
          rcases Nat.lt_or_ge ((i + j) / 2) q with h1 | h1
          · cases h : lt l[q].1 k with
            | false => rfl
            | true => have := lt_trans (HR.out.at _ q hm hq h1) h; rw [HL2.out] at this; cases this
          · obtain rfl : q = (i + j) / 2 := by omega
            exact HL2.out
        case measure => simp [intOf]; omega
    · obtain rfl : i = j := by omega
      have hi := atP_unique HR.out k hj HLO.out HHI.out
      have HI := Lib.hid hi
      have HH := Lib.hid (hitP_eq l k)
      clear hi
      by_cases hin : i < l.length
      · obtain ⟨ad, rfl, hbl, hca, hcb⟩ := (HX.out.below hb).pr hin
        have HEQ := Lib.hid (cmpK_eq l[i].1 k)
        have hdi : decide ((i : Int) < (l.length : Int)) = true := by simp; omega
        by_cases h0 : cmpK l[i].1 k = 0
        · have HZ : Hid (hitP l k = true) := by
            show _ = _
            rw [HH.out]
            have hi' := HI.out
            subst hi'
            rw [dif_pos hin]
            exact decide_eq_true (HEQ.out.1 h0)
          have H0 := Lib.hid h0
          clear h0
          go_wp2_with fail
          refine (cmpAt_any l[i] k _).mono ?_
          rw [H0.out]
          rintro e w2 ⟨rfl, hb2⟩
          have hb3 := below_after hb hb2
          clear hb2 hca hcb
          go_wp2_with fail
          go_ret2
          exact ⟨by rw [← HI.out, HZ.out]; rfl, hb3⟩
        · have HZ : Hid (hitP l k = false) := by
            show _ = _
            rw [HH.out]
            have hi' := HI.out
            subst hi'
            rw [dif_pos hin]
            exact decide_eq_false (fun h => h0 (HEQ.out.2 h))
          have h01 : (cmpK l[i].1 k == 0) = false := by rw [beq_eq_false_iff_ne]; exact h0
          clear h0
          go_wp2_with fail
          refine (cmpAt_any l[i] k _).mono ?_
          rintro e w2 ⟨rfl, hb2⟩
          have hb3 := below_after hb hb2
          clear hb2 hca hcb
          go_wp2_with fail
          go_ret2
          exact ⟨by rw [← HI.out, HZ.out]; rfl, hb3⟩
      · have HZ : Hid (hitP l k = false) := by
          show _ = _
          rw [HH.out]
          have hi' := HI.out
          subst hi'
          rw [dif_neg hin]
        have hdi : decide ((i : Int) < (l.length : Int)) = false := by simp; omega
        go_wp2_with fail
        go_ret2
        exact ⟨by rw [← HI.out, HZ.out]; rfl, hb⟩
theorem pairAt_any (A : Option Addr) (c : Nat) (l : List Pr) (k : ByteArray) (w : World) (hx : Rd w w.heap.size A (flat encP l)) (hl : l.length ≤ 1048576) (hr : Rise l) :
    Calls Try.prog 136 #[.slice A l.length c, .string k] w fun e w' => e = .returned (.tuple #[.int .i64 (atP l k), .bool (hitP l k)]) ∧ Below w.heap.size w w' := by
  have HC := Lib.hid (binary_any A c l k w hx hl hr)
  clear hx hr
  go_enter Try.func136, Try.ntmps136
  go_wp2_with fail
  refine HC.out.mono ?_
  rintro e w1 ⟨rfl, hb⟩
  go_wp2_with fail
  go_ret2
  exact ⟨rfl, hb⟩
end Go.Proofs.Ytlfnpnkpjdmonaa
