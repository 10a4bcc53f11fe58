import Derived.Test.YtlfnpnkpjdmonaaProg
import Derived.Test.YtlfnpnkpjdmonaaBase
set_option linter.unusedVariables false
set_option linter.unusedSimpArgs false
namespace Go.Proofs.Ytlfnpnkpjdmonaa
open Go.RowKit

/-! ### bounds, letters, digits, names -/
def withinB (n l h : Int) : Bool := decide (l ≤ n) && decide (n ≤ h)
def digitB (c : Int) : Bool := decide (48 ≤ c) && decide (c ≤ 57)
def letterB (c : Int) : Bool := decide (97 ≤ c ∧ c ≤ 122 ∨ 65 ≤ c ∧ c ≤ 90 ∨ c = 95)
def chB (c : UInt8) : Bool := letterB c.toNat || digitB c.toNat
def nameB (l : List UInt8) : Bool := withinB l.length 1 40 && !(l.head?.any fun c => digitB c.toNat) && l.all chB
def shortB (l : List UInt8) : Bool := decide (l.length ≤ 8) && nameB l

theorem within_any (n l h : Int) (w : World) : Calls Try.prog 106 #[.int .i64 n, .int .i64 l, .int .i64 h] w fun e w' => e = .returned (.bool (withinB n l h)) ∧ w = w' := by
  by_cases h1 : l ≤ n
  all_goals
    go_enter Try.func106, Try.ntmps106
    go_wp2
    go_ret
    exact ⟨ret_b (by simp [withinB]; try omega), rfl⟩
theorem in_any (n l h : Int) (w : World) : Calls Try.prog 104 #[.int .i64 n, .int .i64 l, .int .i64 h] w fun e w' => e = .returned (.bool (withinB n l h)) ∧ w = w' := by
  by_cases h1 : l ≤ n
  all_goals
    go_enter Try.func104, Try.ntmps104
    go_wp2
    go_ret
    exact ⟨ret_b (by simp [withinB]; try omega), rfl⟩
theorem isDigit_any (c : Int) (w : World) : Calls Try.prog 234 #[.int .u8 c] w fun e w' => e = .returned (.bool (digitB c)) ∧ w = w' := by
  go_enter Try.func234, Try.ntmps234
  go_wp2
  all_goals
    go_ret
    exact ⟨ret_b (by simp [digitB]; try omega), rfl⟩
theorem digit_any (c : Int) (w : World) : Calls Try.prog 260 #[.int .u8 c] w fun e w' => e = .returned (.bool (digitB c)) ∧ w = w' := by
  go_enter Try.func260, Try.ntmps260
  go_wp2
  all_goals
    go_ret
    exact ⟨ret_b (by simp [digitB]; try omega), rfl⟩
theorem isLetter_any (c : Int) (w : World) : Calls Try.prog 235 #[.int .u8 c] w fun e w' => e = .returned (.bool (letterB c)) ∧ w = w' := by
  go_enter Try.func235, Try.ntmps235
  go_wp2
  all_goals
    go_ret
    exact ⟨ret_b (by simp [letterB]; try omega), rfl⟩
theorem letter_any (c : Int) (w : World) : Calls Try.prog 259 #[.int .u8 c] w fun e w' => e = .returned (.bool (letterB c)) ∧ w = w' := by
  go_enter Try.func259, Try.ntmps259
  go_wp2
  all_goals
    go_ret
    exact ⟨ret_b (by simp [letterB]; try omega), rfl⟩

theorem all_take_succ (s : ByteArray) (p : UInt8 → Bool) (k : Nat) (h : k < s.size) : (s.data.toList.take (k + 1)).all p = ((s.data.toList.take k).all p && p s[k]) := by
  have e : s.data.toList.take (k + 1) = s.data.toList.take k ++ [s[k]] := by
    rw [List.take_succ_eq_append_getElem (by simpa using h)]; rfl
  rw [e, List.all_append]
  simp
theorem all_false_at (s : ByteArray) (p : UInt8 → Bool) (k : Nat) (h : k < s.size) (hp : p s[k] = false) : s.data.toList.all p = false := by
  rw [List.all_eq_false]
  refine ⟨s[k], ?_, by simp [hp]⟩
  have e : s.data.toList[k]'(by simpa using h) = s[k] := rfl
  rw [← e]
  exact List.getElem_mem _
theorem all_take_all (s : ByteArray) (p : UInt8 → Bool) (k : Nat) (h : s.size ≤ k) : (s.data.toList.take k).all p = s.data.toList.all p := by
  rw [List.take_of_length_le (by simpa using h)]

theorem nameOK_in (s : ByteArray) (w : World) (r : Bool) (hr : s.data.toList.all chB = r) (hs : s.size ≤ maxLen) (h1 : withinB s.size 1 40 = true) (h2 : 0 < s.size) (h3 : digitB s[0].toNat = false) :
    Calls Try.prog 182 #[.string s] w fun e w' => e = .returned (.bool r) ∧ w = w' := by
  unfold maxLen at hs
  have HR := Lib.hid hr
  clear hr
  go_enter Try.func182, Try.ntmps182
  go_wp2_with (first | (go_at_call 106; refine (within_any _ _ _ _).mono ?_; rintro e w' ⟨rfl, rfl⟩) | (go_at_call 234; refine (isDigit_any _ _).mono ?_; rintro e w' ⟨rfl, rfl⟩))
  go_loop [15] (fun i => ∃ k : Nat, k ≤ s.size ∧ i = .int .i64 k ∧ (s.data.toList.take k).all chB = true) (fun i => s.size - (intOf i).toNat)
  case atStart => exact ⟨0, Nat.zero_le _, rfl, rfl⟩
  case round =>
    obtain ⟨k, hk, rfl, hall⟩ := hrel
    have HA : Hid ((s.data.toList.take k).all chB = true) := hall
    clear hall h1 h3
    by_cases hlt : k < s.size
    · by_cases hl : letterB s[k].toNat = true
      · go_wp2_with (first | (go_at_call 235; refine (isLetter_any _ _).mono ?_; rintro e w' ⟨rfl, rfl⟩) | (go_at_call 234; refine (isDigit_any _ _).mono ?_; rintro e w' ⟨rfl, rfl⟩))
        go_round
        case rel => exact ⟨k + 1, by omega, by go_num, by rw [all_take_succ s chB k hlt, HA.out]; simp [chB, hl]⟩
        case measure => simp [intOf]; omega
      · have hl' : letterB s[k].toNat = false := by simpa using hl
        clear hl
        by_cases hd : digitB s[k].toNat = true
        · go_wp2_with (first | (go_at_call 235; refine (isLetter_any _ _).mono ?_; rintro e w' ⟨rfl, rfl⟩) | (go_at_call 234; refine (isDigit_any _ _).mono ?_; rintro e w' ⟨rfl, rfl⟩))
          go_round
          case rel => exact ⟨k + 1, by omega, by go_num, by rw [all_take_succ s chB k hlt, HA.out]; simp [chB, hd]⟩
          case measure => simp [intOf]; omega
        · have hd' : digitB s[k].toNat = false := by simpa using hd
          clear hd
          go_wp2_with (first | (go_at_call 235; refine (isLetter_any _ _).mono ?_; rintro e w' ⟨rfl, rfl⟩) | (go_at_call 234; refine (isDigit_any _ _).mono ?_; rintro e w' ⟨rfl, rfl⟩))
          go_ret
          exact ⟨(by rw [show r = false from HR.out.symm.trans (all_false_at s chB k hlt (by simp [chB, hl', hd']))]; rfl), rfl⟩
    · go_wp2
      go_ret
      exact ⟨(by rw [show r = true from HR.out.symm.trans ((all_take_all s chB k (by omega)).symm.trans HA.out)]; rfl), rfl⟩

theorem head_of (s : ByteArray) (h : 0 < s.size) : s.data.toList.head? = some s[0] := by
  rw [List.head?_eq_getElem?]
  exact List.getElem?_eq_getElem (by simpa using h)
theorem nameOK_any (s : ByteArray) (w : World) (hs : s.size ≤ maxLen) :
    Calls Try.prog 182 #[.string s] w fun e w' => e = .returned (.bool (nameB s.data.toList)) ∧ w = w' := by
  have hlen : s.data.toList.length = s.size := by simp
  cases h1 : withinB s.size 1 40 with
  | false =>
    have hn : nameB s.data.toList = false := by unfold nameB; rw [hlen, h1]; rfl
    unfold maxLen at hs
    rw [hn]
    clear hn
    go_enter Try.func182, Try.ntmps182
    go_wp2_with (first | (go_at_call 106; refine (within_any _ _ _ _).mono ?_; rintro e w' ⟨rfl, rfl⟩))
    go_ret
    exact ⟨rfl, rfl⟩
  | true =>
    have h2 : 0 < s.size := by simp [withinB] at h1; omega
    cases h3 : digitB s[0].toNat with
    | true =>
      have hn : nameB s.data.toList = false := by unfold nameB; rw [hlen, h1, head_of s h2]; simp [h3]
      unfold maxLen at hs
      rw [hn]
      clear hn
      go_enter Try.func182, Try.ntmps182
      go_wp2_with (first | (go_at_call 106; refine (within_any _ _ _ _).mono ?_; rintro e w' ⟨rfl, rfl⟩) | (go_at_call 234; refine (isDigit_any _ _).mono ?_; rintro e w' ⟨rfl, rfl⟩))
      go_ret
      exact ⟨rfl, rfl⟩
    | false =>
      have hn : nameB s.data.toList = s.data.toList.all chB := by unfold nameB; rw [hlen, h1, head_of s h2]; simp [h3]
      rw [hn]
      exact nameOK_in s w _ rfl hs h1 h2 h3

theorem shortName_any (s : ByteArray) (w : World) (hs : s.size ≤ maxLen) :
    Calls Try.prog 103 #[.string s] w fun e w' => e = .returned (.bool (shortB s.data.toList)) ∧ w = w' := by
  have hlen : s.data.toList.length = s.size := by simp
  by_cases h1 : s.size ≤ 8
  · have hn : shortB s.data.toList = nameB s.data.toList := by simp [shortB, hlen, h1]
    rw [hn]
    clear hn hlen
    have HN := fun W => nameOK_any s W hs
    unfold maxLen at hs
    go_enter Try.func103, Try.ntmps103
    go_wp2_with (first | (go_at_call 182; refine (HN _).mono ?_; rintro e w' ⟨rfl, rfl⟩))
    go_ret
    exact ⟨rfl, rfl⟩
  · have hn : shortB s.data.toList = false := by simp [shortB, hlen, h1]
    rw [hn]
    clear hn hlen
    unfold maxLen at hs
    go_enter Try.func103, Try.ntmps103
    go_wp2_with fail
    go_ret
    exact ⟨rfl, rfl⟩
/-! ### the reference's words -/
theorem letter_not_digit (c : Int) (h : letterB c = true) : digitB c = false := by
  simp [letterB] at h
  simp [digitB]
  omega
theorem word_in (s : ByteArray) (w : World) (r : Bool) (hr : s.data.toList.all chB = r) (hs : s.size ≤ maxLen) (h1 : 1 ≤ s.size) (h1' : s.size ≤ 40) (h3 : letterB s[0].toNat = true) :
    Calls Try.prog 233 #[.string s] w fun e w' => e = .returned (.bool r) ∧ w = w' := by
  unfold maxLen at hs
  have HR := Lib.hid hr
  clear hr
  have h0 : (s.data.toList.take 1).all chB = true := by
    rw [all_take_succ s chB 0 (by omega)]
    simp [chB, h3]
  have H0 := Lib.hid h0
  clear h0
  go_enter Try.func233, Try.ntmps233
  go_wp2_with (first | (go_at_call 259; refine (letter_any _ _).mono ?_; rintro e w' ⟨rfl, rfl⟩))
  go_loop [3] (fun i => ∃ k : Nat, k ≤ s.size ∧ i = .int .i64 k ∧ (s.data.toList.take k).all chB = true) (fun i => s.size - (intOf i).toNat)
  case atStart => exact ⟨1, by omega, rfl, H0.out⟩
  case round =>
    obtain ⟨k, hk, rfl, hall⟩ := hrel
    have HA := Lib.hid hall
    clear hall h1 h3 H0
    by_cases hlt : k < s.size
    · cases hl : letterB s[k].toNat with
      | true =>
        go_wp2_with (first | (go_at_call 259; refine (letter_any _ _).mono ?_; rintro e w' ⟨rfl, rfl⟩) | (go_at_call 260; refine (digit_any _ _).mono ?_; rintro e w' ⟨rfl, rfl⟩))
        go_round
        case rel => exact ⟨k + 1, by omega, by go_num, by rw [all_take_succ s chB k hlt, HA.out]; simp [chB, hl]⟩
        case measure => simp [intOf]; omega
      | false =>
        cases hd : digitB s[k].toNat with
        | true =>
          go_wp2_with (first | (go_at_call 259; refine (letter_any _ _).mono ?_; rintro e w' ⟨rfl, rfl⟩) | (go_at_call 260; refine (digit_any _ _).mono ?_; rintro e w' ⟨rfl, rfl⟩))
          go_round
          case rel => exact ⟨k + 1, by omega, by go_num, by rw [all_take_succ s chB k hlt, HA.out]; simp [chB, hd]⟩
          case measure => simp [intOf]; omega
        | false =>
          go_wp2_with (first | (go_at_call 259; refine (letter_any _ _).mono ?_; rintro e w' ⟨rfl, rfl⟩) | (go_at_call 260; refine (digit_any _ _).mono ?_; rintro e w' ⟨rfl, rfl⟩))
          go_ret
          exact ⟨(by rw [show r = false from HR.out.symm.trans (all_false_at s chB k hlt (by simp [chB, hl, hd]))]; rfl), rfl⟩
    · go_wp2
      go_ret
      exact ⟨(by rw [show r = true from HR.out.symm.trans ((all_take_all s chB k (by omega)).symm.trans HA.out)]; rfl), rfl⟩
theorem word_any (s : ByteArray) (w : World) (hs : s.size ≤ maxLen) :
    Calls Try.prog 233 #[.string s] w fun e w' => e = .returned (.bool (nameB s.data.toList)) ∧ w = w' := by
  have hlen : s.data.toList.length = s.size := by simp
  by_cases h1 : 1 ≤ s.size
  · by_cases h2 : s.size ≤ 40
    · cases h3 : letterB s[0].toNat with
      | false =>
        have hn : nameB s.data.toList = false := by
          unfold nameB
          rw [hlen, head_of s h1]
          cases hd : digitB s[0].toNat with
          | true => simp [hd]
          | false => simp [hd, all_false_at s chB 0 h1 (by simp [chB, h3, hd])]
        rw [hn]
        clear hn hlen
        unfold maxLen at hs
        go_enter Try.func233, Try.ntmps233
        go_wp2_with (first | (go_at_call 259; refine (letter_any _ _).mono ?_; rintro e w' ⟨rfl, rfl⟩))
        go_ret
        exact ⟨rfl, rfl⟩
      | true =>
        have hn : nameB s.data.toList = s.data.toList.all chB := by
          unfold nameB
          rw [hlen, head_of s h1]
          simp [letter_not_digit _ h3, withinB]
          omega
        rw [hn]
        exact word_in s w _ rfl hs h1 h2 h3
    · have hn : nameB s.data.toList = false := by unfold nameB; rw [hlen]; simp [withinB]; intros; omega
      rw [hn]
      clear hn hlen
      unfold maxLen at hs
      go_enter Try.func233, Try.ntmps233
      go_wp2_with fail
      go_ret
      exact ⟨rfl, rfl⟩
  · have hn : nameB s.data.toList = false := by unfold nameB; rw [hlen]; simp [withinB]; intros; omega
    rw [hn]
    clear hn hlen
    unfold maxLen at hs
    go_enter Try.func233, Try.ntmps233
    go_wp2_with fail
    go_ret
    exact ⟨rfl, rfl⟩
theorem specName_any (s : ByteArray) (w : World) (hs : s.size ≤ maxLen) :
    Calls Try.prog 181 #[.string s] w fun e w' => e = .returned (.bool (nameB s.data.toList)) ∧ w = w' := by
  have HN := fun W => word_any s W hs
  unfold maxLen at hs
  go_enter Try.func181, Try.ntmps181
  go_wp2_with (first | (go_at_call 233; refine (HN _).mono ?_; rintro e w' ⟨rfl, rfl⟩))
  go_ret
  exact ⟨rfl, rfl⟩
theorem l04Name_any (s : ByteArray) (w : World) (hs : s.size ≤ maxLen) :
    Calls Try.prog 102 #[.string s] w fun e w' => e = .returned (.bool (shortB s.data.toList)) ∧ w = w' := by
  have hlen : s.data.toList.length = s.size := by simp
  by_cases h1 : s.size ≤ 8
  · have hn : shortB s.data.toList = nameB s.data.toList := by simp [shortB, hlen, h1]
    rw [hn]
    clear hn hlen
    have HN := fun W => specName_any s W hs
    unfold maxLen at hs
    go_enter Try.func102, Try.ntmps102
    go_wp2_with (first | (go_at_call 181; refine (HN _).mono ?_; rintro e w' ⟨rfl, rfl⟩))
    go_ret
    exact ⟨rfl, rfl⟩
  · have hn : shortB s.data.toList = false := by simp [shortB, hlen, h1]
    rw [hn]
    clear hn hlen
    unfold maxLen at hs
    go_enter Try.func102, Try.ntmps102
    go_wp2_with fail
    go_ret
    exact ⟨rfl, rfl⟩
end Go.Proofs.Ytlfnpnkpjdmonaa
