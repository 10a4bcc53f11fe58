import Derived.Test.YtlfnpnkpjdmonaaDoorDPush
import Derived.Test.YtlfnpnkpjdmonaaDoorShelf
set_option linter.unusedVariables false
set_option linter.unusedSimpArgs false
namespace Go.Proofs.YtlfnpnkpjdmonaaDoor
open Go.RowKit

/-! ### a field's name, a field's value -/
def mchB (c : UInt8) : Bool := letterB c.toNat || decide ((c.toNat : Int) = 45)
def lnB (l : List UInt8) : Bool := l.all mchB && withinB l.length 1 12
def lvcB (c : UInt8) : Bool := withinB c.toNat 32 126
def blankB (c : UInt8) : Bool := decide ((c.toNat : Int) = 32)
def edgeB (l : List UInt8) : Bool := l.head?.all (fun c => !blankB c) && l.getLast?.all (fun c => !blankB c)
def lvB (l : List UInt8) : Bool := l.all lvcB && edgeB l

theorem head_at (s : ByteArray) (h : 0 < s.size) : s.data.toList.head? = some s[0] := by
  rw [List.head?_eq_getElem?]
  exact List.getElem?_eq_getElem (by simpa using h)
theorem lineNameOK_any (s : ByteArray) (w : World) (hs : s.size ≤ maxLen) :
    Calls Tryd.prog 73 #[.string s] w fun e w' => e = .returned (.bool (lnB s.data.toList)) ∧ w = w' := by
  unfold maxLen at hs
  have hlen : s.data.toList.length = s.size := by simp
  go_enter Tryd.func73, Tryd.ntmps73
  go_wp2_with fail
  go_loop [6] (fun i => ∃ k : Nat, k ≤ s.size ∧ i = .int .i64 k ∧ (s.data.toList.take k).all mchB = true) (fun i => s.size - (intOf i).toNat)
  case atStart => exact ⟨0, Nat.zero_le _, rfl, rfl⟩
  case round =>
    obtain ⟨k, hk, rfl, hall⟩ := hrel
    have HA := Lib.hid hall
    have HL := Lib.hid hlen
    clear hall hlen
    by_cases hlt : k < s.size
    · cases hl : letterB s[k].toNat with
      | true =>
        go_wp2_with (first | (go_at_call 86; refine (isLetter_any _ _).mono ?_; rintro e w' ⟨rfl, rfl⟩))
        go_round
        case rel => exact ⟨k + 1, by omega, by go_num, by rw [all_take_succ s mchB k hlt, HA.out]; simp [mchB, hl]⟩
        case measure => simp [intOf]; omega
      | false =>
        by_cases hd : (s[k].toNat : Int) = 45
        · have HD := Lib.hid hd
          go_wp2_with (first | (go_at_call 86; refine (isLetter_any _ _).mono ?_; rintro e w' ⟨rfl, rfl⟩))
          go_round
          case rel => exact ⟨k + 1, by omega, by go_num, by rw [all_take_succ s mchB k hlt, HA.out]; simp only [mchB, HD.out]; simp⟩
          case measure => simp [intOf]; omega
        · have HD := Lib.hid hd
          have HL0 := Lib.hid hl
          go_wp2_with (first | (go_at_call 86; refine (isLetter_any _ _).mono ?_; rintro e w' ⟨rfl, rfl⟩))
          go_ret
          exact ⟨by rw [lnB, all_false_at s mchB k hlt (by simp only [mchB, HL0.out, decide_eq_false HD.out]; rfl)]; rfl, rfl⟩
    · go_wp2_with (first | (go_at_call 87; refine (within_any _ _ _ _).mono ?_; rintro e w' ⟨rfl, rfl⟩))
      go_ret
      exact ⟨by rw [lnB, ← all_take_all s mchB k (by omega), HA.out, HL.out]; rfl, rfl⟩
theorem l08Name_any (s : ByteArray) (w : World) (hs : s.size ≤ maxLen) :
    Calls Tryd.prog 56 #[.string s] w fun e w' => e = .returned (.bool (lnB s.data.toList)) ∧ w = w' := by
  unfold maxLen at hs
  have hlen : s.data.toList.length = s.size := by simp
  by_cases h1 : s.size < 1
  · have HN : Hid (lnB s.data.toList = false) := by show lnB _ = _; rw [lnB, hlen]; simp [withinB]; omega
    clear hlen
    go_enter Tryd.func56, Tryd.ntmps56
    go_wp2
    go_ret
    exact ⟨by rw [HN.out]; rfl, rfl⟩
  by_cases h2 : 12 < s.size
  · have HN : Hid (lnB s.data.toList = false) := by show lnB _ = _; rw [lnB, hlen]; simp [withinB]; omega
    clear hlen
    go_enter Tryd.func56, Tryd.ntmps56
    go_wp2
    go_ret
    exact ⟨by rw [HN.out]; rfl, rfl⟩
  have HW : Hid (withinB s.data.toList.length 1 12 = true) := by show withinB _ _ _ = _; rw [hlen]; simp [withinB]; omega
  clear hlen
  go_enter Tryd.func56, Tryd.ntmps56
  go_wp2
  go_loop [3] (fun i => ∃ k : Nat, k ≤ s.size ∧ i = .int .i64 k ∧ (s.data.toList.take k).all mchB = true) (fun i => s.size - (intOf i).toNat)
  case atStart => exact ⟨0, Nat.zero_le _, rfl, rfl⟩
  case round =>
    obtain ⟨k, hk, rfl, hall⟩ := hrel
    have HA := Lib.hid hall
    clear hall h1 h2
    by_cases hlt : k < s.size
    · cases hl : letterB s[k].toNat with
      | true =>
        go_wp2_with (first | (go_at_call 75; refine (letter_any _ _).mono ?_; rintro e w' ⟨rfl, rfl⟩))
        go_round
        case rel => exact ⟨k + 1, by omega, by go_num, by rw [all_take_succ s mchB k hlt, HA.out]; simp [mchB, hl]⟩
        case measure => simp [intOf]; omega
      | false =>
        by_cases hd : (s[k].toNat : Int) = 45
        · have HD := Lib.hid hd
          go_wp2_with (first | (go_at_call 75; refine (letter_any _ _).mono ?_; rintro e w' ⟨rfl, rfl⟩))
          go_round
          case rel => exact ⟨k + 1, by omega, by go_num, by rw [all_take_succ s mchB k hlt, HA.out]; simp only [mchB, HD.out]; simp⟩
          case measure => simp [intOf]; omega
        · have HD := Lib.hid hd
          have HL0 := Lib.hid hl
          go_wp2_with (first | (go_at_call 75; refine (letter_any _ _).mono ?_; rintro e w' ⟨rfl, rfl⟩))
          go_ret
          exact ⟨by rw [lnB, all_false_at s mchB k hlt (by simp only [mchB, HL0.out, decide_eq_false HD.out]; rfl)]; rfl, rfl⟩
    · go_wp2
      go_ret
      exact ⟨by rw [lnB, ← all_take_all s mchB k (by omega), HA.out, HW.out]; rfl, rfl⟩

theorem dropWhile_self {p : UInt8 → Bool} {l : List UInt8} : l.dropWhile p = l ↔ l.head?.all (fun c => !p c) = true := by
  cases l with
  | nil => simp
  | cons x t =>
    cases h : p x with
    | false => simp [List.dropWhile, h]
    | true =>
      simp only [List.dropWhile, h, List.head?_cons, Option.all_some]
      constructor
      · intro e
        have := congrArg List.length e
        have h2 := (List.dropWhile_sublist (l := t) p).length_le
        simp at this
        omega
      · intro e; simp at e
theorem trim_edge (l : List UInt8) : Go.Lib.trimB l 32 = l ↔ edgeB l = true := by
  have hp : ∀ c : UInt8, (c == 32) = blankB c := fun c => by
    unfold blankB
    rw [Bool.eq_iff_iff]
    simp only [beq_iff_eq, decide_eq_true_eq]
    constructor
    · rintro rfl; rfl
    · intro h; exact UInt8.toNat_inj.1 (by have : (32 : UInt8).toNat = 32 := rfl; omega)
  have hf : (fun c : UInt8 => c == 32) = blankB := funext hp
  unfold Go.Lib.trimB Go.Lib.trimLeftB Go.Lib.trimRightB edgeB
  rw [hf, Bool.and_eq_true]
  have e1 : l.getLast?.all (fun c => !blankB c) = true ↔ l.reverse.dropWhile blankB = l.reverse := by
    rw [dropWhile_self, List.head?_reverse]
  rw [e1]
  constructor
  · intro h
    have hl := congrArg List.length h
    have h1 := (List.dropWhile_sublist (l := (l.reverse.dropWhile blankB).reverse) blankB).length_le
    have h2 := (List.dropWhile_sublist (l := l.reverse) blankB).length_le
    rw [List.length_reverse] at h1 h2
    have h3 : l.reverse.dropWhile blankB = l.reverse := (List.dropWhile_sublist (l := l.reverse) blankB).eq_of_length (by rw [List.length_reverse]; omega)
    rw [h3, List.reverse_reverse] at h
    exact ⟨dropWhile_self.1 h, h3⟩
  · rintro ⟨h1, h2⟩
    rw [h2, List.reverse_reverse]
    exact dropWhile_self.2 h1
theorem trim_eq (s : ByteArray) : (Go.Lib.trimB s.data.toList 32 == s.toList) = edgeB s.data.toList := by
  rw [Bool.eq_iff_iff, ← trim_edge, beq_iff_eq, ByteArray.toList_eq]
theorem lvc_in {c : UInt8} (h1 : ¬ (c.toNat : Int) < 32) (h2 : ¬ 126 < (c.toNat : Int)) : lvcB c = true := by simp [lvcB, withinB]; omega
theorem lvc_out {c : UInt8} (h : (c.toNat : Int) < 32 ∨ 126 < (c.toNat : Int)) : lvcB c = false := by simp [lvcB, withinB]; omega
theorem lineValueOK_any (s : ByteArray) (w : World) (hs : s.size ≤ 85) :
    Calls Tryd.prog 74 #[.string s] w fun e w' => e = .returned (.bool (lvB s.data.toList)) ∧ Below w.heap.size w w' := by
  have hE := trim_eq s
  have HT := Lib.hid (fun W => Tryd.strings_Trim_one s 32 (by decide) W (by omega))
  have HE0 : Hid (lvB s.data.toList = (s.data.toList.all lvcB && edgeB s.data.toList)) := rfl
  generalize lvB s.data.toList = r at HE0 ⊢
  generalize edgeB s.data.toList = b at hE HE0
  have HE := Lib.hid hE
  clear hE
  go_enter Tryd.func74, Tryd.ntmps74
  go_wp2_with fail
  go_loop [6] (fun i => ∃ k : Nat, k ≤ s.size ∧ i = .int .i64 k ∧ (s.data.toList.take k).all lvcB = true) (fun i => s.size - (intOf i).toNat)
  case atStart => exact ⟨0, Nat.zero_le _, rfl, rfl⟩
  case round =>
    obtain ⟨k, hk, rfl, hall⟩ := hrel
    have HA := Lib.hid hall
    clear hall
    by_cases hlt : k < s.size
    · by_cases h1 : (s[k].toNat : Int) < 32
      · have H1 := Lib.hid h1
        go_wp2_with fail
        go_ret
        exact ⟨by rw [HE0.out, all_false_at s lvcB k hlt (lvc_out (.inl H1.out))]; rfl, Below.refl _ _⟩
      · by_cases h2 : 126 < (s[k].toNat : Int)
        · have H2 := Lib.hid h2
          go_wp2_with fail
          go_ret
          exact ⟨by rw [HE0.out, all_false_at s lvcB k hlt (lvc_out (.inr H2.out))]; rfl, Below.refl _ _⟩
        · have HC := Lib.hid (lvc_in h1 h2)
          go_wp2_with fail
          go_round
          case rel => exact ⟨k + 1, by omega, by go_num, by rw [all_take_succ s lvcB k hlt, HA.out, HC.out]; rfl⟩
          case measure => simp [intOf]; omega
    · have HAL : Hid (s.data.toList.all lvcB = true) := by rw [Hid, ← all_take_all s lvcB k (by omega)]; exact HA.out
      have hE := HE.out
      go_wp2_with fail
      refine (HT.out _).mono ?_
      rintro e w2 ⟨rfl, hw⟩
      have HB : Hid (Below w.heap.size w w2) := by
        show Below _ _ _
        rcases hw with rfl | rfl
        · exact Below.refl _ _
        · exact (Below.refl _ _).drew
      clear hw
      go_wp2_with fail
      go_ret
      exact ⟨by rw [HE0.out, HAL.out]; rfl, HB.out⟩
theorem edge_of (s : ByteArray) (h : 0 < s.size) : edgeB s.data.toList = (!blankB s[0] && !blankB s[s.size - 1]) := by
  have e : s.data.toList.getLast? = some s[s.size - 1] := by
    rw [List.getLast?_eq_getElem?]
    have : s.data.toList.length = s.size := by simp
    rw [this]
    exact List.getElem?_eq_getElem (by simpa using by omega)
  rw [edgeB, head_at s h, e]
  rfl
theorem l08Value_any (s : ByteArray) (w : World) (hs : s.size ≤ maxLen) :
    Calls Tryd.prog 57 #[.string s] w fun e w' => e = .returned (.bool (lvB s.data.toList)) ∧ w = w' := by
  unfold maxLen at hs
  have HE0 : Hid (lvB s.data.toList = (s.data.toList.all lvcB && edgeB s.data.toList)) := rfl
  have HEL : Hid (s.size = 0 → edgeB s.data.toList = true) := fun h => by
    have e : s.data.toList = [] := List.eq_nil_of_length_eq_zero (by simpa using h)
    rw [e]
    rfl
  have HEG : Hid (∀ h : 0 < s.size, edgeB s.data.toList = (!blankB s[0] && !blankB s[s.size - 1])) := fun h => edge_of s h
  generalize lvB s.data.toList = r at HE0 ⊢
  generalize edgeB s.data.toList = b at HEL HEG HE0
  go_enter Tryd.func57, Tryd.ntmps57
  go_wp2_with fail
  go_loop [3] (fun i => ∃ k : Nat, k ≤ s.size ∧ i = .int .i64 k ∧ (s.data.toList.take k).all lvcB = true) (fun i => s.size - (intOf i).toNat)
  case atStart => exact ⟨0, Nat.zero_le _, rfl, rfl⟩
  case round =>
    obtain ⟨k, hk, rfl, hall⟩ := hrel
    have HA := Lib.hid hall
    clear hall
    by_cases hlt : k < s.size
    · have hb : (s[k].toNat : Int) ≤ 255 := by have := s[k].toNat_lt; omega
      cases hc : withinB s[k].toNat 32 126 with
      | false =>
        have HC := Lib.hid hc
        go_wp2_with (first | (go_at_call 76; refine (in_any _ _ _ _).mono ?_; rintro e w' ⟨rfl, rfl⟩))
        go_ret
        exact ⟨by rw [HE0.out, all_false_at s lvcB k hlt HC.out]; rfl, rfl⟩
      | true =>
        have HC := Lib.hid hc
        go_wp2_with (first | (go_at_call 76; refine (in_any _ _ _ _).mono ?_; rintro e w' ⟨rfl, rfl⟩))
        go_round
        case rel => exact ⟨k + 1, by omega, by go_num, by rw [all_take_succ s lvcB k hlt, HA.out, show lvcB s[k] = true from HC.out]; rfl⟩
        case measure => simp [intOf]; omega
    · have HAL : Hid (s.data.toList.all lvcB = true) := by rw [Hid, ← all_take_all s lvcB k (by omega)]; exact HA.out
      by_cases h0 : s.size = 0
      · have he : s.toList.isEmpty = true := by
          have e : s.data.toList = [] := List.eq_nil_of_length_eq_zero (by simpa using h0)
          rw [ByteArray.toList_eq, e]
          rfl
        have HB := Lib.hid (HEL.out h0)
        go_wp2_with fail
        go_ret
        exact ⟨by rw [HE0.out, HAL.out, HB.out]; rfl, rfl⟩
      · have he : s.toList.isEmpty = false := by
          rw [ByteArray.toList_eq]
          cases hl : s.data.toList with
          | nil => exact absurd (by simpa using congrArg List.length hl) h0
          | cons => rfl
        have hpos : 0 < s.size := by omega
        have HB := Lib.hid (HEG.out hpos)
        by_cases h1 : (s[0].toNat : Int) = 32
        · have H1 := Lib.hid h1
          go_wp2_with fail
          go_ret
          exact ⟨by rw [HE0.out, HAL.out, HB.out, show blankB s[0] = true from decide_eq_true H1.out]; rfl, rfl⟩
        · by_cases h2 : (s[s.size - 1].toNat : Int) = 32
          · have H1 := Lib.hid h1
            have H2 := Lib.hid h2
            go_wp2_with fail
            go_ret
            exact ⟨by rw [HE0.out, HAL.out, HB.out, show blankB s[0] = false from decide_eq_false H1.out, show blankB s[s.size - 1] = true from decide_eq_true H2.out]; rfl, rfl⟩
          · have H1 := Lib.hid h1
            have H2 := Lib.hid h2
            go_wp2_with fail
            go_ret
            exact ⟨by rw [HE0.out, HAL.out, HB.out, show blankB s[0] = false from decide_eq_false H1.out, show blankB s[s.size - 1] = false from decide_eq_false H2.out]; exact ret_b (by have h1 := H1.out; have h2 := H2.out; simp [h1, h2]), rfl⟩
def lineB (n v : List UInt8) : Bool := lnB n && lvB v
theorem lineOK_any (n v : ByteArray) (w : World) (hn : n.size ≤ 85) (hv : v.size ≤ 85) :
    Calls Tryd.prog 55 #[.agg #[.string n, .string v]] w fun e w' => e = .returned (.bool (lineB n.data.toList v.data.toList)) ∧ Below w.heap.size w w' := by
  have hb0 : Below w.heap.size w (w.alloc (.cells #[.string n, .string v] 49)) := by repeat (first | exact Below.refl _ _ | assumption | refine Below.drew ?_ | refine below_drewN ?_ _ | refine Below.setCell ?_ (by first | exact Nat.le_refl _ | exact Below.size (by assumption) | (simp; done) | (simp; omega) | omega) _ | refine Below.alloc ?_ (by first | exact Nat.le_refl _ | exact Below.size (by assumption) | (simp; done) | (simp; omega) | omega) _)
  have HB := Lib.hid hb0
  have HR : Hid (lineB n.data.toList v.data.toList = (lnB n.data.toList && lvB v.data.toList)) := rfl
  have HC := Lib.hid (fun W => lineNameOK_any n W (by simp only [maxLen]; omega))
  have HD := Lib.hid (fun W => lineValueOK_any v W hv)
  generalize lineB n.data.toList v.data.toList = r at HR ⊢
  clear hb0
  cases h1 : lnB n.data.toList with
  | false =>
    rw [h1] at HC
    have HN := Lib.hid h1
    clear h1
    go_enter Tryd.func55, Tryd.ntmps55
    go_wp2_with (first | (go_at_call 73; refine (HC.out _).mono ?_; rintro e w' ⟨rfl, rfl⟩))
    go_ret
    exact ⟨by rw [HR.out, HN.out]; rfl, HB.out⟩
  | true =>
    rw [h1] at HC
    have HN := Lib.hid h1
    clear h1
    go_enter Tryd.func55, Tryd.ntmps55
    go_wp2_with (first | (go_at_call 73; refine (HC.out _).mono ?_; rintro e w' ⟨rfl, rfl⟩) | (go_at_call 74; refine (HD.out _).mono ?_; rintro e w2 ⟨rfl, hb2⟩; have HB2 := Lib.hid (below_after HB.out hb2); clear hb2))
    go_ret
    exact ⟨by rw [HR.out, HN.out]; rfl, HB2.out⟩
end Go.Proofs.YtlfnpnkpjdmonaaDoor
