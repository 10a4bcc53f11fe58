import Derived.Test.YtlfnpnkpjdmonaaOrd
import Derived.WalkLawsBesides
import Derived.Deep.RegionWith
set_option linter.unusedVariables false
set_option linter.unusedSimpArgs false
namespace Go.Proofs.Ytlfnpnkpjdmonaa
open Go.RowKit

/-! ### pairs that are right -/
def PSz (p : Pr) : Prop := p.1.size ≤ 4611686018427387904 ∧ p.2.size ≤ 4611686018427387904
def GoodTo (l : List Pr) (k : Nat) : Prop := ∀ i (h : i < l.length), i < k → pairB l[i] = true ∧ (0 < i → lt (l[i - 1]'(by omega)).1 l[i].1 = true)
open Classical in
noncomputable def okR (l : List Pr) : Bool := decide (GoodTo l l.length)
noncomputable def okP (l : List Pr) : Bool := decide (l.length ≤ 60) && okR l
theorem GoodTo.zero (l : List Pr) : GoodTo l 0 := fun i h hi => by omega
theorem GoodTo.step {l : List Pr} {k : Nat} (h : GoodTo l k) (hk : k < l.length) (h1 : pairB l[k] = true) (h2 : 0 < k → lt (l[k - 1]'(by omega)).1 l[k].1 = true) : GoodTo l (k + 1) := fun i hi hik => by
  rcases Nat.lt_or_ge i k with h3 | h3
  · exact h i hi h3
  · obtain rfl : i = k := by omega
    exact ⟨h1, h2⟩
open Classical in
theorem okR_true {l : List Pr} {k : Nat} (h : GoodTo l k) (hk : l.length ≤ k) : okR l = true := by
  unfold okR
  exact decide_eq_true fun i hi hl => h i hi (by omega)
open Classical in
theorem okR_false1 {l : List Pr} {k : Nat} (hk : k < l.length) (h : pairB l[k] = false) : okR l = false := by
  unfold okR
  exact decide_eq_false fun hg => by have := (hg k hk hk).1; rw [h] at this; cases this
open Classical in
theorem okR_false2 {l : List Pr} {k : Nat} (hk : k < l.length) (h0 : 0 < k) (h : lt (l[k - 1]'(by omega)).1 l[k].1 = false) : okR l = false := by
  unfold okR
  exact decide_eq_false fun hg => by have := (hg k hk hk).2 h0; rw [h] at this; cases this
open Classical in
theorem okR_good {l : List Pr} (h : okR l = true) : GoodTo l l.length := by unfold okR at h; exact of_decide_eq_true h
theorem rise_of {l : List Pr} (h : GoodTo l l.length) : Rise l := by
  induction l with
  | nil => trivial
  | cons p l ih =>
    have hl : GoodTo l l.length := fun i hi hl => by
      obtain ⟨a, b⟩ := h (i + 1) (by simpa using hi) (by simpa using hl)
      refine ⟨a, fun h0 => ?_⟩
      have := b (by omega)
      obtain ⟨i, rfl⟩ : ∃ m, i = m + 1 := ⟨i - 1, by omega⟩
      simpa using this
    have hr := ih hl
    refine ⟨fun q hq => ?_, hr⟩
    obtain ⟨i, hi, rfl⟩ := List.mem_iff_getElem.1 hq
    have h0 : 0 < l.length := by omega
    have h1 := (h 1 (by simpa using h0) (by simpa using h0)).2 (by omega)
    simp only [Nat.sub_self, List.getElem_cons_zero, List.getElem_cons_succ] at h1
    cases i with
    | zero => exact h1
    | succ i => exact lt_trans h1 (hr.at 0 (i + 1) h0 hi (by omega))
theorem okR_rise {l : List Pr} (h : okR l = true) : Rise l := rise_of (okR_good h)
theorem okP_parts {l : List Pr} (h : okP l = true) : l.length ≤ 60 ∧ Rise l ∧ ∀ p ∈ l, pairB p = true := by
  unfold okP at h
  rw [Bool.and_eq_true] at h
  refine ⟨of_decide_eq_true h.1, okR_rise h.2, fun p hp => ?_⟩
  obtain ⟨i, hi, rfl⟩ := List.mem_iff_getElem.1 hp
  exact (okR_good h.2 i hi hi).1
theorem okP_of {l : List Pr} (h1 : l.length ≤ 60) (h2 : Rise l) (h3 : ∀ p ∈ l, pairB p = true) : okP l = true := by
  unfold okP
  rw [Bool.and_eq_true]
  refine ⟨decide_eq_true h1, okR_true (k := l.length) (fun i hi _ => ⟨h3 _ (List.getElem_mem _), fun h0 => h2.at _ _ _ _ (by omega)⟩) (Nat.le_refl _)⟩
theorem pairB_eq {p : Pr} {a b : Bool} (h1 : withinB p.1.size 1 30 = a) (h2 : decide (p.2.size ≤ 90) = b) : pairB p = (a && b) := by
  unfold pairB
  subst h1 h2
  congr 1
  rw [Bool.eq_iff_iff]
  simp [withinB]
  omega
theorem keyOK_any (k : ByteArray) (w : World) (h : k.size ≤ 4611686018427387904) : Calls Try.prog 178 #[.string k] w fun e w' => e = .returned (.bool (withinB k.size 1 30)) ∧ w = w' := by
  go_enter Try.func178, Try.ntmps178
  go_wp2_with fail
  refine (within_any _ _ _ _).mono ?_
  rintro e w' ⟨rfl, rfl⟩
  go_wp2_with fail
  go_ret
  exact ⟨rfl, rfl⟩
theorem pairOK_any (p : Pr) (w : World) (h : PSz p) : Calls Try.prog 210 #[prV p] w fun e w' => e = .returned (.bool (pairB p)) ∧ Below w.heap.size w w' := by
  obtain ⟨h1, h2⟩ := h
  cases ha : withinB p.1.size 1 30
  · have HP := Lib.hid (pairB_eq (p := p) ha rfl)
    go_enter Try.func210, Try.ntmps210
    go_wp2_with fail
    refine (keyOK_any _ _ h1).mono ?_
    rw [ha]
    rintro e w' ⟨rfl, rfl⟩
    go_wp2_with fail
    go_ret
    exact ⟨by rw [HP.out]; rfl, by repeat (first | exact Below.refl _ _ | assumption | refine Below.drew ?_ | refine below_drewN ?_ _ | refine Below.setCell ?_ (by first | exact Nat.le_refl _ | exact Below.size (by assumption) | (simp; done) | (simp; omega) | omega) _ | refine Below.alloc ?_ (by first | exact Nat.le_refl _ | exact Below.size (by assumption) | (simp; done) | (simp; omega) | omega) _)⟩
  · by_cases hb : p.2.size ≤ 90
    all_goals
      have HP := Lib.hid (pairB_eq (p := p) ha rfl)
      go_enter Try.func210, Try.ntmps210
      go_wp2_with fail
      refine (keyOK_any _ _ h1).mono ?_
      rw [ha]
      rintro e w' ⟨rfl, rfl⟩
      go_wp2_with fail
      go_ret
      exact ⟨by rw [HP.out]; simp [hb]; omega, by repeat (first | exact Below.refl _ _ | assumption | refine Below.drew ?_ | refine below_drewN ?_ _ | refine Below.setCell ?_ (by first | exact Nat.le_refl _ | exact Below.size (by assumption) | (simp; done) | (simp; omega) | omega) _ | refine Below.alloc ?_ (by first | exact Nat.le_refl _ | exact Below.size (by assumption) | (simp; done) | (simp; omega) | omega) _)⟩
theorem l01Pair_any (p : Pr) (w : World) (h : PSz p) : Calls Try.prog 201 #[prV p] w fun e w' => e = .returned (.bool (pairB p)) ∧ Below w.heap.size w w' := by
  obtain ⟨h1, h2⟩ := h
  cases ha : withinB p.1.size 1 30
  · have HP := Lib.hid (pairB_eq (p := p) ha rfl)
    go_enter Try.func201, Try.ntmps201
    go_wp2_with fail
    refine (in_any _ _ _ _).mono ?_
    rw [ha]
    rintro e w' ⟨rfl, rfl⟩
    go_wp2_with fail
    go_ret
    exact ⟨by rw [HP.out]; rfl, by repeat (first | exact Below.refl _ _ | assumption | refine Below.drew ?_ | refine below_drewN ?_ _ | refine Below.setCell ?_ (by first | exact Nat.le_refl _ | exact Below.size (by assumption) | (simp; done) | (simp; omega) | omega) _ | refine Below.alloc ?_ (by first | exact Nat.le_refl _ | exact Below.size (by assumption) | (simp; done) | (simp; omega) | omega) _)⟩
  · by_cases hb : p.2.size ≤ 90
    all_goals
      have HP := Lib.hid (pairB_eq (p := p) ha rfl)
      go_enter Try.func201, Try.ntmps201
      go_wp2_with fail
      refine (in_any _ _ _ _).mono ?_
      rw [ha]
      rintro e w' ⟨rfl, rfl⟩
      go_wp2_with fail
      go_ret
      exact ⟨by rw [HP.out]; simp [hb]; omega, by repeat (first | exact Below.refl _ _ | assumption | refine Below.drew ?_ | refine below_drewN ?_ _ | refine Below.setCell ?_ (by first | exact Nat.le_refl _ | exact Below.size (by assumption) | (simp; done) | (simp; omega) | omega) _ | refine Below.alloc ?_ (by first | exact Nat.le_refl _ | exact Below.size (by assumption) | (simp; done) | (simp; omega) | omega) _)⟩
end Go.Proofs.Ytlfnpnkpjdmonaa
