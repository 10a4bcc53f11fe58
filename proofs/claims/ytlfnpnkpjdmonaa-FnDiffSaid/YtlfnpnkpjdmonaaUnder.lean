import Derived.Test.YtlfnpnkpjdmonaaDrop
set_option linter.unusedVariables false
set_option linter.unusedSimpArgs false
namespace Go.Proofs.Ytlfnpnkpjdmonaa
open Go.RowKit

/-! ### PairsUnder: DeleteFunc with a closure that holds a key -/
def pre (s k : ByteArray) : Bool := Lib.hasPrefix s.data.toList k.data.toList
def keepK (k : ByteArray) (p : Pr) : Bool := pre p.1 k
theorem notUnder_any (p : Pr) (b : Nat) (k : ByteArray) (w : World) (hc : w.cell? ⟨b, 0, none⟩ = some (.string k)) (hb : b < w.heap.size) :
    Calls Try.prog 142 #[prV p, .pointer (some ⟨b, 0, none⟩)] w fun e w' => e = .returned (.bool (!keepK k p)) ∧ Below w.heap.size w w' := by
  go_enter Try.func142, Try.ntmps142
  have hc2 : ∀ o, (w.alloc o).cell? ⟨b, 0, none⟩ = some (.string k) := fun o => by rw [← hc]; exact World.cell?_of_block (Lib.alloc_old w o b hb)
  go_wp2_with fail
  refine (Try.strings_HasPrefix p.1 k _).mono ?_
  rintro e w1 ⟨rfl, rfl⟩
  go_wp2_with fail
  go_ret
  exact ⟨rfl, by repeat (first | exact Below.refl _ _ | assumption | refine Below.drew ?_ | refine below_drewN ?_ _ | refine Below.setCell ?_ (by first | exact Nat.le_refl _ | exact Below.size (by assumption) | (simp; done) | (simp; omega) | omega) _ | refine Below.alloc ?_ (by first | exact Nat.le_refl _ | exact Below.size (by assumption) | (simp; done) | (simp; omega) | omega) _)⟩
set_option maxRecDepth 100000 in
theorem indexUnder_any (A : Option Addr) (c : Nat) (l : List Pr) (b : Nat) (k : ByteArray) (w : World) (hx : Rd w w.heap.size A (flat encP l)) (hl : l.length ≤ 1048576) (hc : w.cell? ⟨b, 0, none⟩ = some (.string k)) (hb : b < w.heap.size) :
    Calls Try.prog 208 #[.slice A l.length c, .func (.func 142) #[] #[.pointer (some ⟨b, 0, none⟩)]] w fun e w' => Below w.heap.size w w' ∧ ((e = .returned (.int .i64 (-1)) ∧ ∀ p ∈ l, keepK k p = true) ∨ ∃ i : Nat, e = .returned (.int .i64 i) ∧ i < l.length ∧ (l[i]?.map (keepK k)) = some false ∧ ∀ p ∈ l.take i, keepK k p = true) := by
  have HX := Lib.hid hx
  have HC := Lib.hid hc
  clear hx hc
  go_enter Try.func208, Try.ntmps208
  go_wp2
  go_loopw [8] (fun i wr => ∃ j : Nat, j ≤ l.length ∧ i = .int .i64 j ∧ (∀ p ∈ l.take j, keepK k p = true) ∧ Below w.heap.size w wr) (fun i _ => l.length - (intOf i).toNat)
  case atStart => exact ⟨0, by omega, rfl, by simp, Below.refl _ _⟩
  case round =>
    obtain ⟨j, hj, rfl, hall, hbe⟩ := hrel
    have HA := Lib.hid hall
    clear hall
    by_cases hlt : j < l.length
    · obtain ⟨ad, rfl, hbl, hca, hcb⟩ := (HX.out.below hbe).pr hlt
      have hck : wr.cell? ⟨b, 0, none⟩ = some (.string k) := (hbe.cell hb).trans HC.out
      have hbs := hbe.size
      have HK := Lib.hid hck
      clear hck
      cases hkp : keepK k l[j] with
      | true =>
        have HP := Lib.hid hkp
        clear hkp
        go_wp2_with fail
        refine (notUnder_any l[j] b k _ HK.out (by omega)).mono ?_
        rw [HP.out]
        rintro e w2 ⟨rfl, hb2⟩
        have hb3 := below_after hbe hb2
        clear hb2 hca hcb
        go_wp2_with fail
        go_roundw
        case rel =>
          refine ⟨j + 1, hlt, by go_num, fun p hp => ?_, hb3⟩
          rw [List.take_succ_eq_append_getElem hlt, List.mem_append] at hp
          rcases hp with hp | hp
          · exact HA.out p hp
          · rw [List.mem_singleton] at hp
            rw [hp]
            exact HP.out
        case measure => simp [intOf]; omega
      | false =>
        have HP := Lib.hid hkp
        clear hkp
        go_wp2_with fail
        refine (notUnder_any l[j] b k _ HK.out (by omega)).mono ?_
        rw [HP.out]
        rintro e w2 ⟨rfl, hb2⟩
        have hb3 := below_after hbe hb2
        clear hb2 hca hcb
        go_wp2_with fail
        go_ret
        exact ⟨hb3, .inr ⟨j, rfl, hlt, by rw [List.getElem?_eq_getElem hlt, Option.map_some, HP.out], HA.out⟩⟩
    · obtain rfl : j = l.length := by omega
      go_wp2_with fail
      go_ret
      exact ⟨hbe, .inl ⟨rfl, fun p hp => HA.out p (by rw [List.take_of_length_le (Nat.le_refl _)]; exact hp)⟩⟩
end Go.Proofs.Ytlfnpnkpjdmonaa
