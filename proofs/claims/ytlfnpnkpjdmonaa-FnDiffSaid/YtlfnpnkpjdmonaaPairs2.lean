import Derived.Test.YtlfnpnkpjdmonaaPairs
set_option linter.unusedVariables false
set_option linter.unusedSimpArgs false
namespace Go.Proofs.Ytlfnpnkpjdmonaa
open Go.RowKit

theorem szPair_any (p : Pr) (left : Int) (w : World) (h0 : 0 ≤ left) (h1 : left ≤ 1048576) (hs1 : p.1.size ≤ maxLen) (hs2 : p.2.size ≤ maxLen) :
    Calls Try.prog 189 #[prV p, .int .i64 left] w fun e w' => ∃ n : Int, e = .returned (.int .i64 n) ∧ n ≤ left ∧ (0 ≤ n → p.1.size + p.2.size + n ≤ left) ∧ Below w.heap.size w w' := by
  unfold maxLen at hs1 hs2
  by_cases ha : left - p.1.size < 0
  · go_enter Try.func189, Try.ntmps189
    go_wp2
    go_ret
    exact ⟨-1, rfl, by omega, fun h => by omega, by repeat (first | exact Below.refl _ _ | assumption | refine Below.drew ?_ | refine below_drewN ?_ _ | refine Below.setCell ?_ (by first | exact Nat.le_refl _ | exact Below.size (by assumption) | (simp; done) | (simp; omega) | omega) _ | refine Below.alloc ?_ (by first | exact Nat.le_refl _ | exact Below.size (by assumption) | (simp; done) | (simp; omega) | omega) _)⟩
  · by_cases hb : left - p.1.size - p.2.size < 0
    · go_enter Try.func189, Try.ntmps189
      go_wp2
      go_ret
      exact ⟨-1, rfl, by omega, fun h => by omega, by repeat (first | exact Below.refl _ _ | assumption | refine Below.drew ?_ | refine below_drewN ?_ _ | refine Below.setCell ?_ (by first | exact Nat.le_refl _ | exact Below.size (by assumption) | (simp; done) | (simp; omega) | omega) _ | refine Below.alloc ?_ (by first | exact Nat.le_refl _ | exact Below.size (by assumption) | (simp; done) | (simp; omega) | omega) _)⟩
    · go_enter Try.func189, Try.ntmps189
      go_wp2
      go_ret
      exact ⟨left - p.1.size - p.2.size, rfl, by omega, fun h => by omega, by repeat (first | exact Below.refl _ _ | assumption | refine Below.drew ?_ | refine below_drewN ?_ _ | refine Below.setCell ?_ (by first | exact Nat.le_refl _ | exact Below.size (by assumption) | (simp; done) | (simp; omega) | omega) _ | refine Below.alloc ?_ (by first | exact Nat.le_refl _ | exact Below.size (by assumption) | (simp; done) | (simp; omega) | omega) _)⟩

theorem szPairS_any (A : Option Addr) (c : Nat) (xs : List Pr) (left : Int) (w : World) (hx : Rd w w.heap.size A (flat encP xs)) (hl : xs.length ≤ maxLen) (h0 : 0 ≤ left) (h1 : left ≤ 1048576) (hs : ∀ p ∈ xs, p.1.size ≤ maxLen ∧ p.2.size ≤ maxLen) :
    Calls Try.prog 114 #[.slice A xs.length c, .int .i64 left] w fun e w' => ∃ n : Int, e = .returned (.int .i64 n) ∧ n ≤ left ∧ (0 ≤ n → xs.length + n ≤ left ∧ ∀ p ∈ xs, p.1.size + p.2.size + n ≤ left) ∧ Below w.heap.size w w' := by
  unfold maxLen at hl
  have HX := Lib.hid hx
  have HS := Lib.hid hs
  clear hx hs
  by_cases hneg : left < xs.length
  · go_enter Try.func114, Try.ntmps114
    go_wp2
    go_ret
    exact ⟨-1, rfl, by omega, fun h => by omega, Below.refl _ _⟩
  · go_enter Try.func114, Try.ntmps114
    go_wp2
    go_loopw [1, 5] (fun l i wr => ∃ (k : Nat) (m : Int), k ≤ xs.length ∧ i = .int .i64 k ∧ l = .int .i64 m ∧ 0 ≤ m ∧ m + xs.length ≤ left ∧ (∀ p ∈ xs.take k, p.1.size + p.2.size + m ≤ left) ∧ Below w.heap.size w wr) (fun _ i _ => xs.length - (intOf i).toNat)
    case atStart => exact ⟨0, left - xs.length, Nat.zero_le _, rfl, rfl, by omega, by omega, by simp, Below.refl _ _⟩
    case round =>
      obtain ⟨k, m, hk, rfl, rfl, hm, hml, hall, hb⟩ := hrel
      have HA := Lib.hid hall
      clear hall
      by_cases hlt : k < xs.length
      · obtain ⟨ad, rfl, _, hca, hcb⟩ := (HX.out.below hb).pr hlt
        obtain ⟨hz1, hz2⟩ := HS.out xs[k] (List.getElem_mem _)
        go_wp2_with fail
        refine (szPair_any _ _ _ hm (by omega) hz1 hz2).mono ?_
        rintro e w1 ⟨n, rfl, hn1, hn2, hb1⟩
        have hb2 := below_after hb hb1
        clear hb1
        by_cases hn : n < 0
        · clear hz1 hz2
          go_wp2
          go_ret
          exact ⟨-1, rfl, by omega, fun h => by omega, hb2⟩
        · have hn3 := hn2 (by omega)
          clear hz1 hz2 hn2
          go_wp2
          go_roundw
          case rel =>
            refine ⟨k + 1, n, by omega, by go_num, rfl, by omega, by omega, fun p hp => ?_, hb2⟩
            rw [List.take_succ_eq_append_getElem hlt, List.mem_append] at hp
            rcases hp with hp | hp
            · have := HA.out p hp
              omega
            · simp at hp
              subst hp
              omega
          case measure => simp [intOf]; omega
      · go_wp2
        go_ret
        exact ⟨m, rfl, by omega, fun _ => ⟨by omega, fun p hp => HA.out p (by rwa [List.take_of_length_le (by omega)])⟩, hb⟩

theorem toPair_any (p : Pr) (w : World) : Calls Try.prog 191 #[prV p] w fun e w' => e = .returned (prV p) ∧ Below w.heap.size w w' := by
  go_enter Try.func191, Try.ntmps191
  go_wp2
  refine bodyPost_ret (v := prV p) (by simp [results, Try.results191, go_sem]) rfl ⟨rfl, ?_⟩
  repeat (first | exact Below.refl _ _ | assumption | refine Below.drew ?_ | refine below_drewN ?_ _ | refine Below.setCell ?_ (by first | exact Nat.le_refl _ | exact Below.size (by assumption) | (simp; done) | (simp; omega) | omega) _ | refine Below.alloc ?_ (by first | exact Nat.le_refl _ | exact Below.size (by assumption) | (simp; done) | (simp; omega) | omega) _)
end Go.Proofs.Ytlfnpnkpjdmonaa
