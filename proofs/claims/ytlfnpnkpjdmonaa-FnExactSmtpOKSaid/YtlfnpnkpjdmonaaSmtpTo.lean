import Derived.Test.YtlfnpnkpjdmonaaSmtpImpl
import Derived.Test.YtlfnpnkpjdmonaaOpen
import Derived.Lib.SmallJoins
set_option linter.unusedVariables false
set_option linter.unusedSimpArgs false
namespace Go.Proofs.Ytlfnpnkpjdmonaa
open Go.ChangeShapes Go.WideShapes Go.ChangeAt Go.RowKit Go.Joins

/-! ### arguments of the kind []string, opened -/
theorem open_strs {H : Type} {enc : TypeId × Value → H} {W : World} {n : Nat} {v : Value} {y : DataW H × List MemPlace} (h : DataW.trod enc Try.prog W 0 (fun _ => true) true n 29 [v] = some y) :
    ∃ (A : Option Addr) (c : Nat) (xs : List ByteArray), v = .slice A xs.length c ∧ Rd W W.heap.size A (xs.map Value.string) ∧ xs.length ≤ maxLen ∧ ∀ s ∈ xs, s.size ≤ maxLen := by
  rcases open_strings Try.underlying29 Try.underlying9 cellsStr h with ⟨hcs, _⟩ | ⟨a, len, cap, ss, hcs, _, hl, hm, hz, _, hcell, hss⟩
  · simp only [List.cons.injEq, and_true] at hcs
    exact ⟨none, 0, [], hcs, Rd.nil _ _ _, Nat.zero_le _, by simp⟩
  · simp only [List.cons.injEq, and_true] at hcs
    simp only [if_true] at hz
    refine ⟨some a, cap, ss.take len, ?_, fun hne => ?_, ?_, fun s hs => hss s (List.mem_of_mem_take hs)⟩
    · rw [List.length_take, show min len ss.length = len from by omega]
      exact hcs
    · have hlen : 0 < len := by
        rcases Nat.eq_zero_or_pos len with h0 | h0
        · subst h0; simp at hne
        · exact h0
      have h0 := hcell 0 (by omega)
      have hb : a.block < W.heap.size := by
        have := block_lt_of_cell h0
        rwa [add_block] at this
      refine ⟨a, rfl, hb, fun j u hu => ?_⟩
      rw [List.getElem?_map, Option.map_eq_some_iff] at hu
      obtain ⟨z, hz1, rfl⟩ := hu
      have hj : j < ss.length := by
        have h1 := (List.getElem?_eq_some_iff.1 hz1).1
        rw [List.length_take] at h1
        omega
      rw [List.getElem?_take] at hz1
      split at hz1
      · rw [hcell j hj, List.getD_eq_getElem?_getD, hz1, Option.getD_some]
      · cases hz1
    · rw [List.length_take]; omega

theorem szStringS_big (A : Option Addr) (c : Nat) (xs : List ByteArray) (left : Int) (w : World) (hl : xs.length ≤ maxLen) (hneg : left < xs.length) (h0 : 0 ≤ left) :
    Calls Try.prog 95 #[.slice A xs.length c, .int .i64 left] w fun e w' => e = .returned (.int .i64 (-1)) ∧ w = w' := by
  unfold maxLen at hl
  go_enter Try.func95, Try.ntmps95
  go_wp2
  go_ret
  exact ⟨rfl, rfl⟩
theorem szStrs_any (A : Option Addr) (c : Nat) (xs : List ByteArray) (left : Int) (w : World) (hx : Rd w w.heap.size A (xs.map Value.string)) (hl : xs.length ≤ maxLen) (h0 : 0 ≤ left) (h1 : left ≤ 1048576) (hs : ∀ s ∈ xs, s.size ≤ maxLen) :
    Calls Try.prog 95 #[.slice A xs.length c, .int .i64 left] w fun e w' => ∃ n : Int, e = .returned (.int .i64 n) ∧ n ≤ 1048576 ∧ (0 ≤ n → xs.length ≤ 1048576) ∧ w = w' := by
  by_cases hn : left < xs.length
  · exact (szStringS_big A c xs left w hl hn h0).mono fun e w' ⟨he, hw⟩ => ⟨-1, he, by omega, fun h => by omega, hw⟩
  · exact (szStringS_any A c xs left w hx (by omega) h0 h1 hs).mono fun e w' ⟨n, he, hn1, hn2, hw⟩ => ⟨n, he, hn1, fun h => by have := (hn2 h).1; omega, hw⟩
set_option maxRecDepth 100000 in
theorem szSmtp_any (h d o : Bool) (f : ByteArray) (A B : Option Addr) (c b : Nat) (xs ys : List ByteArray) (w : World) (hx : Rd w w.heap.size A (xs.map Value.string)) (hy : Rd w w.heap.size B (ys.map Value.string)) (hf : f.size ≤ maxLen) (hl : xs.length ≤ maxLen) (hl' : ys.length ≤ maxLen) (hs : ∀ s ∈ xs, s.size ≤ maxLen) (hs' : ∀ s ∈ ys, s.size ≤ maxLen) :
    Calls Try.prog 38 #[smtpV h d o f A xs.length c B ys.length b, .int .i64 1048576] w fun e w' => ∃ n : Int, e = .returned (.int .i64 n) ∧ n ≤ 1048576 ∧ (0 ≤ n → xs.length ≤ 1048576 ∧ ys.length ≤ 1048576) ∧ Below w.heap.size w w' := by
  have hb1 : Below w.heap.size w (w.alloc (.cells #[.bool h, .bool d, .bool o, .string f, .slice A xs.length c, .slice B ys.length b] 48)) := (Below.refl _ _).alloc (Nat.le_refl _) _
  have HX := Lib.hid (hx.next hb1)
  have HY := Lib.hid (hy.next hb1)
  have HS := Lib.hid (And.intro hs hs')
  have HL := Lib.hid (And.intro hl hl')
  have HB := Lib.hid hb1
  clear hx hy hs hs' hl hl' hb1
  have hf' := hf
  unfold maxLen at hf'
  by_cases hneg : (1048576 : Int) - f.size < 0
  · go_enter Try.func38, Try.ntmps38
    go_wp2
    go_ret
    exact ⟨-1, rfl, by omega, fun h => by omega, HB.out⟩
  · go_enter Try.func38, Try.ntmps38
    go_wp2_with fail
    refine (szStrs_any _ _ _ _ _ HX.out HL.out.1 (by omega) (by omega) HS.out.1).mono ?_
    rintro e w' ⟨n, rfl, hn1, hn2, rfl⟩
    by_cases h0 : n < 0
    · go_wp2
      go_ret
      exact ⟨-1, rfl, by omega, fun h => by omega, HB.out⟩
    · go_wp2_with fail
      refine (szStrs_any _ _ _ _ _ HY.out HL.out.2 (by omega) (by omega) HS.out.2).mono ?_
      rintro e w' ⟨m, rfl, hm1, hm2, rfl⟩
      by_cases h0' : m < 0
      · go_wp2
        go_ret
        exact ⟨-1, rfl, by omega, fun h => by omega, HB.out⟩
      · go_wp2
        go_ret
        exact ⟨m, rfl, by omega, fun h => ⟨hn2 (by omega), hm2 (by omega)⟩, HB.out⟩

def ToS (h d o : Bool) (f : ByteArray) (xs ys : List ByteArray) (w : World) (e : Ending) (w' : World) : Prop :=
  ∃ A c B b, e = .returned (smtpV h d o f A xs.length c B ys.length b) ∧ w'.ownsRow w.heap.size 9 1 (.slice A xs.length c) xs.length (xs.map Value.string) ∧ w'.ownsRow w.heap.size 9 1 (.slice B ys.length b) ys.length (ys.map Value.string) ∧ Below w.heap.size w w'
theorem own_len {w : World} {base : Nat} {e : TypeId} {size n : Nat} {v : Value} {xs : List Value} (h : w.ownsRow base e size v n xs) : ∃ A c, v = .slice A n c := by
  obtain ⟨A, c, h1, _⟩ := own_form h
  exact ⟨A, c, h1⟩
theorem own_set {w : World} {base : Nat} {e : TypeId} {size n : Nat} {v : Value} {xs : List Value} (h : w.ownsRow base e size v n xs) {k : Nat} (hk : k < base) (i : Nat) (u : Value) : (w.setCell ⟨k, i, none⟩ u).ownsRow base e size v n xs :=
  ownsRow_setCell_below h hk u
set_option maxRecDepth 100000 in
theorem toSmtp_any (h d o : Bool) (f : ByteArray) (A B : Option Addr) (c b : Nat) (xs ys : List ByteArray) (w : World) (hx : Rd w w.heap.size A (xs.map Value.string)) (hy : Rd w w.heap.size B (ys.map Value.string)) (hl : xs.length ≤ 17592186044416) (hl' : ys.length ≤ 17592186044416) :
    Calls Try.prog 40 #[smtpV h d o f A xs.length c B ys.length b] w (ToS h d o f xs ys w) := by
  have HX := Lib.hid hx
  have HY := Lib.hid hy
  clear hx hy
  go_enter Try.func40, Try.ntmps40
  go_wp2_with fail
  refine (toStringS_any _ _ xs _ (by exact Rd.next HX.out (by repeat (first | exact Below.refl _ _ | assumption | refine Below.drew ?_ | refine below_drewN ?_ _ | refine Below.setCell ?_ (by first | exact Nat.le_refl _ | exact Below.size (by assumption) | (simp; done) | (simp; omega) | omega) _ | refine Below.alloc ?_ (by first | exact Nat.le_refl _ | exact Below.size (by assumption) | (simp; done) | (simp; omega) | omega) _))) hl).mono ?_
  rintro e w1 ⟨v1, rfl, ho1, hb1⟩
  obtain ⟨A1, c1, rfl⟩ := own_len ho1
  obtain ⟨hc1, hf1⟩ := bcell hb1; have hB1 : Below w.heap.size w w1 := Below.trans (by repeat (first | exact Below.refl _ _ | assumption | refine Below.drew ?_ | refine below_drewN ?_ _ | refine Below.setCell ?_ (by first | exact Nat.le_refl _ | exact Below.size (by assumption) | (simp; done) | (simp; omega) | omega) _ | refine Below.alloc ?_ (by first | exact Nat.le_refl _ | exact Below.size (by assumption) | (simp; done) | (simp; omega) | omega) _)) (hb1.mono (by first | exact Nat.le_refl _ | exact Below.size (by assumption) | (simp; done) | (simp; omega) | omega)); have hz1 := hB1.size; have hy1 := hb1.size; (try simp only [World.size_alloc, World.size_setCell, World.size_drew] at hy1)
  have HO1 := Lib.hid ho1
  clear ho1
  go_wp2_with fail
  refine (toStringS_any _ _ ys _ (by exact Rd.next HY.out (by repeat (first | exact Below.refl _ _ | assumption | refine Below.drew ?_ | refine below_drewN ?_ _ | refine Below.setCell ?_ (by first | exact Nat.le_refl _ | exact Below.size (by assumption) | (simp; done) | (simp; omega) | omega) _ | refine Below.alloc ?_ (by first | exact Nat.le_refl _ | exact Below.size (by assumption) | (simp; done) | (simp; omega) | omega) _))) hl').mono ?_
  rintro e w2 ⟨v2, rfl, ho2, hb2⟩
  obtain ⟨A2, c2, rfl⟩ := own_len ho2
  obtain ⟨hc2, hf2⟩ := bcell hb2; have hB2 : Below w.heap.size w w2 := Below.trans (by repeat (first | exact Below.refl _ _ | assumption | refine Below.drew ?_ | refine below_drewN ?_ _ | refine Below.setCell ?_ (by first | exact Nat.le_refl _ | exact Below.size (by assumption) | (simp; done) | (simp; omega) | omega) _ | refine Below.alloc ?_ (by first | exact Nat.le_refl _ | exact Below.size (by assumption) | (simp; done) | (simp; omega) | omega) _)) (hb2.mono (by first | exact Nat.le_refl _ | exact Below.size (by assumption) | (simp; done) | (simp; omega) | omega)); have hz2 := hB2.size; have hy2 := hb2.size; (try simp only [World.size_alloc, World.size_setCell, World.size_drew] at hy2)
  have HO2 := Lib.hid ho2
  clear ho2
  have hlt2 : w.heap.size + 1 + 1 < w1.heap.size := by omega
  have hlt1 : w.heap.size + 1 < w1.heap.size := by omega
  have hfz : w2.frozen? ⟨w.heap.size + 1 + 1, 5, none⟩ = false := by
    rw [hf2 _ _ (by simp; omega)]
    rw [show (w1.setCell { block := w.heap.size + 1 + 1, off := 4 } (Value.slice A1 xs.length c1)).frozen? ⟨w.heap.size + 1 + 1, 5, none⟩ = w1.frozen? ⟨w.heap.size + 1 + 1, 5, none⟩ from by simp [go_sem], hf1 _ _ (by simp)]
    simp [go_sem]
  go_wp2_with fail
  have k1 := own_below (ownsRow_setCell_below HO1.out (a := ⟨w.heap.size + 1 + 1, 4, none⟩) (by simp) (.slice A1 xs.length c1)) hb2
  have k2 := HO2.out
  simp only [World.size_setCell, World.size_alloc] at k1 k2
  refine bodyPost_ret (v := smtpV h d o f A1 xs.length c1 A2 ys.length c2) ?_ rfl ⟨_, _, _, _, rfl, own_mono (own_set (own_set (own_set (own_set (own_set (own_set (own_set k1 (by omega) _ _) (by omega) _ _) (by omega) _ _) (by omega) _ _) (by omega) _ _) (by omega) _ _) (by omega) _ _) (by omega), own_mono (own_set (own_set (own_set (own_set (own_set (own_set (own_set k2 (by omega) _ _) (by omega) _ _) (by omega) _ _) (by omega) _ _) (by omega) _ _) (by omega) _ _) (by omega) _ _) (by omega), ?_⟩
  · simp [results, Try.results40, go_sem, *]
  · exact (((((((hB2.setCell (p := ⟨w.heap.size + 1 + 1, 5, none⟩) (by show _ ≤ _; simp; try omega) _).setCell (p := ⟨w.heap.size + 1, 0, none⟩) (by show _ ≤ _; simp; try omega) _).setCell (p := ⟨w.heap.size + 1, 1, none⟩) (by show _ ≤ _; simp; try omega) _).setCell (p := ⟨w.heap.size + 1, 2, none⟩) (by show _ ≤ _; simp; try omega) _).setCell (p := ⟨w.heap.size + 1, 3, none⟩) (by show _ ≤ _; simp; try omega) _).setCell (p := ⟨w.heap.size + 1, 4, none⟩) (by show _ ≤ _; simp; try omega) _).setCell (p := ⟨w.heap.size + 1, 5, none⟩) (by show _ ≤ _; simp; try omega) _)
end Go.Proofs.Ytlfnpnkpjdmonaa
