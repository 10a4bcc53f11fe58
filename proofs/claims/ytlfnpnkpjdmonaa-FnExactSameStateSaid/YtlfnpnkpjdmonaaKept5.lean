import Derived.Test.YtlfnpnkpjdmonaaKept4
set_option linter.unusedVariables false
set_option linter.unusedSimpArgs false
namespace Go.Proofs.Ytlfnpnkpjdmonaa
open Go.RowKit

/-! ### a state -/
@[reducible] def stV (A : Option Addr) (n c : Nat) (B : Option Addr) (m d : Nat) : Value := .agg #[.slice A n c, .slice B m d]
set_option maxRecDepth 100000 in
theorem szState_any (A B : Option Addr) (c d : Nat) (ps : List Pr) (ks : List Kp) (left : Int) (w : World) (hx : Rd w w.heap.size A (flat encP ps)) (hy : KRd w w.heap.size B ks) (hl : ps.length ≤ maxLen) (hl' : ks.length ≤ maxLen) (hs : ∀ p ∈ ps, p.1.size ≤ maxLen ∧ p.2.size ≤ maxLen) (hs' : ∀ k ∈ ks, KGood k) (h0 : 0 ≤ left) (h1 : left ≤ 1048576) :
    Calls Try.prog 42 #[stV A ps.length c B ks.length d, .int .i64 left] w fun e w' => ∃ n : Int, e = .returned (.int .i64 n) ∧ n ≤ left ∧ (0 ≤ n → ps.length ≤ 1048576 ∧ ks.length ≤ 1048576 ∧ ∀ k ∈ ks, k.ps.length ≤ 1048576) ∧ Below w.heap.size w w' := by
  have hb1 : Below w.heap.size w (w.alloc (.cells #[.slice A ps.length c, .slice B ks.length d] 56)) := by repeat (first | exact Below.refl _ _ | assumption | refine Below.drew ?_ | refine below_drewN ?_ _ | refine Below.setCell ?_ (by first | exact Nat.le_refl _ | exact Below.size (by assumption) | (simp; done) | (simp; omega) | omega) _ | refine Below.alloc ?_ (by first | exact Nat.le_refl _ | exact Below.size (by assumption) | (simp; done) | (simp; omega) | omega) _)
  have HX := Lib.hid hx
  have HY := Lib.hid hy
  have HS := Lib.hid (And.intro hs hs')
  have HL := Lib.hid (And.intro hl hl')
  have HB := Lib.hid hb1
  clear hx hy hs hs' hb1 hl hl'
  go_enter Try.func42, Try.ntmps42
  go_wp2_with fail
  refine (szPairS_big _ _ ps _ _ (HX.out.next HB.out) HL.out.1 h0 h1 HS.out.1).mono ?_
  rintro e w1 ⟨n, rfl, hn1, hn2, hb1⟩
  obtain ⟨hc1, hf1⟩ := bcell hb1; have hB1 : Below w.heap.size w w1 := Below.trans (by repeat (first | exact Below.refl _ _ | assumption | refine Below.drew ?_ | refine below_drewN ?_ _ | refine Below.setCell ?_ (by first | exact Nat.le_refl _ | exact Below.size (by assumption) | (simp; done) | (simp; omega) | omega) _ | refine Below.alloc ?_ (by first | exact Nat.le_refl _ | exact Below.size (by assumption) | (simp; done) | (simp; omega) | omega) _)) (hb1.mono (by first | exact Nat.le_refl _ | exact Below.size (by assumption) | (simp; done) | (simp; omega) | omega)); have hz1 := hB1.size; have hy1 := hb1.size; (try simp only [World.size_alloc, World.size_setCell, World.size_drew] at hy1)
  have hq1 : w.heap.size < w1.heap.size := by omega
  by_cases hn : n < 0
  · go_wp2
    go_ret
    exact ⟨-1, rfl, by omega, fun h => by omega, hB1⟩
  · have hn3 := hn2 (by omega)
    clear hn2
    go_wp2_with fail
    refine (szKeptS_any _ _ ks _ _ (HY.out.next hB1) HL.out.2 (by omega) (by omega) HS.out.2).mono ?_
    rintro e w2 ⟨m, rfl, hm1, hm2, hb2⟩
    have hB2 := below_after hB1 hb2
    by_cases hm : m < 0
    · clear hm2
      go_wp2
      go_ret
      exact ⟨-1, rfl, by omega, fun h => by omega, hB2⟩
    · have HM := Lib.hid (hm2 (by omega))
      clear hm2
      go_wp2
      go_ret
      exact ⟨m, rfl, by omega, fun _ => ⟨hn3, HM.out⟩, hB2⟩
/-- the state, copied -/
def ToSt (ps : List Pr) (ks : List Kp) (w : World) (e : Ending) (w' : World) : Prop :=
  ∃ (A B : Option Addr) (c d : Nat) (ys : List Kp), e = .returned (stV A ps.length c B ys.length d) ∧ ys.map Kp.data = ks.map Kp.data ∧ w'.ownsRow w.heap.size 82 2 (.slice A ps.length c) ps.length (flat encP ps) ∧ KOwn w' w.heap.size B d ys ∧ Below w.heap.size w w'
set_option maxRecDepth 100000 in
theorem toState_any (A B : Option Addr) (c d : Nat) (ps : List Pr) (ks : List Kp) (w : World) (hx : Rd w w.heap.size A (flat encP ps)) (hy : KRd w w.heap.size B ks) (hl : ps.length ≤ 1048576) (hl' : ks.length ≤ 1048576) (hs : ∀ k ∈ ks, k.ps.length ≤ 1048576) :
    Calls Try.prog 44 #[stV A ps.length c B ks.length d] w (ToSt ps ks w) := by
  have HX := Lib.hid hx
  have HY := Lib.hid hy
  have HS := Lib.hid hs
  clear hx hy hs
  go_enter Try.func44, Try.ntmps44
  go_wp2_with fail
  refine (toPairS_any _ _ ps _ (by exact Rd.next HX.out (by repeat (first | exact Below.refl _ _ | assumption | refine Below.drew ?_ | refine below_drewN ?_ _ | refine Below.setCell ?_ (by first | exact Nat.le_refl _ | exact Below.size (by assumption) | (simp; done) | (simp; omega) | omega) _ | refine Below.alloc ?_ (by first | exact Nat.le_refl _ | exact Below.size (by assumption) | (simp; done) | (simp; omega) | omega) _))) hl).mono ?_
  rintro e w1 ⟨v1, rfl, ho1, hb1⟩
  obtain ⟨A1, c1, rfl, _⟩ := own_form ho1
  obtain ⟨hc1, hf1⟩ := bcell hb1; have hB1 : Below w.heap.size w w1 := Below.trans (by repeat (first | exact Below.refl _ _ | assumption | refine Below.drew ?_ | refine below_drewN ?_ _ | refine Below.setCell ?_ (by first | exact Nat.le_refl _ | exact Below.size (by assumption) | (simp; done) | (simp; omega) | omega) _ | refine Below.alloc ?_ (by first | exact Nat.le_refl _ | exact Below.size (by assumption) | (simp; done) | (simp; omega) | omega) _)) (hb1.mono (by first | exact Nat.le_refl _ | exact Below.size (by assumption) | (simp; done) | (simp; omega) | omega)); have hz1 := hB1.size; have hy1 := hb1.size; (try simp only [World.size_alloc, World.size_setCell, World.size_drew] at hy1)
  have HO1 := Lib.hid ho1
  clear ho1
  go_wp2_with fail
  refine (toKeptS_any _ _ ks _ (HY.out.next (by repeat (first | exact Below.refl _ _ | assumption | refine Below.drew ?_ | refine below_drewN ?_ _ | refine Below.setCell ?_ (by first | exact Nat.le_refl _ | exact Below.size (by assumption) | (simp; done) | (simp; omega) | omega) _ | refine Below.alloc ?_ (by first | exact Nat.le_refl _ | exact Below.size (by assumption) | (simp; done) | (simp; omega) | omega) _))) hl' HS.out).mono ?_
  rintro e w2 ⟨A2, c2, ys, rfl, hd, ho2, hb2⟩
  obtain ⟨hc2, hf2⟩ := bcell hb2; have hB2 : Below w.heap.size w w2 := Below.trans (by repeat (first | exact Below.refl _ _ | assumption | refine Below.drew ?_ | refine below_drewN ?_ _ | refine Below.setCell ?_ (by first | exact Nat.le_refl _ | exact Below.size (by assumption) | (simp; done) | (simp; omega) | omega) _ | refine Below.alloc ?_ (by first | exact Nat.le_refl _ | exact Below.size (by assumption) | (simp; done) | (simp; omega) | omega) _)) (hb2.mono (by first | exact Nat.le_refl _ | exact Below.size (by assumption) | (simp; done) | (simp; omega) | omega)); have hz2 := hB2.size; have hy2 := hb2.size; (try simp only [World.size_alloc, World.size_setCell, World.size_drew] at hy2)
  have hyl := tks_len hd
  rw [← hyl]
  have HO2 := Lib.hid (And.intro ho2 hd)
  clear ho2 hd hyl
  have hlt2 : w.heap.size + 1 + 1 < w1.heap.size := by omega
  have hlt1 : w.heap.size + 1 < w1.heap.size := by omega
  have hlt0 : w.heap.size < w1.heap.size := by omega
  have hfz : w2.frozen? ⟨w.heap.size + 1 + 1, 1, none⟩ = false := by
    rw [hf2 _ _ (by simp; omega)]
    rw [show (w1.setCell { block := w.heap.size + 1 + 1, off := 0 } (Value.slice A1 ps.length c1)).frozen? ⟨w.heap.size + 1 + 1, 1, none⟩ = w1.frozen? ⟨w.heap.size + 1 + 1, 1, none⟩ from by simp [go_sem], hf1 _ _ (by simp)]
    simp [go_sem]
  go_wp2_with fail
  have k1 := own_below (ownsRow_setCell_below HO1.out (a := ⟨w.heap.size + 1 + 1, 0, none⟩) (by simp) (.slice A1 ps.length c1)) hb2
  have k2 := HO2.out.1
  simp only [World.size_setCell, World.size_alloc] at k1 k2
  refine bodyPost_ret (v := stV A1 ps.length c1 A2 ys.length c2) ?_ rfl ⟨_, _, _, _, _, rfl, HO2.out.2, ?_, ?_, ?_⟩
  · simp [results, Try.results44, go_sem, *]
  · refine own_mono (base := w.heap.size + 1 + 1 + 1) ?_ (by omega)
    repeat (first | (with_reducible refine ownSet ?_ (by omega) _ _) | with_reducible exact k1)
  · refine KOwn.mono (base := w1.heap.size) ?_ (by omega)
    repeat (first | (with_reducible refine KOwn.set ?_ (by omega) _ _) | with_reducible exact k2)
  · exact (((hB2.setCell (p := ⟨w.heap.size + 1 + 1, 1, none⟩) (by show _ ≤ _; simp; try omega) _).setCell (p := ⟨w.heap.size + 1, 0, none⟩) (by show _ ≤ _; simp; try omega) _).setCell (p := ⟨w.heap.size + 1, 1, none⟩) (by show _ ≤ _; simp; try omega) _)
set_option maxRecDepth 100000 in
theorem eqState_eq (A B A' B' : Option Addr) (c d c' d' : Nat) (ps : List Pr) (ks ks' : List Kp) (w : World) (hd : ks.map Kp.data = ks'.map Kp.data) (hx : Rd w w.heap.size A (flat encP ps)) (hy : KRd w w.heap.size B ks) (hx' : Rd w w.heap.size A' (flat encP ps)) (hy' : KRd w w.heap.size B' ks') (hl : ps.length ≤ 1048576) (hl' : ks.length ≤ 1048576) (hs : ∀ k ∈ ks, k.ps.length ≤ 1048576) :
    Calls Try.prog 46 #[stV A ps.length c B ks.length d, stV A' ps.length c' B' ks'.length d'] w fun e w' => e = .returned (.bool true) ∧ Below w.heap.size w w' := by
  have HX := Lib.hid (And.intro hx hx')
  have HY := Lib.hid (And.intro hy hy')
  have hlen : ks.length = ks'.length := by simpa using congrArg List.length hd
  rw [← hlen]
  have HS := Lib.hid (And.intro hs (And.intro hd hlen))
  clear hx hy hs hx' hy' hd hlen
  go_enter Try.func46, Try.ntmps46
  go_wp2_with fail
  refine (eqPairS_eq _ _ _ _ ps _ (HX.out.1.next (by repeat (first | exact Below.refl _ _ | assumption | refine Below.drew ?_ | refine below_drewN ?_ _ | refine Below.setCell ?_ (by first | exact Nat.le_refl _ | exact Below.size (by assumption) | (simp; done) | (simp; omega) | omega) _ | refine Below.alloc ?_ (by first | exact Nat.le_refl _ | exact Below.size (by assumption) | (simp; done) | (simp; omega) | omega) _))) (HX.out.2.next (by repeat (first | exact Below.refl _ _ | assumption | refine Below.drew ?_ | refine below_drewN ?_ _ | refine Below.setCell ?_ (by first | exact Nat.le_refl _ | exact Below.size (by assumption) | (simp; done) | (simp; omega) | omega) _ | refine Below.alloc ?_ (by first | exact Nat.le_refl _ | exact Below.size (by assumption) | (simp; done) | (simp; omega) | omega) _))) (by simp only [maxLen]; omega)).mono ?_
  rintro e w1 ⟨rfl, hb1⟩
  obtain ⟨hc1, hf1⟩ := bcell hb1; have hB1 : Below w.heap.size w w1 := Below.trans (by repeat (first | exact Below.refl _ _ | assumption | refine Below.drew ?_ | refine below_drewN ?_ _ | refine Below.setCell ?_ (by first | exact Nat.le_refl _ | exact Below.size (by assumption) | (simp; done) | (simp; omega) | omega) _ | refine Below.alloc ?_ (by first | exact Nat.le_refl _ | exact Below.size (by assumption) | (simp; done) | (simp; omega) | omega) _)) (hb1.mono (by first | exact Nat.le_refl _ | exact Below.size (by assumption) | (simp; done) | (simp; omega) | omega)); have hz1 := hB1.size; have hy1 := hb1.size; (try simp only [World.size_alloc, World.size_setCell, World.size_drew] at hy1)
  have hlt1 : w.heap.size + 1 < w1.heap.size := by omega
  have hlt0 : w.heap.size < w1.heap.size := by omega
  go_wp2_with fail
  refine (eqKeptS_eq _ _ _ _ _ ks ks' rfl HS.out.2.2 _ (HY.out.1.next (by repeat (first | exact Below.refl _ _ | assumption | refine Below.drew ?_ | refine below_drewN ?_ _ | refine Below.setCell ?_ (by first | exact Nat.le_refl _ | exact Below.size (by assumption) | (simp; done) | (simp; omega) | omega) _ | refine Below.alloc ?_ (by first | exact Nat.le_refl _ | exact Below.size (by assumption) | (simp; done) | (simp; omega) | omega) _))) (HY.out.2.next (by repeat (first | exact Below.refl _ _ | assumption | refine Below.drew ?_ | refine below_drewN ?_ _ | refine Below.setCell ?_ (by first | exact Nat.le_refl _ | exact Below.size (by assumption) | (simp; done) | (simp; omega) | omega) _ | refine Below.alloc ?_ (by first | exact Nat.le_refl _ | exact Below.size (by assumption) | (simp; done) | (simp; omega) | omega) _))) HS.out.2.1 (by simp only [maxLen]; omega) (fun k hk => by have := HS.out.1 k hk; simp only [maxLen]; omega)).mono ?_
  rintro e w2 ⟨rfl, hb2⟩
  obtain ⟨hc2, hf2⟩ := bcell hb2; have hB2 : Below w.heap.size w w2 := Below.trans (by repeat (first | exact Below.refl _ _ | assumption | refine Below.drew ?_ | refine below_drewN ?_ _ | refine Below.setCell ?_ (by first | exact Nat.le_refl _ | exact Below.size (by assumption) | (simp; done) | (simp; omega) | omega) _ | refine Below.alloc ?_ (by first | exact Nat.le_refl _ | exact Below.size (by assumption) | (simp; done) | (simp; omega) | omega) _)) (hb2.mono (by first | exact Nat.le_refl _ | exact Below.size (by assumption) | (simp; done) | (simp; omega) | omega)); have hz2 := hB2.size; have hy2 := hb2.size; (try simp only [World.size_alloc, World.size_setCell, World.size_drew] at hy2)
  go_wp2_with fail
  go_ret
  exact ⟨rfl, hB2⟩
end Go.Proofs.Ytlfnpnkpjdmonaa
