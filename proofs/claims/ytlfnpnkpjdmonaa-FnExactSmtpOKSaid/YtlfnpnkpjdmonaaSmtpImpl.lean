import Derived.Test.YtlfnpnkpjdmonaaSmtpOK
set_option linter.unusedVariables false
set_option linter.unusedSimpArgs false
namespace Go.Proofs.Ytlfnpnkpjdmonaa
open Go.RowKit

/-- An address of the plain kind. -/
def PlainA (A : Option Addr) : Prop := ∀ ad, A = some ad → ∃ b o, ad = ⟨b, o, none⟩
theorem plain_own {w : World} {base : Nat} {e : TypeId} {size n m c : Nat} {A : Option Addr} {xs : List Value} (h : w.ownsRow base e size (.slice A m c) n xs) : PlainA A := by
  intro ad hA
  rcases h.2 with ⟨hv, _⟩ | ⟨g, cap, cur, hv, _⟩
  · injection hv with hA' _ _
    rw [hA] at hA'
    cases hA'
  · injection hv with hA' _ _
    rw [hA] at hA'
    exact ⟨g, 0, Option.some.inj hA'⟩
theorem rd_cells {w : World} {B b o : Nat} {xs : List ByteArray} (h : Rd w B (some ⟨b, o, none⟩) (xs.map Value.string)) : ∀ j, j < xs.length → w.cell? ⟨b, o + j, none⟩ = some (.string (xs.getD j ByteArray.empty)) := by
  intro j hj
  obtain ⟨ad, e, _, hc⟩ := h.at_ (map_at hj)
  cases e
  rw [List.getD_eq_getElem?_getD, List.getElem?_eq_getElem hj]
  rw [← show (⟨b, o, none⟩ : Addr).add j = ⟨b, o + j, none⟩ from by
    unfold Addr.add
    by_cases h0 : j = 0
    · subst h0; simp
    · simp [h0]]
  exact hc
theorem shortName_r (s : ByteArray) (r : Bool) (hr : shortB s.data.toList = r) (w : World) (hs : s.size ≤ maxLen) :
    Calls Try.prog 103 #[.string s] w fun e w' => e = .returned (.bool r) ∧ w = w' := by
  subst hr; exact shortName_any s w hs
def implQ (h o : Bool) (f : ByteArray) : Bool := decide (f.data.toList = []) || (shortB f.data.toList && h && o)
set_option maxRecDepth 100000 in
set_option maxHeartbeats 4000000 in
theorem implSmtpOK_any (h d o : Bool) (f : ByteArray) (A B : Option Addr) (c b : Nat) (xs ys : List ByteArray) (w : World) (hx : Rd w w.heap.size A (xs.map Value.string)) (hp : PlainA A) (hy : Rd w w.heap.size B (ys.map Value.string)) (hf : f.size ≤ maxLen) (hl : xs.length ≤ 17592186044416) (hc : xs.length ≤ c) (hl' : ys.length ≤ 17592186044416) (hs : ∀ s ∈ xs, s.size ≤ maxLen) (hs' : ∀ s ∈ ys, s.size ≤ maxLen) :
    Calls Try.prog 41 #[smtpV h d o f A xs.length c B ys.length b] w fun e w' => e = .returned (.bool (smtpB h d o f xs ys)) ∧ Below w.heap.size w w' := by
  generalize hr : smtpB h d o f xs ys = r
  have HR := Lib.hid hr
  have hb1 : Below w.heap.size w (w.alloc (.cells #[.bool h, .bool d, .bool o, .string f, .slice A xs.length c, .slice B ys.length b] 31)) := (Below.refl _ _).alloc (Nat.le_refl _) _
  have HX := Lib.hid (hx.below hb1)
  have HY := Lib.hid (hy.next hb1)
  have HS := Lib.hid hs
  have HS' := Lib.hid hs'
  have HPA := Lib.hid hp
  clear hr hx hy hs hs' hp hb1
  go_enter Try.func41, Try.ntmps41
  go_wp2_with (go_at_call 103; refine (shortName_any _ _ hf).mono ?_; rintro e w' ⟨rfl, rfl⟩)
  all_goals (try (
    go_ret
    refine ⟨congrArg (fun b => Ending.returned (.bool b)) ?_, (by repeat (first | exact Below.refl _ _ | assumption | refine Below.drew ?_ | refine below_drewN ?_ _ | refine Below.setCell ?_ (by first | exact Nat.le_refl _ | exact Below.size (by assumption) | (simp; done) | (simp; omega) | omega) _ | refine Below.alloc ?_ (by first | exact Nat.le_refl _ | exact Below.size (by assumption) | (simp; done) | (simp; omega) | omega) _))⟩
    have hr := HR.out
    clear HR HX HY HS HS' HPA
    clear hl hl' hf hc
    try (
      rename (∀ (a : Act) (w : World), Code.wp _ _ _ a w → _) => hK
      clear hK)
    try (
      rename (Exit → Act → World → Prop) => Q
      clear Q)
    try simp only [ByteArray.toList_eq] at *
    unfold smtpB preB at hr
    generalize f.data.toList = F at *
    generalize ys.any longB = Y at *
    generalize rcTo xs xs.length = X at *
    generalize xs.length = n at *
    generalize ys.length = m at *
    subst hr
    grind))
  all_goals (try (rename ((!_) = false) => hh; exfalso; simp at hh; contradiction))
  all_goals (
    have hp : implQ h o f = true := by
      clear HR HX HY HS HS' HPA
      clear hl hl' hf hc
      try simp only [ByteArray.toList_eq] at *
      unfold implQ
      generalize f.data.toList = F at *
      grind)
  all_goals (try (have hd : h = true := (by assumption); subst hd))
  all_goals (
    have HP := KeepP.mk hp
    have HL := KeepP.mk (And.intro hf (And.intro hl (And.intro hl' hc)))
    have HR := KeepP.mk HR.out
    have HX := KeepP.mk HX.out
    have HY := KeepP.mk HY.out
    have HS := KeepP.mk HS.out
    have HS' := KeepP.mk HS'.out
    have HPA := KeepP.mk HPA.out
    clear hp hl hl' hf hc
    repeat (first | (rename (_ ≤ _) => hh; clear hh) | (rename (¬ _) => hh; clear hh) | (rename (_ < _) => hh; clear hh) | (rename (_ = _) => hh; clear hh) | (rename (_ ∧ _) => hh; clear hh) | (rename (_ ∨ _) => hh; clear hh))
    obtain ⟨hf, hl, hl', hc⟩ := HL.out
    go_loop [27] (fun i => ∃ k : Nat, k ≤ xs.length ∧ i = .int .i64 k ∧ rcTo xs k = true) (fun i => xs.length - (intOf i).toNat)
    case atStart => exact ⟨0, Nat.zero_le _, rfl, rfl⟩
    case round =>
      obtain ⟨k, hk, rfl, hto⟩ := hrel
      have HA := Lib.hid hto
      clear hto
      by_cases hlt : k < xs.length
      · obtain ⟨ad, rfl, _, _⟩ := HX.out.at_ (map_at hlt)
        obtain ⟨ab, ao, rfl⟩ := HPA.out ad rfl
        have HC := Lib.hid (rd_cells HX.out)
        have hca := HC.out k hlt
        rw [List.getD_eq_getElem?_getD, List.getElem?_eq_getElem hlt, Option.getD_some] at hca
        have hsz := HS.out xs[k] (List.getElem_mem _)
        cases hn : shortB xs[k].data.toList with
        | false =>
          have HN := Lib.hid hn
          clear hn
          go_wp2_with (go_at_call 103; refine (shortName_r _ _ HN.out _ hsz).mono ?_; rintro e w' ⟨rfl, rfl⟩)
          go_ret
          exact ⟨congrArg (fun b => Ending.returned (.bool b)) (by rw [← HR.out, smtpB, rcTo_false xs k _ hlt (by rw [rcOne, List.getElem?_eq_getElem hlt]; simp [HN.out])]; simp), (by repeat (first | exact Below.refl _ _ | assumption | refine Below.drew ?_ | refine below_drewN ?_ _ | refine Below.setCell ?_ (by first | exact Nat.le_refl _ | exact Below.size (by assumption) | (simp; done) | (simp; omega) | omega) _ | refine Below.alloc ?_ (by first | exact Nat.le_refl _ | exact Below.size (by assumption) | (simp; done) | (simp; omega) | omega) _))⟩
        | true =>
          have HN := Lib.hid hn
          clear hn
          cases hkk : Lib.containsS (xs.take k) xs[k] with
          | true =>
            have HK := Lib.hid hkk
            clear hkk
            go_wp2_with (first | (go_at_call 103; refine (shortName_r _ _ HN.out _ hsz).mono ?_; rintro e w' ⟨rfl, rfl⟩) | (go_at_call 111; refine (Try.slices_Contains_string _ _ k _ xs _ _ (by omega) (by omega) HC.out).mono ?_; rw [HK.out]; rintro e w' ⟨rfl, hw⟩; subst hw))
            go_ret
            exact ⟨congrArg (fun b => Ending.returned (.bool b)) (by rw [← HR.out, smtpB, rcTo_false xs k _ hlt (by rw [rcOne, List.getElem?_eq_getElem hlt]; simp [HK.out])]; simp), (by repeat (first | exact Below.refl _ _ | assumption | refine Below.drew ?_ | refine below_drewN ?_ _ | refine Below.setCell ?_ (by first | exact Nat.le_refl _ | exact Below.size (by assumption) | (simp; done) | (simp; omega) | omega) _ | refine Below.alloc ?_ (by first | exact Nat.le_refl _ | exact Below.size (by assumption) | (simp; done) | (simp; omega) | omega) _))⟩
          | false =>
            have HK := Lib.hid hkk
            clear hkk
            go_wp2_with (first | (go_at_call 103; refine (shortName_r _ _ HN.out _ hsz).mono ?_; rintro e w' ⟨rfl, rfl⟩) | (go_at_call 111; refine (Try.slices_Contains_string _ _ k _ xs _ _ (by omega) (by omega) HC.out).mono ?_; rw [HK.out]; rintro e w' ⟨rfl, hw⟩; subst hw))
            go_round
            case rel => exact ⟨k + 1, by omega, by go_num, by rw [rcTo_succ, HA.out, rcOne, List.getElem?_eq_getElem hlt]; simp [HN.out, HK.out]⟩
            case measure => simp [intOf]; omega
      · have hall : rcTo xs xs.length = true := by rw [← HA.out, show k = xs.length by omega]
        have HA' := Lib.hid hall
        clear hall HA
        cases d
        all_goals go_wp2_with (go_at_call 112; go_loud (refine (containsLong_any _ _ ys _ HY.out hl' HS'.out).mono ?_); rintro e w' ⟨rfl, rfl⟩)
        all_goals
          go_ret
          refine ⟨congrArg (fun b => Ending.returned (.bool b)) ?_, (by repeat (first | exact Below.refl _ _ | assumption | refine Below.drew ?_ | refine below_drewN ?_ _ | refine Below.setCell ?_ (by first | exact Nat.le_refl _ | exact Below.size (by assumption) | (simp; done) | (simp; omega) | omega) _ | refine Below.alloc ?_ (by first | exact Nat.le_refl _ | exact Below.size (by assumption) | (simp; done) | (simp; omega) | omega) _))⟩
          have hr := HR.out
          have ha := HA'.out
          have hq := HP.out
          clear HR HX HY HS HS' HPA HA' HP HL
          clear hl hl' hf hc
          try (
            rename (∀ (a : Act) (w : World), Code.wp _ _ _ a w → _) => hK
            clear hK)
          try (
            rename (Exit → Act → World → Prop) => Q
            clear Q)
          try simp only [ByteArray.toList_eq, ← List.length_eq_zero_iff (l := xs), ← List.length_eq_zero_iff (l := ys), List.isEmpty_iff] at *
          unfold smtpB preB at hr
          unfold implQ at hq
          generalize f.data.toList = F at *
          generalize ys.any longB = Y at *
          generalize rcTo xs xs.length = X at *
          generalize xs.length = n at *
          generalize ys.length = m at *
          subst hr
          grind)
end Go.Proofs.Ytlfnpnkpjdmonaa
