import Derived.Test.YtlfnpnkpjdmonaaSmtp0
import Derived.Test.YtlfnpnkpjdmonaaShelf
import Derived.Deep.QuietTactic
import Derived.BigQuiet
set_option linter.unusedVariables false
set_option linter.unusedSimpArgs false
namespace Go.Proofs.Ytlfnpnkpjdmonaa
open Go.RowKit

/-! ### is a session that takes mail right? -/
def longB (s : ByteArray) : Bool := decide (60 < s.size)
theorem long_any (s : ByteArray) (w : World) (hs : s.size ≤ maxLen) : Calls Try.prog 113 #[.string s] w fun e w' => e = .returned (.bool (longB s)) ∧ w = w' := by
  unfold maxLen at hs
  go_enter Try.func113, Try.ntmps113
  go_wp2
  go_ret
  exact ⟨ret_b (by simp [longB]; omega), rfl⟩
theorem any_take_succ {α : Type} (p : α → Bool) {xs : List α} {k : Nat} (h : k < xs.length) : (xs.take (k + 1)).any p = ((xs.take k).any p || p xs[k]) := by
  rw [List.take_succ_eq_append_getElem h, List.any_append]; simp
theorem any_at {α : Type} (p : α → Bool) {xs : List α} {k : Nat} (h : k < xs.length) (hp : p xs[k] = true) : xs.any p = true := by
  rw [List.any_eq_true]; exact ⟨_, List.getElem_mem _, hp⟩
def IdxPost (xs : List ByteArray) (w : World) (e : Ending) (w' : World) : Prop := ∃ n : Int, e = .returned (.int .i64 n) ∧ decide (0 ≤ n) = xs.any longB ∧ w = w'
set_option maxRecDepth 100000 in
theorem idxLong_any (A : Option Addr) (c : Nat) (xs : List ByteArray) (w : World) (hx : Rd w w.heap.size A (xs.map Value.string)) (hl : xs.length ≤ 17592186044416) (hs : ∀ s ∈ xs, s.size ≤ maxLen) :
    Calls Try.prog 188 #[.slice A xs.length c, .func (.func 113) #[] #[]] w (IdxPost xs w) := by
  have HX := Lib.hid hx
  have HS := Lib.hid hs
  clear hx hs
  go_enter Try.func188, Try.ntmps188
  go_wp2
  go_loop [8] (fun i => ∃ k : Nat, k ≤ xs.length ∧ i = .int .i64 k ∧ (xs.take k).any longB = false) (fun i => xs.length - (intOf i).toNat)
  case atStart => exact ⟨0, Nat.zero_le _, rfl, rfl⟩
  case round =>
    obtain ⟨k, hk, rfl, hall⟩ := hrel
    have HA := Lib.hid hall
    clear hall
    by_cases hlt : k < xs.length
    · obtain ⟨ad, rfl, _, hca⟩ := HX.out.at_ (map_at hlt)
      have hsz := HS.out xs[k] (List.getElem_mem _)
      cases hb : longB xs[k] with
      | true =>
        go_wp2_with (go_at_call 113; refine (long_any _ _ hsz).mono ?_; rintro e w' ⟨rfl, rfl⟩)
        go_ret
        exact ⟨_, rfl, by rw [any_at longB hlt hb]; simp, rfl⟩
      | false =>
        go_wp2_with (go_at_call 113; refine (long_any _ _ hsz).mono ?_; rintro e w' ⟨rfl, rfl⟩)
        go_round
        case rel => exact ⟨k + 1, by omega, by go_num, by rw [any_take_succ longB hlt, HA.out, hb]; rfl⟩
        case measure => simp [intOf]; omega
    · go_wp2
      go_ret
      exact ⟨-1, rfl, by have := HA.out; rw [List.take_of_length_le (by omega)] at this; rw [this]; rfl, rfl⟩
theorem containsLong_any (A : Option Addr) (c : Nat) (xs : List ByteArray) (w : World) (hx : Rd w w.heap.size A (xs.map Value.string)) (hl : xs.length ≤ 17592186044416) (hs : ∀ s ∈ xs, s.size ≤ maxLen) :
    Calls Try.prog 112 #[.slice A xs.length c, .func (.func 113) #[] #[]] w fun e w' => e = .returned (.bool (xs.any longB)) ∧ w = w' := by
  have HC := Lib.hid (idxLong_any A c xs w hx hl hs)
  clear hx hs
  go_enter Try.func112, Try.ntmps112
  go_wp2_with fail
  refine HC.out.mono ?_
  rintro e w' ⟨n, rfl, hn, rfl⟩
  have HN := Lib.hid hn
  clear hn
  go_wp2
  go_ret
  exact ⟨ret_b (by rw [← HN.out]), rfl⟩

/-- A fact that nothing looks into. -/
structure KeepP (p : Prop) : Prop where
  out : p
/-- Each receiver so far has a short name, and stands nowhere ahead of itself. -/
def rcTo (xs : List ByteArray) (k : Nat) : Bool := (List.range k).all fun i => (xs[i]?.any fun x => shortB x.data.toList) && (xs[i]?.any fun x => !Lib.containsS (xs.take i) x)
def rcOne (xs : List ByteArray) (k : Nat) : Bool := (xs[k]?.any fun x => shortB x.data.toList) && (xs[k]?.any fun x => !Lib.containsS (xs.take k) x)
def preB (h d : Bool) (f : ByteArray) (n m : Nat) : Bool :=
  (decide (f.data.toList = []) || (shortB f.data.toList && h)) && decide (n ≤ 2) && (decide (n = 0) || !decide (f.data.toList = [])) && (!d || !decide (n = 0)) && (d || decide (m = 0)) && decide (m ≤ 9)
def smtpB (h d o : Bool) (f : ByteArray) (xs ys : List ByteArray) : Bool :=
  preB h d f xs.length ys.length && rcTo xs xs.length && !ys.any longB && (o || decide (f.data.toList = []))
theorem preB_le {h d : Bool} {f : ByteArray} {n m : Nat} (hp : preB h d f n m = true) : n ≤ 2 := by
  unfold preB at hp
  simp only [Bool.and_eq_true, decide_eq_true_eq] at hp
  exact hp.1.1.1.1.2
theorem rcTo_succ (xs : List ByteArray) (k : Nat) : rcTo xs (k + 1) = (rcTo xs k && rcOne xs k) := by
  rw [rcTo, List.range_succ, List.all_append]; simp [rcTo, rcOne]
theorem rcTo_false (xs : List ByteArray) (k n : Nat) (h : k < n) (hf : rcOne xs k = false) : rcTo xs n = false := by
  rw [rcTo, List.all_eq_false]
  exact ⟨k, by simpa using h, by rw [rcOne] at hf; simp [hf]⟩
theorem l04Name_r (s : ByteArray) (r : Bool) (hr : shortB s.data.toList = r) (w : World) (hs : s.size ≤ maxLen) :
    Calls Try.prog 102 #[.string s] w fun e w' => e = .returned (.bool r) ∧ w' = w := by
  subst hr; exact (l04Name_any s w hs).mono fun _ _ ⟨h, e⟩ => ⟨h, e.symm⟩

/-- The reference's first loop, told as what its round does. -/
theorem specRcpts_step (xs : List ByteArray) (k : Nat) (h : k < xs.length) (h2 : xs.length ≤ 2) (hn : shortB xs[k].data.toList = true) (h0 : 0 < k → (xs[k].toList == xs[0].toList) = false) : rcOne xs k = true := by
  rw [rcOne]
  rw [List.getElem?_eq_getElem h]
  simp only [Option.any_some, hn, Bool.true_and]
  rcases Nat.lt_or_ge 0 k with hk | hk
  · obtain rfl : k = 1 := by omega
    have := h0 (by omega)
    cases e : Lib.containsS (xs.take 1) xs[1] with
    | false => rfl
    | true =>
    rw [Lib.containsS_iff] at e
    have hm := e
    have hm' : xs[1] = xs[0] := by
      have e : xs.take 1 = [xs[0]] := by rw [List.take_succ_eq_append_getElem (by omega)]; simp
      rw [e] at hm
      simpa using hm
    rw [hm'] at this
    simp at this
  · obtain rfl : k = 0 := by omega
    rw [List.take_zero]
    cases e : Lib.containsS [] xs[0] with
    | false => rfl
    | true => rw [Lib.containsS_iff] at e; simp at e

theorem specRcpts_bad (xs : List ByteArray) (k : Nat) (h : k < xs.length) (h0 : 0 < k) (he : (xs[k].toList == xs[0].toList) = true) : rcOne xs k = false := by
  have e : xs[k] = xs[0] := bytes_of_eq he
  have hm : Lib.containsS (xs.take k) xs[k] = true := by
    rw [Lib.containsS_iff, e, List.mem_take_iff_getElem]
    exact ⟨0, by omega, rfl⟩
  rw [rcOne, List.getElem?_eq_getElem h]
  simp [hm]
theorem quiet_add_same {P : Program} {f : FuncId} {args : Array Value} {w : World} {a n : Nat} {v : Value}
    (h : Calls P f args (w.drewN (a + n)) fun e w' => e = .returned v ∧ w' = w.drewN (a + n)) :
    Calls P f args (w.drewN (a + n)) fun e w'' => e = .returned v ∧ ∃ m, w'' = w.drewN (a + m) :=
  h.mono fun _ _ ⟨he, hw⟩ => ⟨he, n, hw⟩
set_option maxRecDepth 100000 in
set_option maxHeartbeats 4000000 in
theorem specSmtpOK_any (h d o : Bool) (f : ByteArray) (A B : Option Addr) (c b : Nat) (xs ys : List ByteArray) (w : World) (hx : Rd w w.heap.size A (xs.map Value.string)) (hy : Rd w w.heap.size B (ys.map Value.string)) (hf : f.size ≤ maxLen) (hl : xs.length ≤ 17592186044416) (hl' : ys.length ≤ 17592186044416) (hs : ∀ s ∈ xs, s.size ≤ maxLen) (hs' : ∀ s ∈ ys, s.size ≤ maxLen) :
    Calls Try.prog 39 #[smtpV h d o f A xs.length c B ys.length b] w fun e w' => e = .returned (.bool (smtpB h d o f xs ys)) ∧ Below w.heap.size w w' := by
  generalize hr : smtpB h d o f xs ys = r
  have HR := Lib.hid hr
  have HX := Lib.hid (hx.below ((Below.refl _ _).alloc (Nat.le_refl _) (.cells #[.bool h, .bool d, .bool o, .string f, .slice A xs.length c, .slice B ys.length b] 31)))
  have HY := Lib.hid (hy.below ((Below.refl _ _).alloc (Nat.le_refl _) (.cells #[.bool h, .bool d, .bool o, .string f, .slice A xs.length c, .slice B ys.length b] 31)))
  have HS := Lib.hid hs
  have HS' := Lib.hid hs'
  clear hr hx hy hs hs'
  go_enter Try.func39, Try.ntmps39
  go_wp2_with (go_at_call 102; refine (l04Name_any _ _ hf).mono ?_; rintro e w' ⟨rfl, rfl⟩)
  all_goals (try (
    go_ret
    try (
      rename (∀ (a : Act) (w : World), Code.wp _ _ _ a w → _) => hK
      clear hK)
    refine ⟨congrArg (fun b => Ending.returned (.bool b)) ?_, (by repeat (first | exact Below.refl _ _ | assumption | refine Below.drew ?_ | refine below_drewN ?_ _ | refine Below.setCell ?_ (by first | exact Nat.le_refl _ | exact Below.size (by assumption) | (simp; done) | (simp; omega) | omega) _ | refine Below.alloc ?_ (by first | exact Nat.le_refl _ | exact Below.size (by assumption) | (simp; done) | (simp; omega) | omega) _))⟩
    have hr := HR.out
    clear HR HX HY HS HS'
    clear hl hl' hf
    try (
      rename (Exit → Act → World → Prop) => Q
      clear Q)
    try simp only [ByteArray.toList_eq, ← List.length_eq_zero_iff (l := xs), ← List.length_eq_zero_iff (l := ys), List.isEmpty_iff] at *
    unfold smtpB preB at hr
    generalize f.data.toList = F at *
    generalize ys.any longB = Y at *
    generalize rcTo xs xs.length = X at *
    generalize xs.length = n at *
    generalize ys.length = m at *
    subst hr
    grind))
  all_goals (try (exfalso; simp only [← List.length_eq_zero_iff (l := xs)] at *; omega))
  all_goals (
    have hp : preB h d f xs.length ys.length = true := by
      clear HR HX HY HS HS'
      clear hl hl' hf
      simp only [ByteArray.toList_eq, ← List.length_eq_zero_iff (l := xs), ← List.length_eq_zero_iff (l := ys), List.isEmpty_iff] at *
      unfold preB
      generalize f.data.toList = F at *
      generalize xs.length = n at *
      generalize ys.length = m at *
      grind)
  all_goals (try (have hd : d = false := (by simpa using (show ¬ d = true by assumption)); subst hd))
  all_goals (try (have hd : d = true := (by assumption); subst hd))
  all_goals (try (have hd : h = true := (by assumption); subst hd))
  all_goals (
    have HH2 := KeepP.mk (preB_le hp)
    have HP := KeepP.mk hp
    have HL := KeepP.mk (And.intro hf (And.intro hl hl'))
    have HR := KeepP.mk HR.out
    clear hp hl hl' hf
    repeat (first | (rename (_ ≤ _) => hh; clear hh) | (rename (¬ _) => hh; clear hh) | (rename (_ < _) => hh; clear hh) | (rename (_ = _) => hh; clear hh) | (rename (_ ∧ _) => hh; clear hh))
    obtain ⟨hf, hl, hl'⟩ := HL.out
    go_loopw [3] (fun i wr => ∃ k q : Nat, k ≤ xs.length ∧ i = .int .i64 k ∧ rcTo xs k = true ∧ wr = (w.alloc (.cells #[.bool _, .bool _, .bool o, .string f, .slice A xs.length c, .slice B ys.length b] 31)).drewN q) (fun i _ => xs.length - (intOf i).toNat)
    case atStart => exact ⟨0, 0, Nat.zero_le _, rfl, rfl, rfl⟩
    case round =>
      obtain ⟨k, q, hk, rfl, hto, rfl⟩ := hrel
      have HA := Lib.hid hto
      clear hto
      by_cases hlt : k < xs.length
      · first
        | (exfalso; omega)
        | (obtain ⟨ad, rfl, _, hca⟩ := HX.out.at_ (map_at hlt)
           have hsz := HS.out xs[k] (List.getElem_mem _)
           cases hn : shortB xs[k].data.toList with
           | false =>
             have HN := Lib.hid hn
             clear hn
             go_wp2
             go_quiet ((go_at_call 102; refine quiet_add_same (l04Name_r _ _ HN.out _ hsz)))
             go_wp2
             go_ret
             exact ⟨congrArg (fun b => Ending.returned (.bool b)) (by rw [← HR.out, smtpB, rcTo_false xs k _ hlt (by rw [rcOne, List.getElem?_eq_getElem hlt]; simp [HN.out])]; simp), (by repeat (first | exact Below.refl _ _ | assumption | refine Below.drew ?_ | refine below_drewN ?_ _ | refine Below.setCell ?_ (by first | exact Nat.le_refl _ | exact Below.size (by assumption) | (simp; done) | (simp; omega) | omega) _ | refine Below.alloc ?_ (by first | exact Nat.le_refl _ | exact Below.size (by assumption) | (simp; done) | (simp; omega) | omega) _))⟩
           | true =>
             have HN := Lib.hid hn
             clear hn
             by_cases h0 : 0 < k
             · obtain ⟨ad', had, _, hc0⟩ := HX.out.at_ (map_at (show 0 < xs.length by omega))
               obtain rfl : ad = ad' := Option.some.inj had
               try rw [show ad.add 0 = ad from by simp [Addr.add]] at hc0
               try rw [show ad.add 0 = ad from by simp [Addr.add]] at hc0
               have hlt0 : 0 < xs.length := by omega
               cases he : (xs[k].toList == xs[0].toList) with
               | true =>
                 go_wp2
                 go_quiet ((go_at_call 102; refine quiet_add_same (l04Name_r _ _ HN.out _ hsz)))
                 go_wp2
                 go_ret
                 exact ⟨congrArg (fun b => Ending.returned (.bool b)) (by rw [← HR.out, smtpB, rcTo_false xs k _ hlt (specRcpts_bad xs k hlt h0 he)]; simp), (by repeat (first | exact Below.refl _ _ | assumption | refine Below.drew ?_ | refine below_drewN ?_ _ | refine Below.setCell ?_ (by first | exact Nat.le_refl _ | exact Below.size (by assumption) | (simp; done) | (simp; omega) | omega) _ | refine Below.alloc ?_ (by first | exact Nat.le_refl _ | exact Below.size (by assumption) | (simp; done) | (simp; omega) | omega) _))⟩
               | false =>
                 go_wp2
                 go_quiet ((go_at_call 102; refine quiet_add_same (l04Name_r _ _ HN.out _ hsz)))
                 go_wp2
                 go_roundw
                 case rel => exact ⟨k + 1, _, by omega, by go_num, by rw [rcTo_succ, HA.out, specRcpts_step xs k hlt HH2.out HN.out (fun _ => he)]; rfl, rfl⟩
                 case measure => simp [intOf]; omega
             · have hd : decide (0 < (k : Int)) = false := by simpa using h0
               go_wp2
               go_quiet ((go_at_call 102; refine quiet_add_same (l04Name_r _ _ HN.out _ hsz)))
               go_wp2
               go_roundw
               case rel => exact ⟨k + 1, _, by omega, by go_num, by rw [rcTo_succ, HA.out, specRcpts_step xs k hlt HH2.out HN.out (fun h => absurd h h0)]; rfl, rfl⟩
               case measure => simp [intOf]; omega)
      · have hall : rcTo xs xs.length = true := by rw [← HA.out, show k = xs.length by omega]
        have HA' := Lib.hid hall
        clear hall HA
        go_wp2
        go_loop [4] (fun i => ∃ j : Nat, j ≤ ys.length ∧ i = .int .i64 j ∧ (ys.take j).any longB = false) (fun i => ys.length - (intOf i).toNat)
        case atStart => exact ⟨0, Nat.zero_le _, rfl, rfl⟩
        case round =>
          obtain ⟨j, hj, rfl, hany⟩ := hrel
          have HB := Lib.hid hany
          clear hany
          by_cases hlt' : j < ys.length
          · first
            | (exfalso; omega)
            | (obtain ⟨ad', rfl, _, hca'⟩ := HY.out.at_ (map_at hlt')
               have hsz' := HS'.out ys[j] (List.getElem_mem _)
               unfold maxLen at hsz'
               by_cases h60 : 60 < ys[j].size
               · go_wp2
                 go_ret
                 exact ⟨congrArg (fun b => Ending.returned (.bool b)) (by rw [← HR.out, smtpB, any_at longB hlt' (by simp [longB, h60])]; simp), (by repeat (first | exact Below.refl _ _ | assumption | refine Below.drew ?_ | refine below_drewN ?_ _ | refine Below.setCell ?_ (by first | exact Nat.le_refl _ | exact Below.size (by assumption) | (simp; done) | (simp; omega) | omega) _ | refine Below.alloc ?_ (by first | exact Nat.le_refl _ | exact Below.size (by assumption) | (simp; done) | (simp; omega) | omega) _))⟩
               · go_wp2
                 go_round
                 case rel => exact ⟨j + 1, by omega, by go_num, by rw [any_take_succ longB hlt', HB.out]; simp [longB]; omega⟩
                 case measure => simp [intOf]; omega)
          · have hany : ys.any longB = false := by rw [← HB.out, List.take_of_length_le (by omega)]
            have HY' := Lib.hid hany
            clear hany HB
            have hre : r = (o || decide (f.data.toList = [])) := by rw [← HR.out, smtpB, HP.out, HA'.out, HY'.out]; simp
            have HE := Lib.hid hre
            clear hre
            go_wp2
            all_goals
              go_ret
              refine ⟨congrArg (fun b => Ending.returned (.bool b)) ?_, (by repeat (first | exact Below.refl _ _ | assumption | refine Below.drew ?_ | refine below_drewN ?_ _ | refine Below.setCell ?_ (by first | exact Nat.le_refl _ | exact Below.size (by assumption) | (simp; done) | (simp; omega) | omega) _ | refine Below.alloc ?_ (by first | exact Nat.le_refl _ | exact Below.size (by assumption) | (simp; done) | (simp; omega) | omega) _))⟩
              rw [HE.out]
              try simp only [ByteArray.toList_eq] at *
              generalize f.data.toList = F at *
              cases o <;> cases F <;> simp_all)
end Go.Proofs.Ytlfnpnkpjdmonaa
