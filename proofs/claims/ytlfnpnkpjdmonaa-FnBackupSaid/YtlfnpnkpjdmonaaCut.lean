import Derived.Test.YtlfnpnkpjdmonaaTake
set_option linter.unusedVariables false
set_option linter.unusedSimpArgs false
namespace Go.Proofs.Ytlfnpnkpjdmonaa
open Go.RowKit

/-! ### the reference: fields from a place on -/
def skipN : Nat → List UInt8 → Option (List UInt8)
  | 0, r => some r
  | k + 1, r => if r.length < 2 ∨ (r.drop 2).length < be (r.take 2) then none else skipN k ((r.drop 2).drop (be (r.take 2)))
theorem skip_none : ∀ {k : Nat} {r : List UInt8}, skipN k r = none → parseN k r = none
  | 0, r, h => by cases h
  | k + 1, r, h => by
    rw [skipN] at h
    rw [parseN]
    split at h
    · rename_i hc
      rw [if_pos (by rcases hc with hc | hc; exact .inl hc; exact .inr (.inr hc))]
    · split
      · rfl
      · rw [skip_none h]; rfl
theorem skip_of_parse : ∀ {k : Nat} {r : List UInt8} {p : List (List UInt8) × List UInt8}, parseN k r = some p → skipN k r = some p.2
  | 0, r, p, h => by cases h; rfl
  | k + 1, r, p, h => by
    rw [parseN] at h
    split at h
    · cases h
    · rename_i hc
      rw [Option.map_eq_some_iff] at h
      obtain ⟨q, hq, rfl⟩ := h
      rw [skipN, if_neg (by intro e; rcases e with e | e; exact hc (.inl e); exact hc (.inr (.inr e)))]
      have := skip_of_parse hq
      exact this
theorem skip_le : ∀ {k : Nat} {r r' : List UInt8}, skipN k r = some r' → ∃ a, r = a ++ r' ∧ parseN k a = (parseN k r).map fun p => (p.1, [])
  | 0, r, r', h => by
    cases h
    exact ⟨[], rfl, by simp [parseN]⟩
  | k + 1, r, r', h => by
    rw [skipN] at h
    split at h
    · cases h
    · rename_i hc
      have h1 : ¬ r.length < 2 := fun e => hc (.inl e)
      have h2 : ¬ (r.drop 2).length < be (r.take 2) := fun e => hc (.inr e)
      obtain ⟨a, ha, hp⟩ := skip_le h
      have hr : r = r.take 2 ++ ((r.drop 2).take (be (r.take 2)) ++ (a ++ r')) := by
        conv => lhs; rw [← List.take_append_drop 2 r, ← List.take_append_drop (be (r.take 2)) (r.drop 2), ha]
      have l1 : (r.take 2).length = 2 := by simp; omega
      have l2 : ((r.drop 2).take (be (r.take 2))).length = be (r.take 2) := by rw [List.length_take]; omega
      refine ⟨r.take 2 ++ ((r.drop 2).take (be (r.take 2)) ++ a), by rw [List.append_assoc, List.append_assoc]; exact hr, ?_⟩
      generalize hx : r.take 2 = x at *
      generalize hy : (r.drop 2).take (be x) = y at *
      have t1 : (x ++ (y ++ a)).take 2 = x := by rw [List.take_append_of_le_length (by omega), List.take_of_length_le (by omega)]
      have t2 : (x ++ (y ++ a)).drop 2 = y ++ a := by rw [List.drop_append_of_le_length (by omega), List.drop_of_length_le (by omega), List.nil_append]
      have t3 : (y ++ a).take (be x) = y := by rw [List.take_append_of_le_length (by omega), List.take_of_length_le (by omega)]
      have t4 : (y ++ a).drop (be x) = a := by rw [List.drop_append_of_le_length (by omega), List.drop_of_length_le (by omega), List.nil_append]
      have t5 : ¬ (y ++ a).length < be x := by rw [List.length_append]; omega
      have t6 : ¬ (x ++ (y ++ a)).length < 2 := by rw [List.length_append]; omega
      rw [parseN, t1, t2, parseN, hx, t3, t4]
      by_cases h3 : 300 < be x
      · rw [if_pos (.inr (.inl h3)), if_pos (.inr (.inl h3))]; rfl
      · rw [if_neg (by intro e; rcases e with e | e | e; exact t6 e; exact h3 e; exact t5 e), if_neg (by intro e; rcases e with e | e | e; exact h1 e; exact h3 e; exact h2 e), hp, hy]
        cases parseN k ((r.drop 2).drop (be x)) <;> simp
theorem parseN_len' {k : Nat} {r : List UInt8} {p : List (List UInt8) × List UInt8} (h : parseN k r = some p) : p.1.length = k := by
  induction k generalizing r p with
  | zero => rw [parseN] at h; injection h with h; subst h; rfl
  | succ k ih =>
    rw [parseN] at h
    split at h
    · cases h
    · rw [Option.map_eq_some_iff] at h
      obtain ⟨q, hq, rfl⟩ := h
      simp [ih hq]
theorem be_single (c : UInt8) : be [c] = c.toNat := by simp [be]
theorem rdX_cons (n : Nat) (c : UInt8) (r : List UInt8) (hn : n ≤ 8) : rdX n (c :: r) = if c.toNat = n then parseN n r else none := by
  unfold rdX parseF
  have e1 : (c :: r).take 1 = [c] := by simp
  have e2 : (c :: r).drop 1 = r := by simp
  rw [e1, e2, be_single]
  by_cases h : c.toNat = n
  · rw [if_pos h, if_neg (by simp; omega), h]
    cases hp : parseN n r with
    | none => rfl
    | some p => simp only; rw [if_pos (parseN_len' hp)]
  · rw [if_neg h]
    by_cases h2 : 200 < c.toNat
    · rw [if_pos (.inr h2)]
    · rw [if_neg (by simp; omega)]
      cases hp : parseN c.toNat r with
      | none => rfl
      | some p => simp only; rw [if_neg (by rw [parseN_len' hp]; exact h)]
theorem full_seg (n : Nat) (c : UInt8) (a : List UInt8) (hn : n ≤ 8) (hc : c.toNat = n) {r : List UInt8} (h : parseN n a = (parseN n r).map fun p => (p.1, [])) : full (c :: a) = (rdX n (c :: r)).map (·.1) := by
  unfold full parseF
  have e1 : (c :: a).take 1 = [c] := by simp
  have e2 : (c :: a).drop 1 = a := by simp
  rw [e1, e2, be_single, hc, if_neg (by simp; omega), h, rdX_cons n c r hn, if_pos hc]
  cases parseN n r <;> simp
def CutPost (l : List UInt8) (at_ n : Nat) (w : World) (e : Ending) (w' : World) : Prop := ∃ v a ok xs, e = .returned (.tuple #[v, .int .i64 a, .bool ok]) ∧ w'.ownsRow w.heap.size 9 1 v xs.length (xs.map sv) ∧ Below w.heap.size w w' ∧
  match rdX n (l.drop at_) with
  | some p => ok = true ∧ a = ((l.length - p.2.length : Nat) : Int) ∧ xs = p.1 ∧ p.2 = l.drop (l.length - p.2.length) ∧ p.2.length < l.length
  | none => ok = false
theorem cut_no {l : List UInt8} {at_ n : Nat} {w w' : World} (h : rdX n (l.drop at_) = none) (v : Value) (a : Int) (xs : List (List UInt8)) (ho : w'.ownsRow w.heap.size 9 1 v xs.length (xs.map sv)) (hb : Below w.heap.size w w') : CutPost l at_ n w (.returned (.tuple #[v, .int .i64 a, .bool false])) w' := by
  refine ⟨v, a, false, xs, rfl, ho, hb, ?_⟩
  rw [h]
set_option maxRecDepth 100000 in
set_option maxHeartbeats 2000000 in
theorem l06Cut_any (l : List UInt8) (at_ n : Nat) (w : World) (hl : l.length ≤ 65536) (ha : at_ ≤ 200000) (hn : n ≤ 8) :
    Calls Try.prog 225 #[.string (bs l), .int .i64 at_, .int .i64 n] w (CutPost l at_ n w) := by
  have hsz : (bs l).size = l.length := by simp [ByteArray.size]
  by_cases h0 : l.length ≤ at_
  · have hd : rdX n (l.drop at_) = none := by rw [List.drop_of_length_le h0]; simp [rdX, parseF]
    have HD := Lib.hid hd
    clear hd
    go_enter Try.func225, Try.ntmps225
    go_wp2
    go_ret3
    exact cut_no HD.out _ _ [] (own_empty_at (Nat.le_refl _) (heap_alloc_new _ _)) (by repeat (first | exact Below.refl _ _ | assumption | refine Below.drew ?_ | refine below_drewN ?_ _ | refine Below.setCell ?_ (by first | exact Nat.le_refl _ | exact Below.size (by assumption) | (simp; done) | (simp; omega) | omega) _ | refine Below.alloc ?_ (by first | exact Nat.le_refl _ | exact Below.size (by assumption) | (simp; done) | (simp; omega) | omega) _))
  · have hlt : at_ < l.length := by omega
    have hdc : l.drop at_ = l[at_] :: l.drop (at_ + 1) := List.drop_eq_getElem_cons hlt
    have hg : (bs l)[at_]'(by omega) = l[at_] := rfl
    have hby : (l[at_].toNat : Int) < 256 := by have := l[at_].toNat_lt; omega
    by_cases hc : l[at_].toNat = n
    case neg =>
      have hd : rdX n (l.drop at_) = none := by rw [hdc, rdX_cons n _ _ hn, if_neg hc]
      have HD := Lib.hid hd
      have q1 : ((l[at_].toNat : Int) == (n : Int)) = false := by rw [beq_eq_false_iff_ne]; omega
      have q2 : ((l[at_].toNat : Int) != (n : Int)) = true := by rw [bne_iff_ne]; omega
      clear hd hdc hc
      go_enter Try.func225, Try.ntmps225
      go_wp2
      go_ret3
      exact cut_no HD.out _ _ [] (own_empty_at (Nat.le_refl _) (heap_alloc_new _ _)) (by repeat (first | exact Below.refl _ _ | assumption | refine Below.drew ?_ | refine below_drewN ?_ _ | refine Below.setCell ?_ (by first | exact Nat.le_refl _ | exact Below.size (by assumption) | (simp; done) | (simp; omega) | omega) _ | refine Below.alloc ?_ (by first | exact Nat.le_refl _ | exact Below.size (by assumption) | (simp; done) | (simp; omega) | omega) _))
    obtain ⟨r, hr⟩ : ∃ r, r = l.drop (at_ + 1) := ⟨_, rfl⟩
    have HC := Lib.hid hc
    have HDC := Lib.hid hdc
    have HR := Lib.hid hr
    have q1 : ((l[at_].toNat : Int) == (n : Int)) = true := by rw [hc]; simp
    have q2 : ((l[at_].toNat : Int) != (n : Int)) = false := by rw [hc]; simp
    clear hc hdc hr
    go_enter Try.func225, Try.ntmps225
    go_wp2
    clear q1 q2 hg
    go_loopw [1, 10] (fun p i wr => ∃ k a : Nat, k ≤ n ∧ i = .int .i64 k ∧ p = .int .i64 a ∧ at_ + 1 ≤ a ∧ a ≤ l.length ∧ skipN n r = skipN (n - k) (l.drop a) ∧ Below w.heap.size w wr) (fun _ i _ => n - (intOf i).toNat)
    case atStart => exact ⟨0, at_ + 1, Nat.zero_le _, rfl, by go_num, Nat.le_refl _, by omega, by rw [HR.out, Nat.sub_zero], Below.refl _ _⟩
    case round =>
      obtain ⟨k, a, hk, rfl, rfl, ha1, ha2, hsk, hb⟩ := hrel
      have HSK := Lib.hid hsk
      have HB := Lib.hid hb
      have hsw := hb.size
      clear hsk hb
      by_cases hkn : k < n
      · have hkk : n - k = (n - (k + 1)) + 1 := by omega
        have HKK := Lib.hid hkk
        clear hkk
        by_cases hshort : l.length < a + 2
        · have hs : skipN n r = none := by rw [HSK.out, HKK.out, skipN, if_pos (.inl (by simp; omega))]
          have HD : Hid (rdX n (l.drop at_) = none) := by
            show _ = _
            rw [HDC.out, rdX_cons n _ _ hn, if_pos HC.out, ← HR.out, skip_none hs]
          clear hs
          go_wp2
          go_ret3
          exact cut_no HD.out _ _ [] (own_empty_at hsw (heap_alloc_new _ _)) (HB.out.alloc hsw _)
        · have hcut := bs_cut l a (a + 2)
          rw [show a + 2 - a = 2 from by omega] at hcut
          have h2l : ((l.drop a).take 2).length = 2 := by rw [List.length_take]; simp; omega
          have hd2 : ((l.drop a).drop 2).length = l.length - a - 2 := by simp; omega
          have HCUT := Lib.hid hcut
          have H2L := Lib.hid h2l
          have HD2 := Lib.hid hd2
          have hbe : be ((l.drop a).take 2) < 65536 := by
            have h := be_lt ((l.drop a).take 2)
            rwa [h2l] at h
          obtain ⟨m, hm⟩ : ∃ m, m = be ((l.drop a).take 2) := ⟨_, rfl⟩
          rw [← hm] at hbe
          have HM := Lib.hid hm
          have HOF : Hid (∀ W : World, Calls Try.prog 185 #[.string ((bs l).extract a (a + 2))] W fun e w' => e = .returned (.int .i64 m) ∧ W = w') := fun W => by
            rw [hm]
            exact l01Of_str _ _ hcut W (by rw [h2l]; omega)
          clear hcut h2l hd2 hm
          have hmi : (m : Int) ≤ 65535 := by omega
          clear hbe
          by_cases hfar : l.length < a + 2 + m
          · have hs : skipN n r = none := by rw [HSK.out, HKK.out, skipN, if_pos (.inr (by rw [HD2.out, ← HM.out]; omega))]
            have HD : Hid (rdX n (l.drop at_) = none) := by
              show _ = _
              rw [HDC.out, rdX_cons n _ _ hn, if_pos HC.out, ← HR.out, skip_none hs]
            clear hs
            go_wp2_with (first | (go_at_call 185; refine (HOF.out _).mono ?_; rintro e w' ⟨rfl, rfl⟩))
            go_ret3
            exact cut_no HD.out _ _ [] (own_empty_at hsw (heap_alloc_new _ _)) (HB.out.alloc hsw _)
          · have hs : skipN n r = skipN (n - (k + 1)) (l.drop (a + (2 + m))) := by
              rw [HSK.out, HKK.out, skipN, if_neg (by rw [HD2.out, ← HM.out]; simp; omega), ← HM.out, List.drop_drop, List.drop_drop]
            have HS := Lib.hid hs
            clear hs
            go_wp2_with (first | (go_at_call 185; refine (HOF.out _).mono ?_; rintro e w' ⟨rfl, rfl⟩))
            go_roundw
            case rel => exact ⟨k + 1, a + (2 + m), hkn, by go_num, by go_num, by omega, by omega, HS.out, HB.out⟩
            case measure => simp [intOf]; omega
      · obtain rfl : k = n := by omega
        have hs : skipN k r = some (l.drop a) := by rw [HSK.out, Nat.sub_self, skipN]
        obtain ⟨s, hs1, hs2⟩ := skip_le hs
        have hsl : s.length = a - (at_ + 1) := by
          have := congrArg List.length hs1
          rw [HR.out, List.length_append, List.length_drop, List.length_drop] at this
          omega
        have hseg : (bs l).extract at_ a = bs (l[at_] :: s) := by
          rw [bs_cut, HDC.out, ← HR.out, hs1, show a - at_ = (a - (at_ + 1)) + 1 from by omega, List.take_succ_cons, ← hsl, List.take_left]
        have HF := Lib.hid (full_seg k l[at_] s hn HC.out hs2)
        have HSEG := Lib.hid hseg
        have HPN := Lib.hid (And.intro hs (And.intro hs1 hsl))
        have hjl : (l[at_] :: s).length ≤ 4194304 := by rw [List.length_cons, hsl]; omega
        have HJ := Lib.hid (fun W => l01Read_any (l[at_] :: s) W hjl)
        clear hs hs1 hs2 hsl hseg hjl
        go_wp2_with fail
        rw [HSEG.out]
        refine (HJ.out _).mono ?_
        rintro e w1 ⟨v, out, ok, rfl, ho, _, hok, hall, hb⟩
        have HO := Lib.hid (own_mono ho hsw)
        have HB1 := Lib.hid (below_after HB.out hb)
        have HK := Lib.hid (And.intro hok hall)
        clear ho hok hall hb
        go_wp2_with fail
        go_ret3
        refine ⟨v, a, ok, out, rfl, HO.out, HB1.out, ?_⟩
        obtain ⟨hok, hall⟩ := HK.out
        obtain ⟨hs, hs1, hsl⟩ := HPN.out
        rw [HDC.out, ← HR.out]
        have hf := HF.out
        cases hx : rdX k (l[at_] :: r) with
        | none => rw [hx] at hf; rw [hok, hf]; rfl
        | some p =>
          rw [hx] at hf
          have hp : p.2 = l.drop a := by
            have h1 := hx
            rw [rdX_cons k _ _ hn, if_pos HC.out] at h1
            have h2 := skip_of_parse h1
            rw [hs] at h2
            injection h2 with h2
            exact h2.symm
          have hpl : p.2.length = l.length - a := by rw [hp, List.length_drop]
          refine ⟨by rw [hok, hf]; rfl, by rw [hpl]; omega, hall _ hf, by rw [hpl, hp]; congr 1; omega, by rw [hpl]; omega⟩
end Go.Proofs.Ytlfnpnkpjdmonaa
