import Derived.Test.YtlfnpnkpjdmonaaKept7
set_option linter.unusedVariables false
set_option linter.unusedSimpArgs false
namespace Go.Proofs.Ytlfnpnkpjdmonaa
open Go.RowKit

def sameSt (ps ps' : List Pr) (ks ks' : List Kp) : Bool := decide (ps = ps') && decide (ks.map Kp.data = ks'.map Kp.data)
set_option maxRecDepth 100000 in
theorem implSameState_any (A B A' B' : Option Addr) (c d c' d' : Nat) (ps ps' : List Pr) (ks ks' : List Kp) (w : World) (hx : Rd w w.heap.size A (flat encP ps)) (hy : KRd w w.heap.size B ks) (hx' : Rd w w.heap.size A' (flat encP ps')) (hy' : KRd w w.heap.size B' ks') (hl : ps.length ≤ 1048576) (hl2 : ps'.length ≤ 1048576) (hl' : ks.length ≤ 1048576) (hl2' : ks'.length ≤ 1048576) (hs : ∀ k ∈ ks, k.ps.length ≤ 1048576) (hs' : ∀ k ∈ ks', k.ps.length ≤ 1048576) :
    Calls Try.prog 45 #[stV A ps.length c B ks.length d, stV A' ps'.length c' B' ks'.length d'] w fun e w' => e = .returned (.bool (sameSt ps ps' ks ks')) ∧ Below w.heap.size w w' := by
  generalize hr : sameSt ps ps' ks ks' = r
  have HR := Lib.hid hr
  have hb1 : Below w.heap.size w ((w.alloc (.cells #[.slice A ps.length c, .slice B ks.length d] 62)).alloc (.cells #[.slice A' ps'.length c', .slice B' ks'.length d'] 62)) := by repeat (first | exact Below.refl _ _ | assumption | refine Below.drew ?_ | refine below_drewN ?_ _ | refine Below.setCell ?_ (by first | exact Nat.le_refl _ | exact Below.size (by assumption) | (simp; done) | (simp; omega) | omega) _ | refine Below.alloc ?_ (by first | exact Nat.le_refl _ | exact Below.size (by assumption) | (simp; done) | (simp; omega) | omega) _)
  have HX := Lib.hid (And.intro (hx.next hb1) (hx'.next hb1))
  have HY := Lib.hid (And.intro (hy.next hb1) (hy'.next hb1))
  have HS := Lib.hid (And.intro hs hs')
  have HB := Lib.hid hb1
  clear hr hx hy hx' hy' hs hs' hb1
  cases hp : decide (ps = ps') with
  | false =>
    have HP := Lib.hid hp
    clear hp
    go_enter Try.func45, Try.ntmps45
    go_wp2_with fail
    refine (equalP_any _ _ _ _ _ _ _ HX.out.1 HX.out.2 (by simp only [maxLen]; omega) (by simp only [maxLen]; omega)).mono ?_
    rw [HP.out]
    rintro e w1 ⟨rfl, n, rfl⟩
    go_wp2_with fail
    go_ret
    exact ⟨by rw [← HR.out]; unfold sameSt; rw [HP.out]; rfl, below_drewN HB.out _⟩
  | true =>
    have HP := Lib.hid hp
    clear hp
    go_enter Try.func45, Try.ntmps45
    go_wp2_with fail
    refine (equalP_any _ _ _ _ _ _ _ HX.out.1 HX.out.2 (by simp only [maxLen]; omega) (by simp only [maxLen]; omega)).mono ?_
    rw [HP.out]
    rintro e w1 ⟨rfl, n, rfl⟩
    go_wp2_with fail
    refine (equalFuncK_any _ _ _ _ _ _ _ (by exact HY.out.1.next (by repeat (first | exact Below.refl _ _ | assumption | refine Below.drew ?_ | refine below_drewN ?_ _ | refine Below.setCell ?_ (by first | exact Nat.le_refl _ | exact Below.size (by assumption) | (simp; done) | (simp; omega) | omega) _ | refine Below.alloc ?_ (by first | exact Nat.le_refl _ | exact Below.size (by assumption) | (simp; done) | (simp; omega) | omega) _))) (by exact HY.out.2.next (by repeat (first | exact Below.refl _ _ | assumption | refine Below.drew ?_ | refine below_drewN ?_ _ | refine Below.setCell ?_ (by first | exact Nat.le_refl _ | exact Below.size (by assumption) | (simp; done) | (simp; omega) | omega) _ | refine Below.alloc ?_ (by first | exact Nat.le_refl _ | exact Below.size (by assumption) | (simp; done) | (simp; omega) | omega) _))) hl' hl2' HS.out.1 HS.out.2).mono ?_
    rintro e w1 ⟨rfl, hb⟩
    have HB2 := Lib.hid (below_after (below_drewN HB.out n) hb)
    clear hb
    go_wp2_with fail
    go_ret
    exact ⟨by rw [← HR.out]; unfold sameSt; rw [HP.out]; simp, HB2.out⟩

theorem quietAdd {P : Program} {f : FuncId} {args : Array Value} {w : World} {a n : Nat} {v : Value}
    (h : Calls P f args (w.drewN (a + n)) fun e w' => e = .returned v ∧ ∃ m, w' = (w.drewN (a + n)).drewN m) :
    Calls P f args (w.drewN (a + n)) fun e w'' => e = .returned v ∧ ∃ m, w'' = w.drewN (a + m) :=
  h.mono fun _ _ ⟨he, m, hm⟩ => ⟨he, n + m, by rw [hm, World.drewN_drewN, Nat.add_assoc]⟩
theorem l11Same_at (A B : Option Addr) (c d : Nat) (xs ys : List Pr) (W : World) {b : Bool} (hb : decide (xs = ys) = b) (hx : Rd W W.heap.size A (flat encP xs)) (hy : Rd W W.heap.size B (flat encP ys)) (hl : xs.length ≤ 1048576) (hl' : ys.length ≤ 1048576) (n : Nat) :
    Calls Try.prog 116 #[.slice A xs.length c, .slice B ys.length d] (W.drewN n) fun e w' => e = .returned (.bool b) ∧ ∃ m, w' = (W.drewN n).drewN m := by
  rw [← hb]
  exact l11Same_any _ _ _ _ _ _ _ (hx.next (below_drewN (Below.refl _ _) n)) (hy.next (below_drewN (Below.refl _ _) n)) (by simp only [maxLen]; omega) (by simp only [maxLen]; omega)
theorem sameSt_no {ps ps' : List Pr} {ks ks' : List Kp} (h : decide (ks.map Kp.data = ks'.map Kp.data) = false) : sameSt ps ps' ks ks' = false := by unfold sameSt; rw [h, Bool.and_false]
theorem kn_of {k k' : Kp} (hc : decide (k.ps = k'.ps) = false) : decide (k.data = k'.data) = false := by
  apply decide_eq_false
  intro h
  simp only [Kp.data, Prod.mk.injEq] at h
  exact (of_decide_eq_false hc) h.2.2
set_option maxRecDepth 100000 in
set_option maxHeartbeats 1000000 in
theorem specSameState_any (A B A' B' : Option Addr) (c d c' d' : Nat) (ps ps' : List Pr) (ks ks' : List Kp) (w : World) (hx : Rd w w.heap.size A (flat encP ps)) (hy : KRd w w.heap.size B ks) (hx' : Rd w w.heap.size A' (flat encP ps')) (hy' : KRd w w.heap.size B' ks') (hl : ps.length ≤ 1048576) (hl2 : ps'.length ≤ 1048576) (hl' : ks.length ≤ 1048576) (hl2' : ks'.length ≤ 1048576) (hs : ∀ k ∈ ks, k.ps.length ≤ 1048576) (hs' : ∀ k ∈ ks', k.ps.length ≤ 1048576) :
    Calls Try.prog 43 #[stV A ps.length c B ks.length d, stV A' ps'.length c' B' ks'.length d'] w fun e w' => e = .returned (.bool (sameSt ps ps' ks ks')) ∧ Below w.heap.size w w' := by
  generalize hr : sameSt ps ps' ks ks' = r
  have HR := Lib.hid hr
  have hb1 : Below w.heap.size w ((w.alloc (.cells #[.slice A ps.length c, .slice B ks.length d] 62)).alloc (.cells #[.slice A' ps'.length c', .slice B' ks'.length d'] 62)) := by repeat (first | exact Below.refl _ _ | assumption | refine Below.drew ?_ | refine below_drewN ?_ _ | refine Below.setCell ?_ (by first | exact Nat.le_refl _ | exact Below.size (by assumption) | (simp; done) | (simp; omega) | omega) _ | refine Below.alloc ?_ (by first | exact Nat.le_refl _ | exact Below.size (by assumption) | (simp; done) | (simp; omega) | omega) _)
  have HX := Lib.hid (And.intro (hx.next hb1) (hx'.next hb1))
  have HY := Lib.hid (And.intro (hy.next hb1) (hy'.next hb1))
  have HS := Lib.hid (And.intro hs hs')
  have HB := Lib.hid hb1
  clear hr hx hy hx' hy' hs hs' hb1
  cases hp : decide (ps = ps') with
  | false =>
    have HP := Lib.hid hp
    clear hp
    go_enter Try.func43, Try.ntmps43
    go_wp2_with fail
    refine (l11Same_any _ _ _ _ _ _ _ HX.out.1 HX.out.2 (by simp only [maxLen]; omega) (by simp only [maxLen]; omega)).mono ?_
    rw [HP.out]
    rintro e w1 ⟨rfl, n, rfl⟩
    go_wp2_with fail
    go_ret
    exact ⟨by rw [← HR.out]; unfold sameSt; rw [HP.out]; rfl, below_drewN HB.out _⟩
  | true =>
    have HP := Lib.hid hp
    clear hp
    by_cases hne : ks.length = ks'.length
    · have hb0 : ((ks.length : Int) != (ks'.length : Int)) = false := by rw [hne]; simp
      have hle : ks.length ≤ ks'.length := by omega
      have hge : ks'.length ≤ ks.length := by omega
      clear hne
      go_enter Try.func43, Try.ntmps43
      go_wp2_with fail
      refine (l11Same_any _ _ _ _ _ _ _ HX.out.1 HX.out.2 (by simp only [maxLen]; omega) (by simp only [maxLen]; omega)).mono ?_
      rw [HP.out]
      rintro e w1 ⟨rfl, n, rfl⟩
      go_wp2_with fail
      obtain ⟨W, hW⟩ : ∃ W : World, W = ((w.alloc (.cells #[.slice A ps.length c, .slice B ks.length d] 62)).alloc (.cells #[.slice A' ps'.length c', .slice B' ks'.length d'] 62)) := ⟨_, rfl⟩
      have f0 : W.cell? ⟨w.heap.size, 1, none⟩ = some (.slice B ks.length d) := by rw [hW]; simp [go_sem]
      have f1 : W.cell? ⟨w.heap.size + 1, 1, none⟩ = some (.slice B' ks'.length d') := by rw [hW]; simp [go_sem]
      rw [← hW] at HX HY HB ⊢
      clear hW
      go_loopw [5] (fun i wr => ∃ k q : Nat, k ≤ ks.length ∧ i = .int .i64 k ∧ (ks.take k).map Kp.data = (ks'.take k).map Kp.data ∧ wr = W.drewN q) (fun i _ => ks.length - (intOf i).toNat)
      case atStart => exact ⟨0, n, Nat.zero_le _, rfl, rfl, rfl⟩
      case round =>
        obtain ⟨k, q, hk, rfl, ht, rfl⟩ := hrel
        have HT := Lib.hid ht
        clear ht
        by_cases hlt : k < ks.length
        · have hlt' : k < ks'.length := by omega
          obtain ⟨ad, rfl, hbl, hca, hcb, hcc⟩ := HY.out.1.1.kp hlt
          obtain ⟨bd, rfl, hbl', hda, hdb, hdc⟩ := HY.out.2.1.kp hlt'
          have HSX : Hid (ks[k].ps.length ≤ 1048576) := HS.out.1 _ (List.getElem_mem _)
          have HSY : Hid (ks'[k].ps.length ≤ 1048576) := HS.out.2 _ (List.getElem_mem _)
          have HNX := Lib.hid (HY.out.1.2 ks[k] (List.getElem_mem _))
          have HNY := Lib.hid (HY.out.2.2 ks'[k] (List.getElem_mem _))
          have HNE := Lib.hid (fun h => (ne_data hlt hlt' h))
          have HEQ := Lib.hid (fun h => take_data hlt hlt' HT.out h)
          generalize hgx : ks[k] = x at *
          generalize hgy : ks'[k] = y at *
          clear hgx hgy
          cases hc : decide (x.ps = y.ps) <;> cases ha : (x.name.toList == y.name.toList) <;> cases hb : (x.tick == y.tick)
          all_goals
            have ha' : (x.name.toList != y.name.toList) = _ := congrArg not ha
            have hb' : (x.tick != y.tick) = _ := congrArg not hb
            have HE := Lib.hid (kdata_iff ha hb hc rfl)
            have HC := Lib.hid (l11Same_at x.A y.A x.c y.c _ _ W hc HNX.out HNY.out HSX.out HSY.out)
            clear hc
            simp only [Bool.not_true, Bool.not_false] at ha' hb'
            go_wp2
            go_quiet ((go_at_call 116; exact quietAdd (HC.out _)))
            go_wp2
            first
              | (go_ret
                 exact ⟨by rw [show r = false from HR.out.symm.trans (sameSt_no (HNE.out HE.out))]; rfl, below_drewN (below_drewN HB.out _) _⟩)
              | (go_roundw
                 case rel => exact ⟨k + 1, _, by omega, by go_num, HEQ.out (of_decide_eq_true HE.out), rfl⟩
                 case measure => simp [intOf]; omega)
        · go_wp2
          go_ret
          exact ⟨(by rw [← HR.out]; unfold sameSt; rw [HP.out, decide_eq_true (by have := HT.out; rwa [List.take_of_length_le (by omega), List.take_of_length_le (by omega)] at this)]; rfl), below_drewN HB.out _⟩
    · have hf : r = false := by
        rw [← HR.out]
        unfold sameSt
        rw [Bool.and_eq_false_iff]
        right
        apply decide_eq_false
        intro h
        exact hne (by simpa using congrArg List.length h)
      subst hf
      have hb0 : ((ks.length : Int) != (ks'.length : Int)) = true := by simp; omega
      clear hne HR
      go_enter Try.func43, Try.ntmps43
      go_wp2_with fail
      refine (l11Same_any _ _ _ _ _ _ _ HX.out.1 HX.out.2 (by simp only [maxLen]; omega) (by simp only [maxLen]; omega)).mono ?_
      rw [HP.out]
      rintro e w1 ⟨rfl, n, rfl⟩
      go_wp2_with fail
      go_ret
      exact ⟨rfl, below_drewN HB.out _⟩
end Go.Proofs.Ytlfnpnkpjdmonaa
