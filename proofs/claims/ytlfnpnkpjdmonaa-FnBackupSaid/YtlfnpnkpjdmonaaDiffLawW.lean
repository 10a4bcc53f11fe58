import Derived.Test.YtlfnpnkpjdmonaaDiffApi
set_option linter.unusedVariables false
set_option linter.unusedSimpArgs false
namespace Go.Proofs.Ytlfnpnkpjdmonaa
open Go.RowKit

theorem own_formD {w : World} {base : Nat} {l : List Df} {v : Value} (h : w.ownsRow base 145 5 v l.length (flat encD l)) : ∃ A c, v = .slice A l.length c := by
  obtain ⟨A, c, e, _⟩ := own_form h
  exact ⟨A, c, e⟩
theorem DrawnP.told {l : List Pr} (h : DrawnP l) : Told l := ⟨Nat.le_trans h.1 (by omega), h.2.1, h.2.2⟩
/-- what holds of the differences of two drawn lists -/
structure DL (a b : List Pr) (ds es : List Df) : Prop where
  e1 : ds = diffM a b
  e2 : es = diffM b a
  dsl : ds.length ≤ 120
  esl : es.length ≤ 120
  dok : ∀ d ∈ ds, DOk d
  eok : ∀ d ∈ es, DOk d
  there : applyM a ds = some b
  back : applyM b es = some a
  same : es.length = ds.length
  wrong : ds.length ≠ 0 → applyM b ds = none
  eq : ds.length = 0 → a = b
theorem dl_of {a b : List Pr} (ha : Told a) (hb : Told b) : DL a b (diffM a b) (diffM b a) := by
  have h1 := diffM_len a b
  have h2 := diffM_len b a
  have h3 := ha.len
  have h4 := hb.len
  refine ⟨rfl, rfl, by omega, by omega, diffM_ok a b ha.fine hb.fine, diffM_ok b a hb.fine ha.fine, apply_diff a b [] ha.rise hb.rise, apply_diff b a [] hb.rise ha.rise, diffM_swap a b, fun h => ?_, fun h => diffM_nil (List.eq_nil_of_length_eq_zero h)⟩
  cases hd : diffM a b with
  | nil => rw [hd] at h; exact absurd rfl h
  | cons d ds =>
    rw [applyM, if_neg (by rw [apply_wrong ha.rise hb.rise hd]; simp)]
set_option maxRecDepth 100000 in
set_option maxHeartbeats 4000000 in
theorem lawDiff_any (A B : Option Addr) (c d : Nat) (xs ys : List UInt8) (w : World) (hx : Rd w w.heap.size A (xs.map bv)) (hy : Rd w w.heap.size B (ys.map bv)) (hm : xs.length ≤ maxLen) (hm' : ys.length ≤ maxLen) :
    Calls Try.prog 10 #[.slice A xs.length c, .slice B ys.length d] w fun e w' => e = .returned (.bool true) ∧ Below w.heap.size w w' := by
  unfold maxLen at hm hm'
  by_cases hbig : 1048576 < xs.length
  · go_enter Try.func10, Try.ntmps10
    go_wp2
    go_ret
    exact ⟨rfl, Below.refl _ _⟩
  · by_cases hbig2 : 1048576 < ys.length
    · go_enter Try.func10, Try.ntmps10
      go_wp2
      go_ret
      exact ⟨rfl, Below.refl _ _⟩
    · have HX := Lib.hid hx
      have HY := Lib.hid hy
      clear hx hy
      go_enter Try.func10, Try.ntmps10
      go_wp2_with fail
      refine (pairsOf_any A c xs _ HX.out (by omega)).mono ?_
      rintro e w1 ⟨q, qc, a, rfl, hdr, ho, hb1⟩
      have hq : a.length ≤ qc := by
        obtain ⟨_, _, e, h⟩ := own_form ho
        cases e
        exact h
      have hal : a.length ≤ 60 := hdr.told.len
      have HA1 := Lib.hid (Rd.own ho)
      have HTA := Lib.hid hdr.told
      have HB1 := Lib.hid hb1
      have HY1 := Lib.hid (HY.out.next hb1)
      clear ho hdr hb1 HX HY
      go_wp2_with fail
      refine (pairsOf_any B d ys _ HY1.out (by omega)).mono ?_
      rintro e w2 ⟨r, rc, b, rfl, hdr, ho, hb2⟩
      have hr : b.length ≤ rc := by
        obtain ⟨_, _, e, h⟩ := own_form ho
        cases e
        exact h
      have hbl : b.length ≤ 60 := hdr.told.len
      have HX2 := Lib.hid (HA1.out.next hb2)
      have HY2 := Lib.hid (Rd.own ho)
      have HTB := Lib.hid hdr.told
      have HB2 := Lib.hid (below_after HB1.out hb2)
      clear ho hdr hb2 HA1 HY1 HB1
      obtain ⟨ds, hds⟩ : ∃ ds, ds = diffM a b := ⟨_, rfl⟩
      obtain ⟨es, hes⟩ : ∃ es, es = diffM b a := ⟨_, rfl⟩
      have HDL : Hid (DL a b ds es) := by
        rw [hds, hes]
        exact dl_of HTA.out HTB.out
      have HDS := Lib.hid hds
      have HES := Lib.hid hes
      have hdl : ds.length ≤ 120 := HDL.out.dsl
      have HEL : Hid (es.length = ds.length) := HDL.out.same
      have hel2 : es.length ≤ 120 := HDL.out.esl
      clear hds hes
      go_wp2_with fail
      refine (diffPairs_any _ _ qc rc a b _ HX2.out HY2.out HTA.out HTB.out hq hr).mono ?_
      rw [← HDS.out]
      rintro e w3 ⟨v3, rfl, ho3, hb3⟩
      obtain ⟨D, dc, rfl⟩ := own_formD ho3
      have HD3 := Lib.hid (Rd.own ho3)
      have HX3 := Lib.hid (HX2.out.next hb3)
      have HY3 := Lib.hid (HY2.out.next hb3)
      have HB3 := Lib.hid (below_after HB2.out hb3)
      clear ho3 hb3 HX2 HY2 HB2
      go_wp2_with fail
      refine (diffPairsS_any _ _ qc rc a b _ HX3.out HY3.out HTA.out HTB.out).mono ?_
      rw [← HDS.out]
      rintro e w4 ⟨v4, rfl, ho4, hb4⟩
      obtain ⟨E, ec, rfl⟩ := own_formD ho4
      have HE4 := Lib.hid (Rd.own ho4)
      have HD4 := Lib.hid (HD3.out.next hb4)
      have HX4 := Lib.hid (HX3.out.next hb4)
      have HY4 := Lib.hid (HY3.out.next hb4)
      have HB4 := Lib.hid (below_after HB3.out hb4)
      clear ho4 hb4 HX3 HY3 HB3 HD3
      go_wp2_with fail
      refine (applyDiff_any _ D qc dc a ds _ HX4.out HD4.out HTA.out hdl HDL.out.dok (fun h => by cases h) (fun r hr => by rw [HDL.out.there] at hr; cases hr; exact hbl)).mono ?_
      rw [HDL.out.there]
      rintro e w5 ⟨v5, rfl, ho5, hb5⟩
      obtain ⟨F, fc, rfl, _⟩ := own_form2 (l := b) ho5
      have HF5 := Lib.hid (Rd.own (show w5.ownsRow w4.heap.size 82 2 (.slice F b.length fc) b.length (flat encP b) from ho5))
      have HE5 := Lib.hid (HE4.out.next hb5)
      have HD5 := Lib.hid (HD4.out.next hb5)
      have HX5 := Lib.hid (HX4.out.next hb5)
      have HY5 := Lib.hid (HY4.out.next hb5)
      have HB5 := Lib.hid (below_after HB4.out hb5)
      clear ho5 hb5 HX4 HY4 HB4 HD4 HE4
      go_wp2_with fail
      refine (diffPairs_any _ _ rc qc b a _ HY5.out HX5.out HTB.out HTA.out hr hq).mono ?_
      rw [← HES.out]
      rintro e w6 ⟨v6, rfl, ho6, hb6⟩
      obtain ⟨G, gc, rfl⟩ := own_formD ho6
      have HG6 := Lib.hid (Rd.own ho6)
      have HF6 := Lib.hid (HF5.out.next hb6)
      have HE6 := Lib.hid (HE5.out.next hb6)
      have HD6 := Lib.hid (HD5.out.next hb6)
      have HX6 := Lib.hid (HX5.out.next hb6)
      have HY6 := Lib.hid (HY5.out.next hb6)
      have HB6 := Lib.hid (below_after HB5.out hb6)
      clear ho6 hb6 HX5 HY5 HB5 HD5 HE5 HF5
      go_wp2_with fail
      refine (applyDiff_any _ G rc gc b es _ HY6.out HG6.out HTB.out hel2 HDL.out.eok (fun h => by cases h) (fun r hr => by rw [HDL.out.back] at hr; cases hr; exact hal)).mono ?_
      rw [HDL.out.back]
      rintro e w7 ⟨v7, rfl, ho7, hb7⟩
      obtain ⟨H, hc, rfl, _⟩ := own_form2 (l := a) ho7
      have HH7 := Lib.hid (Rd.own (show w7.ownsRow w6.heap.size 82 2 (.slice H a.length hc) a.length (flat encP a) from ho7))
      have HF7 := Lib.hid (HF6.out.next hb7)
      have HE7 := Lib.hid (HE6.out.next hb7)
      have HD7 := Lib.hid (HD6.out.next hb7)
      have HX7 := Lib.hid (HX6.out.next hb7)
      have HY7 := Lib.hid (HY6.out.next hb7)
      have HB7 := Lib.hid (below_after HB6.out hb7)
      clear ho7 hb7 HX6 HY6 HB6 HD6 HE6 HF6 HG6
      go_wp2_with fail
      refine (diffPairs_any _ _ qc qc a a _ HX7.out HX7.out HTA.out HTA.out hq hq).mono ?_
      rw [diffM_self]
      rintro e w8 ⟨v8, rfl, ho8, hb8⟩
      obtain ⟨I, ic, rfl⟩ := own_formD ho8
      have HH8 := Lib.hid (HH7.out.next hb8)
      have HF8 := Lib.hid (HF7.out.next hb8)
      have HE8 := Lib.hid (HE7.out.next hb8)
      have HD8 := Lib.hid (HD7.out.next hb8)
      have HX8 := Lib.hid (HX7.out.next hb8)
      have HY8 := Lib.hid (HY7.out.next hb8)
      have HB8 := Lib.hid (below_after HB7.out hb8)
      clear ho8 hb8 HX7 HY7 HB7 HD7 HE7 HF7 HH7
      go_wp2_with fail
      refine (sameDiffs_eq D E dc ec ds _ HD8.out HE8.out (by simp only [maxLen]; omega)).mono ?_
      rintro e w9 ⟨rfl, n9, hw9⟩
      have hb9 : Below w8.heap.size w8 w9 := by rw [hw9]; exact below_drewN (Below.refl _ _) n9
      have HH9 := Lib.hid (HH8.out.next hb9)
      have HF9 := Lib.hid (HF8.out.next hb9)
      have HD9 := Lib.hid (HD8.out.next hb9)
      have HX9 := Lib.hid (HX8.out.next hb9)
      have HY9 := Lib.hid (HY8.out.next hb9)
      have HB9 := Lib.hid (below_after HB8.out hb9)
      clear hw9 hb9 HX8 HY8 HB8 HD8 HE8 HF8 HH8
      go_wp2_with fail
      refine (samePairs_any F _ fc rc b b _ HF9.out HY9.out (by simp only [maxLen]; omega) (by simp only [maxLen]; omega)).mono ?_
      rw [show decide (b = b) = true from by simp]
      rintro e w10 ⟨rfl, n10, hw10⟩
      have hb10 : Below w9.heap.size w9 w10 := by rw [hw10]; exact below_drewN (Below.refl _ _) n10
      have HH10 := Lib.hid (HH9.out.next hb10)
      have HD10 := Lib.hid (HD9.out.next hb10)
      have HX10 := Lib.hid (HX9.out.next hb10)
      have HY10 := Lib.hid (HY9.out.next hb10)
      have HB10 := Lib.hid (below_after HB9.out hb10)
      clear hw10 hb10 HX9 HY9 HB9 HD9 HF9 HH9
      have hee : ((es.length : Int) != (ds.length : Int)) = false := by rw [HEL.out]; simp
      go_wp2_with fail
      refine (samePairs_any H _ hc qc a a _ HH10.out HX10.out (by simp only [maxLen]; omega) (by simp only [maxLen]; omega)).mono ?_
      rw [show decide (a = a) = true from by simp]
      rintro e w11 ⟨rfl, n11, hw11⟩
      have hb11 : Below w10.heap.size w10 w11 := by rw [hw11]; exact below_drewN (Below.refl _ _) n11
      have HD11 := Lib.hid (HD10.out.next hb11)
      have HX11 := Lib.hid (HX10.out.next hb11)
      have HY11 := Lib.hid (HY10.out.next hb11)
      have HB11 := Lib.hid (below_after HB10.out hb11)
      clear hw11 hb11 HX10 HY10 HB10 HD10 HH10
      by_cases hd0 : ds.length = 0
      · have hab := HDL.out.eq hd0
        have HAB := Lib.hid hab
        have hd1 : ((ds.length : Int) == 0) = true := by simp [hd0]
        clear hab hd0
        go_wp2_with fail
        refine (samePairs_any _ _ qc rc a b _ HX11.out HY11.out (by simp only [maxLen]; omega) (by simp only [maxLen]; omega)).mono ?_
        rw [show decide (a = b) = true from decide_eq_true HAB.out]
        rintro e w12 ⟨rfl, n12, hw12⟩
        have hb12 : Below w11.heap.size w11 w12 := by rw [hw12]; exact below_drewN (Below.refl _ _) n12
        have HB12 := Lib.hid (below_after HB11.out hb12)
        clear hw12 hb12
        go_wp2_with fail
        go_ret
        exact ⟨rfl, HB12.out⟩
      · have hw := HDL.out.wrong hd0
        have HW := Lib.hid hw
        have hd1 : ((ds.length : Int) == 0) = false := by rw [beq_eq_false_iff_ne]; omega
        clear hw hd0
        go_wp2_with fail
        refine (applyDiff_any _ D rc dc b ds _ HY11.out HD11.out HTB.out hdl HDL.out.dok (fun h => by cases h) (fun r hr => by rw [HW.out] at hr; cases hr)).mono ?_
        rw [HW.out]
        rintro e w12 ⟨v12, rfl, _, hb12⟩
        have HB12 := Lib.hid (below_after HB11.out hb12)
        clear hb12
        go_wp2_with fail
        go_ret
        exact ⟨rfl, HB12.out⟩
end Go.Proofs.Ytlfnpnkpjdmonaa
