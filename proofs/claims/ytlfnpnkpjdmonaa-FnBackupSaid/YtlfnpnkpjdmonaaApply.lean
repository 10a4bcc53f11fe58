import Derived.Test.YtlfnpnkpjdmonaaDiffW
set_option linter.unusedVariables false
set_option linter.unusedSimpArgs false
namespace Go.Proofs.Ytlfnpnkpjdmonaa
open Go.RowKit

/-! ### differences, read and laid on -/
theorem add_off (a : Addr) (i j : Nat) (hj : 0 < j) : a.add (i + j) = ⟨(a.add i).block, (a.add i).off + j, none⟩ := by
  unfold Addr.add
  by_cases hi : i = 0 <;> by_cases h : i + j = 0 <;> simp [hi] <;> omega
theorem df_at {l : List Df} {i : Nat} (h : i < l.length) : (flat encD l)[i * 5]? = some (.string l[i].key) ∧ (flat encD l)[i * 5 + 1]? = some (.string l[i].old) ∧ (flat encD l)[i * 5 + 2]? = some (.string l[i].new) ∧ (flat encD l)[i * 5 + 3]? = some (.bool l[i].had) ∧ (flat encD l)[i * 5 + 4]? = some (.bool l[i].has) :=
  ⟨by simpa using flat_get (j := 0) encD_len (List.getElem?_eq_getElem h) rfl, flat_get (j := 1) encD_len (List.getElem?_eq_getElem h) rfl, flat_get (j := 2) encD_len (List.getElem?_eq_getElem h) rfl, flat_get (j := 3) encD_len (List.getElem?_eq_getElem h) rfl, flat_get (j := 4) encD_len (List.getElem?_eq_getElem h) rfl⟩
theorem Rd.df {w : World} {B : Nat} {A : Option Addr} {l : List Df} (h : Rd w B A (flat encD l)) {i : Nat} (hi : i < l.length) : ∃ ad, A = some ad ∧ ad.block < B ∧ w.cell? (ad.add (i * 5)) = some (.string l[i].key) ∧ w.cell? ⟨(ad.add (i * 5)).block, (ad.add (i * 5)).off + 1, none⟩ = some (.string l[i].old) ∧ w.cell? ⟨(ad.add (i * 5)).block, (ad.add (i * 5)).off + 1 + 1, none⟩ = some (.string l[i].new) ∧ w.cell? ⟨(ad.add (i * 5)).block, (ad.add (i * 5)).off + 1 + 1 + 1, none⟩ = some (.bool l[i].had) ∧ w.cell? ⟨(ad.add (i * 5)).block, (ad.add (i * 5)).off + 1 + 1 + 1 + 1, none⟩ = some (.bool l[i].has) := by
  obtain ⟨ad, e, hb, hc⟩ := h (by
    intro h0
    have := flat_length encD_len l
    rw [h0] at this
    simp at this
    omega)
  exact ⟨ad, e, hb, hc _ _ (df_at hi).1, add_off ad (i * 5) 1 (by omega) ▸ hc _ _ (df_at hi).2.1, add_off ad (i * 5) 2 (by omega) ▸ hc _ _ (df_at hi).2.2.1, add_off ad (i * 5) 3 (by omega) ▸ hc _ _ (df_at hi).2.2.2.1, add_off ad (i * 5) 4 (by omega) ▸ hc _ _ (df_at hi).2.2.2.2⟩
theorem diffOK_any (d : Df) (w : World) (h : DOk d) : Calls Try.prog 151 #[dfV d] w fun e w' => e = .returned (.bool true) ∧ Below w.heap.size w w' := by
  obtain ⟨key, old, new, had, has⟩ := d
  have hk := h.key
  have ho : old.size ≤ 90 := h.old
  have hn : new.size ≤ 90 := h.new
  have hb : Below w.heap.size w (w.alloc (.cells #[.string key, .string old, .string new, .bool had, .bool has] 145)) := by repeat (first | exact Below.refl _ _ | assumption | refine Below.drew ?_ | refine below_drewN ?_ _ | refine Below.setCell ?_ (by first | exact Nat.le_refl _ | exact Below.size (by assumption) | (simp; done) | (simp; omega) | omega) _ | refine Below.alloc ?_ (by first | exact Nat.le_refl _ | exact Below.size (by assumption) | (simp; done) | (simp; omega) | omega) _)
  have HB := Lib.hid hb
  have HK := Lib.hid hk
  have h30 : key.size ≤ 30 := withinB_le hk
  have h1 := h.one
  have h2 := h.noOld
  have h3 := h.noNew
  clear h hk hb
  cases had <;> cases has
  · simp at h1
  · have h4 : old = ⟨#[]⟩ := h2 rfl
    subst h4
    clear h1 h2 h3
    go_enter Try.func151, Try.ntmps151
    go_wp2_with fail
    refine (keyOK_any key _ (by omega)).mono ?_
    rw [HK.out]
    rintro e w1 ⟨rfl, rfl⟩
    go_wp2_with fail
    go_ret
    exact ⟨rfl, HB.out⟩
  · have h4 : new = ⟨#[]⟩ := h3 rfl
    subst h4
    clear h1 h2 h3
    go_enter Try.func151, Try.ntmps151
    go_wp2_with fail
    refine (keyOK_any key _ (by omega)).mono ?_
    rw [HK.out]
    rintro e w1 ⟨rfl, rfl⟩
    go_wp2_with fail
    go_ret
    exact ⟨rfl, HB.out⟩
  · clear h1 h2 h3
    go_enter Try.func151, Try.ntmps151
    go_wp2_with fail
    refine (keyOK_any key _ (by omega)).mono ?_
    rw [HK.out]
    rintro e w1 ⟨rfl, rfl⟩
    go_wp2_with fail
    go_ret
    exact ⟨rfl, HB.out⟩
/-- what the program answers where differences are laid on a list -/
def AppPost (l : List Pr) (r : Option (List Pr)) (w : World) (e : Ending) (w' : World) : Prop := MadeT (r.getD l) (if r.isSome then 0 else 18) w e w'
/-- what applying comes to, with the code -/
def appR (l : List Pr) (ds : List Df) : List Pr × Int := match applyM l ds with
  | none => (l, 18)
  | some o => if o.length ≤ 60 then (o, 0) else (l, 7)
theorem appR_none {l : List Pr} {ds : List Df} (h : applyM l ds = none) : appR l ds = (l, 18) := by unfold appR; rw [h]
theorem appR_some {l o : List Pr} {ds : List Df} (h : applyM l ds = some o) (hl : o.length ≤ 60) : appR l ds = (o, 0) := by unfold appR; rw [h]; exact if_pos hl
theorem appR_full {l o : List Pr} {ds : List Df} (h : applyM l ds = some o) (hl : 60 < o.length) : appR l ds = (l, 7) := by unfold appR; rw [h]; exact if_neg (by omega)
theorem layD_rise {l : List Pr} (h : Rise l) (d : Df) : Rise (layD l d) := by
  unfold layD
  split
  · exact rise_putP h _ _
  · exact rise_dropP h _
theorem layD_len (l : List Pr) (d : Df) : (layD l d).length ≤ l.length + 1 := by
  unfold layD
  split
  · exact len_putP _ _ _
  · exact Nat.le_succ_of_le (List.length_filter_le _ _)
theorem fits_cases (l : List Pr) (d : Df) : fitsD l d = (if hitP l d.key = d.had then (if hitP l d.key = true then decide (valP l d.key = d.old) else true) else false) := by
  unfold fitsD
  cases h1 : hitP l d.key <;> cases h2 : d.had <;> simp
set_option maxRecDepth 100000 in
set_option maxHeartbeats 4000000 in
theorem applyDiffsG_any (A B : Option Addr) (ca cb : Nat) (l : List Pr) (ds : List Df) (w : World) (hx : Rd w w.heap.size A (flat encP l)) (hy : Rd w w.heap.size B (flat encD ds)) (hl : l.length ≤ 60) (hd : ds.length ≤ 120) (hr : Rise l) (hok : ∀ d ∈ ds, DOk d) (hn : A = none → ca = 0) :
    Calls Try.prog 132 #[.slice A l.length ca, .slice B ds.length cb] w (MadeT (appR l ds).1 (appR l ds).2 w) := by
  have HX := Lib.hid hx
  have HY := Lib.hid hy
  have HR := Lib.hid hr
  have HOK := Lib.hid hok
  have HN := Lib.hid hn
  clear hx hy hr hok hn
  go_enter Try.func132, Try.ntmps132
  go_wp2_with fail
  refine (clone_any A ca l _ HX.out (by omega) HN.out).mono ?_
  rintro e w1 ⟨v1, rfl, ho1, hb1⟩
  have HO1 := Lib.hid ho1
  have HB1 := Lib.hid hb1
  clear ho1 hb1
  go_wp2_with fail
  go_loopw [6, 15] (fun v x wr => ∃ (k : Nat) (cur : List Pr), x = .int .i64 k ∧ k ≤ ds.length ∧ applyM cur (ds.drop k) = applyM l ds ∧ Rise cur ∧ cur.length ≤ l.length + k ∧ wr.ownsRow w.heap.size 82 2 v cur.length (flat encP cur) ∧ Below w.heap.size w wr) (fun _ x _ => ds.length - (intOf x).toNat)
  case atStart => exact ⟨0, l, rfl, Nat.zero_le _, rfl, HR.out, by omega, HO1.out, HB1.out⟩
  case round =>
    obtain ⟨k, cur, rfl, hk, heq, hrc, hlc, ho, hb⟩ := hrel
    obtain ⟨C, cc, rfl, hcn⟩ := own_form ho
    have HE := Lib.hid heq
    have HRC := Lib.hid hrc
    have HO := Lib.hid ho
    have HB := Lib.hid hb
    have hsw := hb.size
    clear heq hrc ho HO1 HB1
    by_cases hkl : k < ds.length
    · obtain ⟨ad, rfl, hla0, h0, h1, h2, h3, h4⟩ := (HY.out.next hb).df hkl
      have hdd := List.drop_eq_getElem_cons hkl
      have HDK : Hid (DOk ds[k]) := HOK.out _ (List.getElem_mem hkl)
      obtain ⟨d, hde⟩ : ∃ d, d = ds[k] := ⟨_, rfl⟩
      rw [← hde] at hdd h0 h1 h2 h3 h4 HDK
      obtain ⟨key, old, new, had, has⟩ := d
      have HDD := Lib.hid hdd
      have hba : Below wr.heap.size wr (wr.alloc (.cells #[.string key, .string old, .string new, .bool had, .bool has] 145)) := by repeat (first | exact Below.refl _ _ | assumption | refine Below.drew ?_ | refine below_drewN ?_ _ | refine Below.setCell ?_ (by first | exact Nat.le_refl _ | exact Below.size (by assumption) | (simp; done) | (simp; omega) | omega) _ | refine Below.alloc ?_ (by first | exact Nat.le_refl _ | exact Below.size (by assumption) | (simp; done) | (simp; omega) | omega) _)
      have HOA := Lib.hid (own_below HO.out hba)
      have HBA := Lib.hid (below_after hb hba)
      have hcl : cur.length ≤ 1048575 := by omega
      have hnew := heap_alloc_new wr (.cells #[.string key, .string old, .string new, .bool had, .bool has] 145)
      have HNW := Lib.hid hnew
      clear hde hdd hb hba hnew
      go_wp2_with fail
      refine (diffOK_any ⟨key, old, new, had, has⟩ _ HDK.out).mono ?_
      rintro e w2 ⟨rfl, hb2⟩
      have HO2 := Lib.hid (own_below HOA.out hb2)
      have HB2 := Lib.hid (below_after HBA.out hb2)
      have hs2 := hb2.size
      simp only [World.size_alloc] at hs2
      have hn2 : w2.heap[wr.heap.size]? = some (.cells #[.string key, .string old, .string new, .bool had, .bool has] 145 (0, 0)) := (hb2.block _ (by simp)).trans HNW.out
      have HN2 := Lib.hid hn2
      have g0 : w2.cell? ⟨wr.heap.size, 0, none⟩ = some (.string key) := by rw [cell_of_row w2 _ 0 _ _ _ hn2]; rfl
      clear hb2 hn2 h0 h1 h2 h3 h4
      go_wp2_with fail
      refine (pairAt_any C cc cur key _ (Rd.own HO2.out) (by omega) HRC.out).mono ?_
      rintro e w3 ⟨rfl, hb3⟩
      have HO3 := Lib.hid (own_below HO2.out hb3)
      have HB3 := Lib.hid (below_after HB2.out hb3)
      have hs3 := hb3.size
      have hn3 : w3.heap[wr.heap.size]? = some (.cells #[.string key, .string old, .string new, .bool had, .bool has] 145 (0, 0)) := (hb3.block _ (by omega)).trans HN2.out
      have k0 : w3.cell? ⟨wr.heap.size, 0, none⟩ = some (.string key) := by rw [cell_of_row w3 _ 0 _ _ _ hn3]; rfl
      have k1 : w3.cell? ⟨wr.heap.size, 1, none⟩ = some (.string old) := by rw [cell_of_row w3 _ 1 _ _ _ hn3]; rfl
      have k2 : w3.cell? ⟨wr.heap.size, 2, none⟩ = some (.string new) := by rw [cell_of_row w3 _ 2 _ _ _ hn3]; rfl
      have k3 : w3.cell? ⟨wr.heap.size, 3, none⟩ = some (.bool had) := by rw [cell_of_row w3 _ 3 _ _ _ hn3]; rfl
      have k4 : w3.cell? ⟨wr.heap.size, 4, none⟩ = some (.bool has) := by rw [cell_of_row w3 _ 4 _ _ _ hn3]; rfl
      have hw3 : w.heap.size ≤ w3.heap.size := HB3.out.size
      have hfit := fits_cases cur ⟨key, old, new, had, has⟩
      simp only at hfit
      clear hb3 hn3 g0 HN2 HNW HO2 HB2 HOA HBA hs2 hs3
      have HE2 := HE.out
      rw [HDD.out, applyM] at HE2
      have HE3 := Lib.hid HE2
      clear HE2 HE
      obtain ⟨I, hI⟩ : ∃ I, I = atP cur key := ⟨_, rfl⟩
      rw [← hI]
      cases hh : hitP cur key <;> cases had
      · have hF : fitsD cur _ = true := hfit.trans (by rw [hh]; simp)
        have HE4 := HE3.out
        rw [if_pos hF] at HE4
        have HE3 := Lib.hid HE4
        clear HE4 hF hfit
        clear hh hI
        cases has
        · go_wp2_with fail
          go_quiet (fail)
          go_wp2_with fail
          refine (dropPair_any w.heap.size (.slice C cur.length cc) cur key _ (own_below HO3.out (by repeat (first | exact Below.refl _ _ | assumption | refine Below.drew ?_ | refine below_drewN ?_ _ | refine Below.setCell ?_ (by first | exact Nat.le_refl _ | exact Below.size (by assumption) | (simp; done) | (simp; omega) | omega) _ | refine Below.alloc ?_ (by first | exact Nat.le_refl _ | exact Below.size (by assumption) | (simp; done) | (simp; omega) | omega) _))) HRC.out hcl (by simp; omega)).mono ?_
          rintro e w4 ⟨v4, rfl, ho4, hg4⟩
          have HO4 := Lib.hid ho4
          have HB4 : Hid (Below w.heap.size w w4) := Below.grown (w' := _) (show Below w.heap.size w _ from below_after HB3.out (by repeat (first | exact Below.refl _ _ | assumption | refine Below.drew ?_ | refine below_drewN ?_ _ | refine Below.setCell ?_ (by first | exact Nat.le_refl _ | exact Below.size (by assumption) | (simp; done) | (simp; omega) | omega) _ | refine Below.alloc ?_ (by first | exact Nat.le_refl _ | exact Below.size (by assumption) | (simp; done) | (simp; omega) | omega) _))) hg4 (by simp; omega) (fun q hq => (HO3.out.lt q hq).1)
          clear ho4 hg4
          go_wp2_with fail
          go_roundw
          case rel =>
            refine ⟨k + 1, layD cur _, by go_num, hkl, HE3.out, layD_rise HRC.out _, Nat.le_trans (layD_len _ _) (by omega), HO4.out, HB4.out⟩
          case measure => simp [intOf]; omega
        · go_wp2_with fail
          go_quiet (fail)
          go_wp2_with fail
          refine (putPair_any w.heap.size (.slice C cur.length cc) cur key new _ (own_below HO3.out (by repeat (first | exact Below.refl _ _ | assumption | refine Below.drew ?_ | refine below_drewN ?_ _ | refine Below.setCell ?_ (by first | exact Nat.le_refl _ | exact Below.size (by assumption) | (simp; done) | (simp; omega) | omega) _ | refine Below.alloc ?_ (by first | exact Nat.le_refl _ | exact Below.size (by assumption) | (simp; done) | (simp; omega) | omega) _))) HRC.out hcl (by simp; omega)).mono ?_
          rintro e w4 ⟨v4, rfl, ho4, hg4⟩
          have HO4 := Lib.hid ho4
          have HB4 : Hid (Below w.heap.size w w4) := Below.grown (w' := _) (show Below w.heap.size w _ from below_after HB3.out (by repeat (first | exact Below.refl _ _ | assumption | refine Below.drew ?_ | refine below_drewN ?_ _ | refine Below.setCell ?_ (by first | exact Nat.le_refl _ | exact Below.size (by assumption) | (simp; done) | (simp; omega) | omega) _ | refine Below.alloc ?_ (by first | exact Nat.le_refl _ | exact Below.size (by assumption) | (simp; done) | (simp; omega) | omega) _))) hg4 (by simp; omega) (fun q hq => (HO3.out.lt q hq).1)
          clear ho4 hg4
          go_wp2_with fail
          go_roundw
          case rel =>
            refine ⟨k + 1, layD cur _, by go_num, hkl, HE3.out, layD_rise HRC.out _, Nat.le_trans (layD_len _ _) (by omega), HO4.out, HB4.out⟩
          case measure => simp [intOf]; omega
      · have hF : fitsD cur _ = false := hfit.trans (by rw [hh]; simp)
        have HE4 := HE3.out
        rw [if_neg (by rw [hF]; simp)] at HE4
        have HE3 := Lib.hid HE4
        clear HE4 hF hfit
        clear hh hI
        go_wp2_with fail
        go_quiet (fail)
        go_wp2_with fail
        refine (clone_any A ca l _ (HX.out.next (show Below w.heap.size w _ from below_after HB3.out (by repeat (first | exact Below.refl _ _ | assumption | refine Below.drew ?_ | refine below_drewN ?_ _ | refine Below.setCell ?_ (by first | exact Nat.le_refl _ | exact Below.size (by assumption) | (simp; done) | (simp; omega) | omega) _ | refine Below.alloc ?_ (by first | exact Nat.le_refl _ | exact Below.size (by assumption) | (simp; done) | (simp; omega) | omega) _)))) (by omega) HN.out).mono ?_
        rintro e w4 ⟨v4, rfl, ho4, hb4⟩
        have HB4 : Hid (Below w.heap.size w w4) := below_after (show Below w.heap.size w _ from below_after HB3.out (by repeat (first | exact Below.refl _ _ | assumption | refine Below.drew ?_ | refine below_drewN ?_ _ | refine Below.setCell ?_ (by first | exact Nat.le_refl _ | exact Below.size (by assumption) | (simp; done) | (simp; omega) | omega) _ | refine Below.alloc ?_ (by first | exact Nat.le_refl _ | exact Below.size (by assumption) | (simp; done) | (simp; omega) | omega) _))) hb4
        have HO4 := Lib.hid (own_mono ho4 (show w.heap.size ≤ _ by simp; omega))
        clear ho4 hb4
        go_wp2_with fail
        go_ret2
        have e : applyM l ds = none := HE3.out.symm
        rw [appR_none e]
        exact ⟨_, rfl, HO4.out, HB4.out⟩
      · have hF : fitsD cur _ = false := hfit.trans (by rw [hh]; simp)
        have HE4 := HE3.out
        rw [if_neg (by rw [hF]; simp)] at HE4
        have HE3 := Lib.hid HE4
        clear HE4 hF hfit
        clear hh hI
        go_wp2_with fail
        go_quiet (fail)
        go_wp2_with fail
        refine (clone_any A ca l _ (HX.out.next (show Below w.heap.size w _ from below_after HB3.out (by repeat (first | exact Below.refl _ _ | assumption | refine Below.drew ?_ | refine below_drewN ?_ _ | refine Below.setCell ?_ (by first | exact Nat.le_refl _ | exact Below.size (by assumption) | (simp; done) | (simp; omega) | omega) _ | refine Below.alloc ?_ (by first | exact Nat.le_refl _ | exact Below.size (by assumption) | (simp; done) | (simp; omega) | omega) _)))) (by omega) HN.out).mono ?_
        rintro e w4 ⟨v4, rfl, ho4, hb4⟩
        have HB4 : Hid (Below w.heap.size w w4) := below_after (show Below w.heap.size w _ from below_after HB3.out (by repeat (first | exact Below.refl _ _ | assumption | refine Below.drew ?_ | refine below_drewN ?_ _ | refine Below.setCell ?_ (by first | exact Nat.le_refl _ | exact Below.size (by assumption) | (simp; done) | (simp; omega) | omega) _ | refine Below.alloc ?_ (by first | exact Nat.le_refl _ | exact Below.size (by assumption) | (simp; done) | (simp; omega) | omega) _))) hb4
        have HO4 := Lib.hid (own_mono ho4 (show w.heap.size ≤ _ by simp; omega))
        clear ho4 hb4
        go_wp2_with fail
        go_ret2
        have e : applyM l ds = none := HE3.out.symm
        rw [appR_none e]
        exact ⟨_, rfl, HO4.out, HB4.out⟩
      · obtain ⟨hIl, hIk⟩ := mem_of_hit hh
        have hvv : ∀ h : I < cur.length, cur[I].2 = valP cur key := by
          subst hI
          intro h
          rw [valP, dif_pos h]
        rw [← hI] at hIl
        obtain ⟨ad2, rfl, hl2, _, hcv⟩ := (Rd.own HO3.out).pr hIl
        rw [hvv hIl] at hcv
        obtain ⟨val, hval⟩ : ∃ val, val = valP cur key := ⟨_, rfl⟩
        rw [← hval] at hcv hfit
        clear hIk hvv hval
        by_cases hvo : val = old
        · subst hvo
          have q1 : (val.toList == val.toList) = true := by simp
          have q2 : (val.toList != val.toList) = false := by simp
          have hF : fitsD cur _ = true := hfit.trans (by rw [hh]; simp)
          have HE4 := HE3.out
          rw [if_pos hF] at HE4
          have HE3 := Lib.hid HE4
          clear HE4 hF hfit
          clear hh hI
          cases has
          · go_wp2_with fail
            go_quiet (fail)
            go_wp2_with fail
            refine (dropPair_any w.heap.size (.slice (some ad2) cur.length cc) cur key _ (own_below HO3.out (by repeat (first | exact Below.refl _ _ | assumption | refine Below.drew ?_ | refine below_drewN ?_ _ | refine Below.setCell ?_ (by first | exact Nat.le_refl _ | exact Below.size (by assumption) | (simp; done) | (simp; omega) | omega) _ | refine Below.alloc ?_ (by first | exact Nat.le_refl _ | exact Below.size (by assumption) | (simp; done) | (simp; omega) | omega) _))) HRC.out hcl (by simp; omega)).mono ?_
            rintro e w4 ⟨v4, rfl, ho4, hg4⟩
            have HO4 := Lib.hid ho4
            have HB4 : Hid (Below w.heap.size w w4) := Below.grown (w' := _) (show Below w.heap.size w _ from below_after HB3.out (by repeat (first | exact Below.refl _ _ | assumption | refine Below.drew ?_ | refine below_drewN ?_ _ | refine Below.setCell ?_ (by first | exact Nat.le_refl _ | exact Below.size (by assumption) | (simp; done) | (simp; omega) | omega) _ | refine Below.alloc ?_ (by first | exact Nat.le_refl _ | exact Below.size (by assumption) | (simp; done) | (simp; omega) | omega) _))) hg4 (by simp; omega) (fun q hq => (HO3.out.lt q hq).1)
            clear ho4 hg4
            go_wp2_with fail
            go_roundw
            case rel =>
              refine ⟨k + 1, layD cur _, by go_num, hkl, HE3.out, layD_rise HRC.out _, Nat.le_trans (layD_len _ _) (by omega), HO4.out, HB4.out⟩
            case measure => simp [intOf]; omega
          · go_wp2_with fail
            go_quiet (fail)
            go_wp2_with fail
            refine (putPair_any w.heap.size (.slice (some ad2) cur.length cc) cur key new _ (own_below HO3.out (by repeat (first | exact Below.refl _ _ | assumption | refine Below.drew ?_ | refine below_drewN ?_ _ | refine Below.setCell ?_ (by first | exact Nat.le_refl _ | exact Below.size (by assumption) | (simp; done) | (simp; omega) | omega) _ | refine Below.alloc ?_ (by first | exact Nat.le_refl _ | exact Below.size (by assumption) | (simp; done) | (simp; omega) | omega) _))) HRC.out hcl (by simp; omega)).mono ?_
            rintro e w4 ⟨v4, rfl, ho4, hg4⟩
            have HO4 := Lib.hid ho4
            have HB4 : Hid (Below w.heap.size w w4) := Below.grown (w' := _) (show Below w.heap.size w _ from below_after HB3.out (by repeat (first | exact Below.refl _ _ | assumption | refine Below.drew ?_ | refine below_drewN ?_ _ | refine Below.setCell ?_ (by first | exact Nat.le_refl _ | exact Below.size (by assumption) | (simp; done) | (simp; omega) | omega) _ | refine Below.alloc ?_ (by first | exact Nat.le_refl _ | exact Below.size (by assumption) | (simp; done) | (simp; omega) | omega) _))) hg4 (by simp; omega) (fun q hq => (HO3.out.lt q hq).1)
            clear ho4 hg4
            go_wp2_with fail
            go_roundw
            case rel =>
              refine ⟨k + 1, layD cur _, by go_num, hkl, HE3.out, layD_rise HRC.out _, Nat.le_trans (layD_len _ _) (by omega), HO4.out, HB4.out⟩
            case measure => simp [intOf]; omega
        · obtain ⟨q1, q2⟩ := neL hvo
          have hF : fitsD cur _ = false := hfit.trans (by rw [hh]; simp [hvo])
          have HE4 := HE3.out
          rw [if_neg (by rw [hF]; simp)] at HE4
          have HE3 := Lib.hid HE4
          clear HE4 hF hfit
          clear hh hI
          go_wp2_with fail
          go_quiet (fail)
          go_wp2_with fail
          refine (clone_any A ca l _ (HX.out.next (show Below w.heap.size w _ from below_after HB3.out (by repeat (first | exact Below.refl _ _ | assumption | refine Below.drew ?_ | refine below_drewN ?_ _ | refine Below.setCell ?_ (by first | exact Nat.le_refl _ | exact Below.size (by assumption) | (simp; done) | (simp; omega) | omega) _ | refine Below.alloc ?_ (by first | exact Nat.le_refl _ | exact Below.size (by assumption) | (simp; done) | (simp; omega) | omega) _)))) (by omega) HN.out).mono ?_
          rintro e w4 ⟨v4, rfl, ho4, hb4⟩
          have HB4 : Hid (Below w.heap.size w w4) := below_after (show Below w.heap.size w _ from below_after HB3.out (by repeat (first | exact Below.refl _ _ | assumption | refine Below.drew ?_ | refine below_drewN ?_ _ | refine Below.setCell ?_ (by first | exact Nat.le_refl _ | exact Below.size (by assumption) | (simp; done) | (simp; omega) | omega) _ | refine Below.alloc ?_ (by first | exact Nat.le_refl _ | exact Below.size (by assumption) | (simp; done) | (simp; omega) | omega) _))) hb4
          have HO4 := Lib.hid (own_mono ho4 (show w.heap.size ≤ _ by simp; omega))
          clear ho4 hb4
          go_wp2_with fail
          go_ret2
          have e : applyM l ds = none := HE3.out.symm
          rw [appR_none e]
          exact ⟨_, rfl, HO4.out, HB4.out⟩
    · obtain rfl : k = ds.length := by omega
      have HE3 : Hid (applyM l ds = some cur) := by
        have h := HE.out
        rw [List.drop_length] at h
        exact h.symm
      clear hb
      by_cases hcl : cur.length ≤ 60
      · go_wp2_with fail
        go_ret2
        rw [appR_some HE3.out hcl]
        exact ⟨_, rfl, HO.out, HB.out⟩
      · have hcl' : 60 < cur.length := by omega
        go_wp2_with fail
        refine (clone_any A ca l _ (HX.out.next HB.out) (by omega) HN.out).mono ?_
        rintro e w4 ⟨v4, rfl, ho4, hb4⟩
        have HB4 : Hid (Below w.heap.size w w4) := below_after HB.out hb4
        have HO4 := Lib.hid (own_mono ho4 hsw)
        clear ho4 hb4
        go_wp2_with fail
        go_ret2
        rw [appR_full HE3.out hcl']
        exact ⟨_, rfl, HO4.out, HB4.out⟩
theorem applyDiffs_any (A B : Option Addr) (ca cb : Nat) (l : List Pr) (ds : List Df) (w : World) (hx : Rd w w.heap.size A (flat encP l)) (hy : Rd w w.heap.size B (flat encD ds)) (hl : l.length ≤ 60) (hd : ds.length ≤ 120) (hr : Rise l) (hok : ∀ d ∈ ds, DOk d) (hn : A = none → ca = 0) (h60 : ∀ r, applyM l ds = some r → r.length ≤ 60) :
    Calls Try.prog 132 #[.slice A l.length ca, .slice B ds.length cb] w (AppPost l (applyM l ds) w) := by
  refine (applyDiffsG_any A B ca cb l ds w hx hy hl hd hr hok hn).mono ?_
  cases h : applyM l ds with
  | none => rw [appR_none h]; exact fun _ _ h => h
  | some o => rw [appR_some h (h60 o h)]; exact fun _ _ h => h
end Go.Proofs.Ytlfnpnkpjdmonaa
