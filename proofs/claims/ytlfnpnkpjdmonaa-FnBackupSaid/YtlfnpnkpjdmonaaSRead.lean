import Derived.Test.YtlfnpnkpjdmonaaLinkS
set_option linter.unusedVariables false
set_option linter.unusedSimpArgs false
namespace Go.Proofs.Ytlfnpnkpjdmonaa
open Go.RowKit

/-! ### reading a backup: the reference -/
structure Res (w wr : World) : Prop where
  res : wr.heap[w.heap.size]? = some (.cells #[.string ⟨#[]⟩, .string ⟨#[]⟩, .int .i64 0, .slice none 0 0, .int .i64 0] 86 (0, 0))
  below : Below w.heap.size w wr
theorem SB.r {w wr : World} {gb : Nat} {f t : ByteArray} {ch sm : Int} {v : Value} {ds : List Df} (h : SB w wr gb f t ch v ds sm) : Res w wr := ⟨h.res, h.below⟩
theorem Res.cells {w wr : World} (h : Res w wr) : wr.cell? ⟨w.heap.size, 0, none⟩ = some (.string ⟨#[]⟩) ∧ wr.cell? ⟨w.heap.size, 1, none⟩ = some (.string ⟨#[]⟩) ∧ wr.cell? ⟨w.heap.size, 2, none⟩ = some (.int .i64 0) ∧ wr.cell? ⟨w.heap.size, 3, none⟩ = some (.slice none 0 0) ∧ wr.cell? ⟨w.heap.size, 4, none⟩ = some (.int .i64 0) ∧ wr.frozen? ⟨w.heap.size, 0, none⟩ = false ∧ wr.frozen? ⟨w.heap.size, 1, none⟩ = false ∧ wr.frozen? ⟨w.heap.size, 2, none⟩ = false ∧ wr.frozen? ⟨w.heap.size, 3, none⟩ = false ∧ wr.frozen? ⟨w.heap.size, 4, none⟩ = false :=
  ⟨by rw [cell_of_row wr _ 0 _ _ _ h.res]; rfl, by rw [cell_of_row wr _ 1 _ _ _ h.res]; rfl, by rw [cell_of_row wr _ 2 _ _ _ h.res]; rfl, by rw [cell_of_row wr _ 3 _ _ _ h.res]; rfl, by rw [cell_of_row wr _ 4 _ _ _ h.res]; rfl, Lib.frozen_of_heap h.res 0, Lib.frozen_of_heap h.res 1, Lib.frozen_of_heap h.res 2, Lib.frozen_of_heap h.res 3, Lib.frozen_of_heap h.res 4⟩
theorem Res.out0 {w wr : World} (h : Res w wr) :
    let W := ((((wr.setCell ⟨w.heap.size, 0, none⟩ (.string ⟨#[]⟩)).setCell ⟨w.heap.size, 1, none⟩ (.string ⟨#[]⟩)).setCell ⟨w.heap.size, 2, none⟩ (.int .i64 0)).setCell ⟨w.heap.size, 3, none⟩ (.slice none 0 0)).setCell ⟨w.heap.size, 4, none⟩ (.int .i64 0)
    W.cell? ⟨w.heap.size, 0, none⟩ = some (.string ⟨#[]⟩) ∧ W.cell? ⟨w.heap.size, 1, none⟩ = some (.string ⟨#[]⟩) ∧ W.cell? ⟨w.heap.size, 2, none⟩ = some (.int .i64 0) ∧ W.cell? ⟨w.heap.size, 3, none⟩ = some (.slice none 0 0) ∧ W.cell? ⟨w.heap.size, 4, none⟩ = some (.int .i64 0) ∧ Below w.heap.size w W := by
  intro W
  have hn5 : W.heap[w.heap.size]? = _ := heap_set5 h.res _ _ _ _ _
  exact ⟨by rw [cell_of_row W _ 0 _ _ _ hn5]; rfl, by rw [cell_of_row W _ 1 _ _ _ hn5]; rfl, by rw [cell_of_row W _ 2 _ _ _ hn5]; rfl, by rw [cell_of_row W _ 3 _ _ _ hn5]; rfl, by rw [cell_of_row W _ 4 _ _ _ hn5]; rfl, ((((h.below.setCell (p := ⟨w.heap.size, 0, none⟩) (Nat.le_refl _) _).setCell (p := ⟨w.heap.size, 1, none⟩) (Nat.le_refl _) _).setCell (p := ⟨w.heap.size, 2, none⟩) (Nat.le_refl _) _).setCell (p := ⟨w.heap.size, 3, none⟩) (Nat.le_refl _) _).setCell (p := ⟨w.heap.size, 4, none⟩) (Nat.le_refl _) _⟩
theorem readM_none {l : List UInt8} (h : P0of l = none) : readM l = (bkZero, 3) := by rw [readM_of h]; rfl
set_option maxRecDepth 100000 in
set_option maxHeartbeats 4000000 in
theorem l06Read_any (l : List UInt8) (w : World) (hl : l.length ≤ 65536) :
    Calls Try.prog 163 #[.string (bs l)] w (ReadPost (readM l) w) := by
  have hsz : (bs l).size = l.length := by simp [ByteArray.size]
  have HR0 : Hid (Res w (w.alloc (.cells #[.string ⟨#[]⟩, .string ⟨#[]⟩, .int .i64 0, .slice none 0 0, .int .i64 0] 86))) := ⟨heap_alloc_new _ _, by repeat (first | exact Below.refl _ _ | assumption | refine Below.drew ?_ | refine below_drewN ?_ _ | refine Below.setCell ?_ (by first | exact Nat.le_refl _ | exact Below.size (by assumption) | (simp; done) | (simp; omega) | omega) _ | refine Below.alloc ?_ (by first | exact Nat.le_refl _ | exact Below.size (by assumption) | (simp; done) | (simp; omega) | omega) _)⟩
  by_cases h10 : l.length < 10
  · have HZ := Lib.hid (readM_none (P0_short h10))
    obtain ⟨r0, r1, r2, r3, r4, rf0, rf1, rf2, rf3, rf4⟩ := HR0.out.cells
    go_enter Try.func163, Try.ntmps163
    have HK := Lib.hid HR0.out.out0
    go_wp2_with fail
    generalize ((((((w.alloc (.cells #[.string ⟨#[]⟩, .string ⟨#[]⟩, .int .i64 0, .slice none 0 0, .int .i64 0] 86)).setCell ⟨w.heap.size, 0, none⟩ (.string ⟨#[]⟩)).setCell ⟨w.heap.size, 1, none⟩ (.string ⟨#[]⟩)).setCell ⟨w.heap.size, 2, none⟩ (.int .i64 0)).setCell ⟨w.heap.size, 3, none⟩ (.slice none 0 0)).setCell ⟨w.heap.size, 4, none⟩ (.int .i64 0)) = W5 at HK ⊢
    obtain ⟨z0, z1, z2, z3, z4, hb5⟩ := HK.out
    refine bodyPost_ret (v := .tuple #[bkV ⟨#[]⟩ ⟨#[]⟩ 0 none 0 0 0, .int .i64 3]) (by simp [results, Try.results163, go_sem, z0, z1, z2, z3, z4]) rfl ?_
    rw [HZ.out]
    exact ⟨none, 0, rfl, own_nilRow _ _ _ _, HR0.out.below⟩
  have hcut6 : ((bs l).extract 0 6).toList = l.take 6 := by
    rw [bs_cut, ByteArray.toList_eq, List.drop_zero]
  by_cases hm : l.take 6 = bkMark
  case neg =>
    have HZ := Lib.hid (readM_none (P0_mark hm))
    have qm : (((bs l).extract 0 6).toList == [98, 97, 99, 107, 117, 112]) = false := by
      rw [hcut6]; exact beq_eq_false_iff_ne.2 hm
    obtain ⟨r0, r1, r2, r3, r4, rf0, rf1, rf2, rf3, rf4⟩ := HR0.out.cells
    clear hcut6 hm
    go_enter Try.func163, Try.ntmps163
    have HK := Lib.hid HR0.out.out0
    go_wp2_with fail
    generalize ((((((w.alloc (.cells #[.string ⟨#[]⟩, .string ⟨#[]⟩, .int .i64 0, .slice none 0 0, .int .i64 0] 86)).setCell ⟨w.heap.size, 0, none⟩ (.string ⟨#[]⟩)).setCell ⟨w.heap.size, 1, none⟩ (.string ⟨#[]⟩)).setCell ⟨w.heap.size, 2, none⟩ (.int .i64 0)).setCell ⟨w.heap.size, 3, none⟩ (.slice none 0 0)).setCell ⟨w.heap.size, 4, none⟩ (.int .i64 0)) = W5 at HK ⊢
    obtain ⟨z0, z1, z2, z3, z4, hb5⟩ := HK.out
    refine bodyPost_ret (v := .tuple #[bkV ⟨#[]⟩ ⟨#[]⟩ 0 none 0 0 0, .int .i64 3]) (by simp [results, Try.results163, go_sem, z0, z1, z2, z3, z4]) rfl ?_
    rw [HZ.out]
    exact ⟨none, 0, rfl, own_nilRow _ _ _ _, HR0.out.below⟩
  have qm : (((bs l).extract 0 6).toList == [98, 97, 99, 107, 117, 112]) = true := by
    rw [hcut6]; exact beq_iff_eq.2 hm
  obtain ⟨ch, hch⟩ : ∃ ch, ch = be ((l.drop 6).take 4) := ⟨_, rfl⟩
  have hp0 := P0_head hm h10
  rw [← hch] at hp0
  have HP0 := Lib.hid hp0
  have HOF : Hid (∀ W : World, Calls Try.prog 185 #[.string ((bs l).extract 6 10)] W fun e w' => e = .returned (.int .i64 ch) ∧ W = w') := fun W => by
    rw [hch]; exact l01Of_str _ _ (bs_cut l 6 10) W (by simp; omega)
  have HCH := Lib.hid hch
  clear hp0 hcut6 hm hch
  go_enter Try.func163, Try.ntmps163
  have HCUT : Hid (∀ W : World, Calls Try.prog 225 #[.string (bs l), .int .i64 10, .int .i64 2] W (CutPost l 10 2 W)) := fun W => l06Cut_any l 10 2 W hl (by omega) (by omega)
  go_wp2_with (go_at_call 185; with_reducible refine (HOF.out _).mono ?_; rintro e w' ⟨rfl, rfl⟩)
  have hsb1 : SB w (((w.alloc (.cells #[.string ⟨#[]⟩, .string ⟨#[]⟩, .int .i64 0, .slice none 0 0, .int .i64 0] 86)).alloc (.cells #[] 145)).alloc (.cells #[.string ⟨#[]⟩, .string ⟨#[]⟩, .int .i64 ch, .slice (some ⟨w.heap.size + 1, 0, none⟩) 0 0, .int .i64 0] 86)) (w.heap.size + 1 + 1) ⟨#[]⟩ ⟨#[]⟩ ch (.slice (some ⟨w.heap.size + 1, 0, none⟩) 0 0) [] 0 := by
    refine ⟨?_, ?_, own_empty_at (Nat.le_succ _) ?_, by repeat (first | exact Below.refl _ _ | assumption | refine Below.drew ?_ | refine below_drewN ?_ _ | refine Below.setCell ?_ (by first | exact Nat.le_refl _ | exact Below.size (by assumption) | (simp; done) | (simp; omega) | omega) _ | refine Below.alloc ?_ (by first | exact Nat.le_refl _ | exact Below.size (by assumption) | (simp; done) | (simp; omega) | omega) _), by omega⟩
    · exact (Lib.alloc_old _ _ _ (by simp; omega)).trans ((Lib.alloc_old _ _ _ (by simp)).trans (heap_alloc_new _ _))
    · have h := heap_alloc_new ((w.alloc (.cells #[.string ⟨#[]⟩, .string ⟨#[]⟩, .int .i64 0, .slice none 0 0, .int .i64 0] 86)).alloc (.cells #[] 145)) (.cells #[.string ⟨#[]⟩, .string ⟨#[]⟩, .int .i64 ch, .slice (some ⟨w.heap.size + 1, 0, none⟩) 0 0, .int .i64 0] 86)
      rwa [World.size_alloc, World.size_alloc] at h
    · have h := heap_alloc_new (w.alloc (.cells #[.string ⟨#[]⟩, .string ⟨#[]⟩, .int .i64 0, .slice none 0 0, .int .i64 0] 86)) (.cells #[] 145)
      rw [World.size_alloc] at h
      exact (Lib.alloc_old _ _ _ (by simp)).trans h
  refine (HCUT.out _).mono ?_
  rintro e w4 ⟨v4, a4, ok4, ns, rfl, ho4, hb4, hq4⟩
  have HSB4 := Lib.hid (hsb1.old hb4)
  have hsz4 := hb4.size
  cases hx : rdX 2 (l.drop 10) with
  | none =>
    rw [hx] at hq4
    obtain rfl : ok4 = false := hq4
    have HZ := Lib.hid (readM_none (HP0.out.trans (K2_none hx)))
    clear hsb1 hx ho4 hb4
    obtain ⟨r0, r1, r2, r3, r4, rf0, rf1, rf2, rf3, rf4⟩ := HSB4.out.r.cells
    have HK := Lib.hid HSB4.out.r.out0
    go_wp2_with fail
    generalize (((((w4.setCell ⟨w.heap.size, 0, none⟩ (.string ⟨#[]⟩)).setCell ⟨w.heap.size, 1, none⟩ (.string ⟨#[]⟩)).setCell ⟨w.heap.size, 2, none⟩ (.int .i64 0)).setCell ⟨w.heap.size, 3, none⟩ (.slice none 0 0)).setCell ⟨w.heap.size, 4, none⟩ (.int .i64 0)) = W5 at HK ⊢
    obtain ⟨z0, z1, z2, z3, z4, hb5⟩ := HK.out
    refine bodyPost_ret (v := .tuple #[bkV ⟨#[]⟩ ⟨#[]⟩ 0 none 0 0 0, .int .i64 3]) (by simp [results, Try.results163, go_sem, z0, z1, z2, z3, z4]) rfl ?_
    rw [HZ.out]
    exact ⟨none, 0, rfl, own_nilRow _ _ _ _, hb5⟩
  | some p =>
    rw [hx] at hq4
    obtain ⟨rfl, rfl, rfl, hpd, hpl⟩ := hq4
    obtain ⟨ns, rr⟩ := p
    have hnl : ns.length = 2 := rdX_len hx
    have HP1 := Lib.hid (HP0.out.trans (K2_some hx))
    dsimp only at ho4 hpd hpl HP1 hnl
    obtain ⟨a, ha⟩ : ∃ a, a = l.length - rr.length := ⟨_, rfl⟩
    rw [← ha] at hpd ⊢
    have hrl : rr.length = l.length - a := by omega
    have ha0 : 0 < a := by omega
    clear hx hsb1 hb4
    by_cases hal : rr.length < 1
    · have HZ := Lib.hid (readM_none (HP1.out.trans (K3_none hal)))
      have hae : a = l.length := by omega
      clear ho4 hpd hnl hrl ha hal hpl
      subst hae
      obtain ⟨r0, r1, r2, r3, r4, rf0, rf1, rf2, rf3, rf4⟩ := HSB4.out.r.cells
      have HK := Lib.hid HSB4.out.r.out0
      go_wp2_with fail
      generalize (((((w4.setCell ⟨w.heap.size, 0, none⟩ (.string ⟨#[]⟩)).setCell ⟨w.heap.size, 1, none⟩ (.string ⟨#[]⟩)).setCell ⟨w.heap.size, 2, none⟩ (.int .i64 0)).setCell ⟨w.heap.size, 3, none⟩ (.slice none 0 0)).setCell ⟨w.heap.size, 4, none⟩ (.int .i64 0)) = W5 at HK ⊢
      obtain ⟨z0, z1, z2, z3, z4, hb5⟩ := HK.out
      refine bodyPost_ret (v := .tuple #[bkV ⟨#[]⟩ ⟨#[]⟩ 0 none 0 0 0, .int .i64 3]) (by simp [results, Try.results163, go_sem, z0, z1, z2, z3, z4]) rfl ?_
      rw [HZ.out]
      exact ⟨none, 0, rfl, own_nilRow _ _ _ _, hb5⟩
    · have hlt : a < l.length := by omega
      obtain ⟨n0, n1, rfl⟩ : ∃ n0 n1, ns = [n0, n1] := by
        match ns, hnl with
        | [n0, n1], _ => exact ⟨n0, n1, rfl⟩
      have hbe : be (rr.take 1) = l[a].toNat := by
        rw [hpd, List.drop_eq_getElem_cons hlt, show (l[a] :: l.drop (a + 1)).take 1 = [l[a]] from rfl, be_single]
      obtain ⟨many, hmn⟩ : ∃ many, l[a].toNat = many := ⟨_, rfl⟩
      rw [hmn] at hbe
      have hp1 := HP1.out.trans (K3_some hal)
      rw [hbe, hpd, List.drop_drop] at hp1
      have HP2 := Lib.hid hp1
      obtain ⟨gx, cx, rfl, hcx, hgx0, hgx1, ⟨cur, hcur⟩, hget⟩ := own_row ho4 (by simp)
      have k0 := hget 0 n0 rfl
      have k1 := hget 1 n1 rfl
      have hne : gx ≠ w.heap.size + 1 + 1 := by
        intro e
        rw [e, HSB4.out.box] at hcur
        injection hcur with hcur
        injection hcur with _ h2 _
        exact absurd h2 (by decide)
      obtain ⟨j0, j1, j2, j3, j4, rf⟩ := HSB4.out.boxCells
      have f0 := rf 0
      have f1 := rf 1
      have hby : many < 256 := by rw [← hmn]; exact l[a].toNat_lt
      have q39 : decide (l.length ≤ a) = false := decide_eq_false (by omega)
      have hlz : a < (bs l).size := by rw [hsz]; exact hlt
      have hg : (bs l)[a]'hlz = l[a] := rfl
      clear rf hp1 hbe hal hget hcur hpd ho4 hrl ha hpl
      have kk0 := keepSet (a := ⟨w.heap.size + 1 + 1, 0, none⟩) (v := .string (bs n0)) (p := ⟨gx, 1, none⟩) hne k1
      have hsb5 : SB w ((w4.setCell ⟨w.heap.size + 1 + 1, 0, none⟩ (.string (bs n0))).setCell ⟨w.heap.size + 1 + 1, 1, none⟩ (.string (bs n1))) (w.heap.size + 1 + 1) (bs n0) (bs n1) ch (.slice (some ⟨w.heap.size + 1, 0, none⟩) 0 0) [] 0 := (HSB4.out.field 0 _ rfl).field 1 _ rfl
      have HSB5 := Lib.hid hsb5
      clear hsb5
      go_wp2_with fail
      clear j0 j1 j2 j3 j4 f0 f1 k0 k1 kk0
      go_loopw [6, 9] (fun at_ i wr => ∃ (k b : Nat) (v : Value) (ds : List Df), i = .int .i64 k ∧ k ≤ many ∧ at_ = .int .i64 b ∧ b ≤ l.length ∧ P0of l = K4d ch [n0, n1] ds (many - k) (l.drop b) ∧ ds.length = k ∧ SB w wr (w.heap.size + 1 + 1) (bs n0) (bs n1) ch v ds 0) (fun _ i _ => many - (intOf i).toNat)
      case atStart => exact ⟨0, a + 1, _, [], rfl, Nat.zero_le _, by go_num, hlt, HP2.out, rfl, HSB5.out⟩
      case round =>
        obtain ⟨k, b, v, ds, rfl, hk, rfl, hbl, hp, hdl, hsb⟩ := hrel
        subst hdl
        obtain ⟨D, dc, rfl, _⟩ := own_form hsb.own
        have HP := Lib.hid hp
        have HSB := Lib.hid hsb
        clear hp hsb HSB5 HP2 hmn hg hlz
        by_cases hkm : ds.length < many
        · rw [show many - ds.length = (many - (ds.length + 1)) + 1 by omega] at HP
          by_cases hbt : b < l.length
          case neg =>
            have HZ := Lib.hid (readM_none (HP.out.trans (K4d_none (rdD_end hbt))))
            obtain rfl : b = l.length := by omega
            obtain ⟨r0, r1, r2, r3, r4, rf0, rf1, rf2, rf3, rf4⟩ := HSB.out.r.cells
            have HK := Lib.hid HSB.out.r.out0
            go_wp2_with fail
            generalize (((((wr.setCell ⟨w.heap.size, 0, none⟩ (.string ⟨#[]⟩)).setCell ⟨w.heap.size, 1, none⟩ (.string ⟨#[]⟩)).setCell ⟨w.heap.size, 2, none⟩ (.int .i64 0)).setCell ⟨w.heap.size, 3, none⟩ (.slice none 0 0)).setCell ⟨w.heap.size, 4, none⟩ (.int .i64 0)) = W5 at HK ⊢
            obtain ⟨z0, z1, z2, z3, z4, hb5⟩ := HK.out
            refine bodyPost_ret (v := .tuple #[bkV ⟨#[]⟩ ⟨#[]⟩ 0 none 0 0 0, .int .i64 3]) (by simp [results, Try.results163, go_sem, z0, z1, z2, z3, z4]) rfl ?_
            rw [HZ.out]
            exact ⟨none, 0, rfl, own_nilRow _ _ _ _, hb5⟩
          have hbz : b < (bs l).size := by rw [hsz]; exact hbt
          have hg : (bs l)[b]'hbz = l[b] := rfl
          by_cases hm0 : l[b].toNat = 0
          · have HZ : Hid (readM l = (bkZero, 3)) := (readM_of HP.out).trans (K4d_at0 hbt hm0)
            obtain ⟨r0, r1, r2, r3, r4, rf0, rf1, rf2, rf3, rf4⟩ := HSB.out.r.cells
            have HK := Lib.hid HSB.out.r.out0
            go_wp2_with fail
            generalize (((((wr.setCell ⟨w.heap.size, 0, none⟩ (.string ⟨#[]⟩)).setCell ⟨w.heap.size, 1, none⟩ (.string ⟨#[]⟩)).setCell ⟨w.heap.size, 2, none⟩ (.int .i64 0)).setCell ⟨w.heap.size, 3, none⟩ (.slice none 0 0)).setCell ⟨w.heap.size, 4, none⟩ (.int .i64 0)) = W5 at HK ⊢
            obtain ⟨z0, z1, z2, z3, z4, hb5⟩ := HK.out
            refine bodyPost_ret (v := .tuple #[bkV ⟨#[]⟩ ⟨#[]⟩ 0 none 0 0 0, .int .i64 3]) (by simp [results, Try.results163, go_sem, z0, z1, z2, z3, z4]) rfl ?_
            rw [HZ.out]
            exact ⟨none, 0, rfl, own_nilRow _ _ _ _, hb5⟩
          by_cases hm3 : 3 < l[b].toNat
          · have HZ : Hid (readM l = (bkZero, 3)) := readM_none (HP.out.trans (K4d_at3 hbt hm3))
            have hm3' : (3 : Int) < (l[b].toNat : Int) := by omega
            obtain ⟨r0, r1, r2, r3, r4, rf0, rf1, rf2, rf3, rf4⟩ := HSB.out.r.cells
            have HK := Lib.hid HSB.out.r.out0
            go_wp2_with fail
            generalize (((((wr.setCell ⟨w.heap.size, 0, none⟩ (.string ⟨#[]⟩)).setCell ⟨w.heap.size, 1, none⟩ (.string ⟨#[]⟩)).setCell ⟨w.heap.size, 2, none⟩ (.int .i64 0)).setCell ⟨w.heap.size, 3, none⟩ (.slice none 0 0)).setCell ⟨w.heap.size, 4, none⟩ (.int .i64 0)) = W5 at HK ⊢
            obtain ⟨z0, z1, z2, z3, z4, hb5⟩ := HK.out
            refine bodyPost_ret (v := .tuple #[bkV ⟨#[]⟩ ⟨#[]⟩ 0 none 0 0 0, .int .i64 3]) (by simp [results, Try.results163, go_sem, z0, z1, z2, z3, z4]) rfl ?_
            rw [HZ.out]
            exact ⟨none, 0, rfl, own_nilRow _ _ _ _, hb5⟩
          have HCB : Hid (∀ W : World, Calls Try.prog 225 #[.string (bs l), .int .i64 ((b : Int) + 1), .int .i64 3] W (CutPost l (b + 1) 3 W)) := fun W => l06Cut_any l (b + 1) 3 W hl (by omega) (by omega)
          have hm123 : l[b].toNat = 1 ∨ l[b].toNat = 2 ∨ l[b].toNat = 3 := by omega
          clear hm0 hm3
          rcases hm123 with hm | hm | hm
          · go_wp2_with fail
            refine (HCB.out _).mono ?_
            rintro e w6 ⟨v6, a6, ok6, xs, rfl, ho6, hb6, hq6⟩
            have hrb6 := HSB.out.old hb6
            have hsz6 := hb6.size
            cases hx : rdX 3 (l.drop (b + 1)) with
            | none =>
              rw [hx] at hq6
              obtain rfl : ok6 = false := hq6
              have HZ := Lib.hid (readM_none (HP.out.trans (K4d_atx hbt hx)))
              have HRB6 := Lib.hid hrb6
              clear hx ho6 hb6 hrb6
              obtain ⟨r0, r1, r2, r3, r4, rf0, rf1, rf2, rf3, rf4⟩ := HRB6.out.r.cells
              have HK := Lib.hid HRB6.out.r.out0
              go_wp2_with fail
              generalize (((((w6.setCell ⟨w.heap.size, 0, none⟩ (.string ⟨#[]⟩)).setCell ⟨w.heap.size, 1, none⟩ (.string ⟨#[]⟩)).setCell ⟨w.heap.size, 2, none⟩ (.int .i64 0)).setCell ⟨w.heap.size, 3, none⟩ (.slice none 0 0)).setCell ⟨w.heap.size, 4, none⟩ (.int .i64 0)) = W5 at HK ⊢
              obtain ⟨z0, z1, z2, z3, z4, hb5⟩ := HK.out
              refine bodyPost_ret (v := .tuple #[bkV ⟨#[]⟩ ⟨#[]⟩ 0 none 0 0 0, .int .i64 3]) (by simp [results, Try.results163, go_sem, z0, z1, z2, z3, z4]) rfl ?_
              rw [HZ.out]
              exact ⟨none, 0, rfl, own_nilRow _ _ _ _, hb5⟩
            | some p =>
              rw [hx] at hq6
              obtain ⟨rfl, rfl, rfl, hpd, hpl⟩ := hq6
              obtain ⟨xs, rr⟩ := p
              have hnl : xs.length = 3 := rdX_len hx
              have hp2 := HP.out.trans (K4d_step hbt (by omega) hx)
              rw [hm] at hp2
              dsimp only at ho6 hpd hpl hp2 hnl
              obtain ⟨c, hc⟩ : ∃ c, c = l.length - rr.length := ⟨_, rfl⟩
              rw [← hc] at hpd ⊢
              have hcl : c ≤ l.length := by omega
              rw [hpd] at hp2
              obtain ⟨x0, x1, x2, rfl⟩ : ∃ x0 x1 x2, xs = [x0, x1, x2] := by
                match xs, hnl with
                | [x0, x1, x2], _ => exact ⟨x0, x1, x2, rfl⟩
              have HPN : Hid (P0of l = K4d ch [n0, n1] (ds ++ [⟨bs x0, bs x1, bs x2, true, false⟩]) (many - (ds.length + 1)) (l.drop c)) := hp2
              obtain ⟨gx, cx, rfl, hcx, hgx0, hgx7, ⟨cur, hcur⟩, hget⟩ := own_row ho6 (by simp)
              have hk0 : w6.cell? ⟨gx, 0, none⟩ = some (sv x0) := hget 0 x0 rfl
              have hk1 : w6.cell? ⟨gx, 1, none⟩ = some (sv x1) := hget 1 x1 rfl
              have hk2 : w6.cell? ⟨gx, 2, none⟩ = some (sv x2) := hget 2 x2 rfl
              have hneB : gx ≠ w.heap.size + 1 + 1 := by
                intro e
                rw [e, hrb6.box] at hcur
                injection hcur with hcur
                injection hcur with _ h2 _
                exact absurd h2 (by decide)
              have hneV : (Value.slice D ds.length dc).ownBlock ≠ some gx := own_ne_blk hrb6.own hcur (by decide)
              have c3 : w6.cell? ⟨w.heap.size + 1 + 1, 3, none⟩ = some (.slice D ds.length dc) := by rw [cell_of_row w6 _ 3 _ _ _ hrb6.box]; rfl
              have hgb := hrb6.gl
              have hle := hrb6.below.size
              have HRB7 := Lib.hid hrb6
              have hdl : ds.length < 256 := by omega
              clear hrb6 hx hp2 hpd hpl hc hnl hget hcur ho6 hb6
              go_wp2_with fail
              refine wp_region_noPanic ?_
              refine wp_region_held_drew (S := (fun w' => w'.cell? ⟨gx, 0, none⟩ = some (sv x0) ∧ w'.cell? ⟨gx, 1, none⟩ = some (sv x1) ∧ w'.cell? ⟨gx, 2, none⟩ = some (sv x2))) (by kernel_rfl) ?_ (fun hHeld => ?_)
              · (try dsimp only)
                exact ⟨hk0, hk1, hk2⟩
              refine wpAnyH_take (i := 0) (oi := ⟨some 89, _, _, _, _, _⟩) (v := ?_) rfl (by kernel_rfl) (by kernel_rfl) (by kernel_rfl) (fun _ _ _ h => h) (Or.inl ⟨by simp [Region.wanted, yielded, undef], ?_⟩) (by assumption) ?_
              rotate_left
              · ((intro w hSw; (try dsimp only at hSw); go_simp) <;> with_reducible rfl)
              (try simp only [Act.put, List.setIfInBounds_toArray, List.set_cons_zero, List.set_cons_succ])
              refine wpAnyH_take (i := 2) (oi := ⟨some 91, _, _, _, _, _⟩) (v := ?_) rfl (by kernel_rfl) (by kernel_rfl) (by kernel_rfl) (fun _ _ _ h => h) (Or.inl ⟨by simp [Region.wanted, yielded, undef], ?_⟩) (by assumption) ?_
              rotate_left
              · ((intro w hSw; (try dsimp only at hSw); go_simp) <;> with_reducible rfl)
              (try simp only [Act.put, List.setIfInBounds_toArray, List.set_cons_zero, List.set_cons_succ])
              refine wpAnyH_take (i := 3) (oi := ⟨some 92, _, _, _, _, _⟩) (v := ?_) rfl (by kernel_rfl) (by kernel_rfl) (by kernel_rfl) (fun _ _ _ h => h) (Or.inl ⟨by simp [Region.wanted, yielded, undef], ?_⟩) (by assumption) ?_
              rotate_left
              · ((intro w hSw; (try dsimp only at hSw); go_simp) <;> with_reducible rfl)
              (try simp only [Act.put, List.setIfInBounds_toArray, List.set_cons_zero, List.set_cons_succ])
              refine wpAnyH_take (i := 4) (oi := ⟨some 93, _, _, _, _, _⟩) (v := ?_) rfl (by kernel_rfl) (by kernel_rfl) (by kernel_rfl) (fun _ _ _ h => h) (Or.inl ⟨by simp [Region.wanted, yielded, undef], ?_⟩) (by assumption) ?_
              rotate_left
              · ((intro w hSw; (try dsimp only at hSw); go_simp) <;> with_reducible rfl)
              (try simp only [Act.put, List.setIfInBounds_toArray, List.set_cons_zero, List.set_cons_succ])
              refine wpAnyH_take (i := 5) (oi := ⟨some 94, _, _, _, _, _⟩) (v := ?_) rfl (by kernel_rfl) (by kernel_rfl) (by kernel_rfl) (fun _ _ _ h => h) (Or.inl ⟨by simp [Region.wanted, yielded, undef], ?_⟩) (by assumption) ?_
              rotate_left
              · ((intro w hSw; (try dsimp only at hSw); go_simp) <;> with_reducible rfl)
              (try simp only [Act.put, List.setIfInBounds_toArray, List.set_cons_zero, List.set_cons_succ])
              refine wpAnyH_take (i := 6) (oi := ⟨some 95, _, _, _, _, _⟩) (v := ?_) rfl (by kernel_rfl) (by kernel_rfl) (by kernel_rfl) (fun _ _ _ h => h) (Or.inl ⟨by simp [Region.wanted, yielded, undef], ?_⟩) (by assumption) ?_
              rotate_left
              · ((intro w hSw; (try dsimp only at hSw); go_simp) <;> with_reducible rfl)
              (try simp only [Act.put, List.setIfInBounds_toArray, List.set_cons_zero, List.set_cons_succ])
              refine wpAnyH_take (i := 7) (oi := ⟨some 96, _, _, _, _, _⟩) (v := ?_) rfl (by kernel_rfl) (by kernel_rfl) (by kernel_rfl) (fun _ _ _ h => h) (Or.inl ⟨by simp [Region.wanted, yielded, undef], ?_⟩) (by assumption) ?_
              rotate_left
              · ((intro w hSw; (try dsimp only at hSw); go_simp) <;> with_reducible rfl)
              (try simp only [Act.put, List.setIfInBounds_toArray, List.set_cons_zero, List.set_cons_succ])
              refine wpAnyH_take (i := 8) (oi := ⟨some 97, _, _, _, _, _⟩) (v := ?_) rfl (by kernel_rfl) (by kernel_rfl) (by kernel_rfl) (fun _ _ _ h => h) (Or.inl ⟨by simp [Region.wanted, yielded, undef], ?_⟩) (by assumption) ?_
              rotate_left
              · ((intro w hSw; (try dsimp only at hSw); go_simp) <;> with_reducible rfl)
              (try simp only [Act.put, List.setIfInBounds_toArray, List.set_cons_zero, List.set_cons_succ])
              refine wpAnyH_take (i := 9) (oi := ⟨some 98, _, _, _, _, _⟩) (v := ?_) rfl (by kernel_rfl) (by kernel_rfl) (by kernel_rfl) (fun _ _ _ h => h) (Or.inl ⟨by simp [Region.wanted, yielded, undef], ?_⟩) (by assumption) ?_
              rotate_left
              · ((intro w hSw; (try dsimp only at hSw); go_simp) <;> with_reducible rfl)
              (try simp only [Act.put, List.setIfInBounds_toArray, List.set_cons_zero, List.set_cons_succ])
              refine wpAnyH_take (i := 10) (oi := ⟨some 99, _, _, _, _, _⟩) (v := ?_) rfl (by kernel_rfl) (by kernel_rfl) (by kernel_rfl) (fun _ _ _ h => h) (Or.inl ⟨by simp [Region.wanted, yielded, undef], ?_⟩) (by assumption) ?_
              rotate_left
              · ((intro w hSw; (try dsimp only at hSw); go_simp) <;> with_reducible rfl)
              (try simp only [Act.put, List.setIfInBounds_toArray, List.set_cons_zero, List.set_cons_succ])
              refine wpAnyH_take (i := 11) (oi := ⟨some 100, _, _, _, _, _⟩) (v := ?_) rfl (by kernel_rfl) (by kernel_rfl) (by kernel_rfl) (fun _ _ _ h => h) (Or.inl ⟨by simp [Region.wanted, yielded, undef], ?_⟩) (by assumption) ?_
              rotate_left
              · ((intro w hSw; (try dsimp only at hSw); go_simp) <;> with_reducible rfl)
              (try simp only [Act.put, List.setIfInBounds_toArray, List.set_cons_zero, List.set_cons_succ])
              refine wpAnyH_take (i := 12) (oi := ⟨some 101, _, _, _, _, _⟩) (v := ?_) rfl (by kernel_rfl) (by kernel_rfl) (by kernel_rfl) (fun _ _ _ h => h) (Or.inl ⟨by simp [Region.wanted, yielded, undef], ?_⟩) (by assumption) ?_
              rotate_left
              · ((intro w hSw; (try dsimp only at hSw); go_simp) <;> with_reducible rfl)
              (try simp only [Act.put, List.setIfInBounds_toArray, List.set_cons_zero, List.set_cons_succ])
              refine wpAnyH_take (i := 13) (oi := ⟨some 102, _, _, _, _, _⟩) (v := ?_) rfl (by kernel_rfl) (by kernel_rfl) (by kernel_rfl) (fun _ _ _ h => h) (Or.inl ⟨by simp [Region.wanted, yielded, undef], ?_⟩) (by assumption) ?_
              rotate_left
              · ((intro w hSw; (try dsimp only at hSw); go_simp) <;> with_reducible rfl)
              (try simp only [Act.put, List.setIfInBounds_toArray, List.set_cons_zero, List.set_cons_succ])
              refine wpAnyH_take (i := 14) (oi := ⟨some 103, _, _, _, _, _⟩) (v := ?_) rfl (by kernel_rfl) (by kernel_rfl) (by kernel_rfl) (fun _ _ _ h => h) (Or.inl ⟨by simp [Region.wanted, yielded, undef], ?_⟩) (by assumption) ?_
              rotate_left
              · ((intro w hSw; (try dsimp only at hSw); go_simp) <;> with_reducible rfl)
              (try simp only [Act.put, List.setIfInBounds_toArray, List.set_cons_zero, List.set_cons_succ])
              refine wpAnyH_take (i := 15) (oi := ⟨some 104, _, _, _, _, _⟩) (v := ?_) rfl (by kernel_rfl) (by kernel_rfl) (by kernel_rfl) (fun _ _ _ h => h) (Or.inl ⟨by simp [Region.wanted, yielded, undef], ?_⟩) (by assumption) ?_
              rotate_left
              · ((intro w hSw; (try dsimp only at hSw); go_simp) <;> with_reducible rfl)
              (try simp only [Act.put, List.setIfInBounds_toArray, List.set_cons_zero, List.set_cons_succ])
              refine wpAnyH_take (i := 16) (oi := ⟨some 105, _, _, _, _, _⟩) (v := ?_) rfl (by kernel_rfl) (by kernel_rfl) (by kernel_rfl) (fun _ _ _ h => h) (Or.inl ⟨by simp [Region.wanted, yielded, undef], ?_⟩) (by assumption) ?_
              rotate_left
              · ((intro w hSw; (try dsimp only at hSw); go_simp) <;> with_reducible rfl)
              (try simp only [Act.put, List.setIfInBounds_toArray, List.set_cons_zero, List.set_cons_succ])
              refine wpAnyH_take (i := 17) (oi := ⟨some 106, _, _, _, _, _⟩) (v := ?_) rfl (by kernel_rfl) (by kernel_rfl) (by kernel_rfl) (fun _ _ _ h => h) (Or.inl ⟨by simp [Region.wanted, yielded, undef], ?_⟩) (by assumption) ?_
              rotate_left
              · ((intro w hSw; (try dsimp only at hSw); go_simp) <;> with_reducible rfl)
              (try simp only [Act.put, List.setIfInBounds_toArray, List.set_cons_zero, List.set_cons_succ])
              refine wpAnyH_take (i := 18) (oi := ⟨some 107, _, _, _, _, _⟩) (v := ?_) rfl (by kernel_rfl) (by kernel_rfl) (by kernel_rfl) (fun _ _ _ h => h) (Or.inl ⟨by simp [Region.wanted, yielded, undef], ?_⟩) (by assumption) ?_
              rotate_left
              · ((intro w hSw; (try dsimp only at hSw); go_simp) <;> with_reducible rfl)
              (try simp only [Act.put, List.setIfInBounds_toArray, List.set_cons_zero, List.set_cons_succ])
              refine wpAnyH_take (i := 19) (oi := ⟨some 108, _, _, _, _, _⟩) (v := ?_) rfl (by kernel_rfl) (by kernel_rfl) (by kernel_rfl) (fun _ _ _ h => h) (Or.inl ⟨by simp [Region.wanted, yielded, undef], ?_⟩) (by assumption) ?_
              rotate_left
              · ((intro w hSw; (try dsimp only at hSw); go_simp) <;> with_reducible rfl)
              (try simp only [Act.put, List.setIfInBounds_toArray, List.set_cons_zero, List.set_cons_succ])
              refine wpAnyH_take (i := 20) (oi := ⟨some 109, _, _, _, _, _⟩) (v := ?_) rfl (by kernel_rfl) (by kernel_rfl) (by kernel_rfl) (fun _ _ _ h => h) (Or.inl ⟨by simp [Region.wanted, yielded, undef], ?_⟩) (by assumption) ?_
              rotate_left
              · ((intro w hSw; (try dsimp only at hSw); go_simp) <;> with_reducible rfl)
              (try simp only [Act.put, List.setIfInBounds_toArray, List.set_cons_zero, List.set_cons_succ])
              refine wpAnyH_ready (rs := [1, 21]) (by kernel_rfl) (by simp) ?_
              refine AllReadyH.cons (o := ⟨some 90, _, _, _, _, _⟩) rfl (fun K hK => ?_) (AllReadyH.cons (o := ⟨some 110, _, _, _, _, _⟩) rfl (fun K hK => ?_) AllReadyH.nil)
              · go_simp
                refine hK.out _ _ ?_ (fun hHeld => ?_)
                · (try dsimp only)
                  exact ⟨hk0, hk1, hk2⟩
                clear hK K
                (try simp only [Act.put, List.setIfInBounds_toArray, List.set_cons_zero, List.set_cons_succ])
                refine wpAnyH_ready (rs := [21]) (by kernel_rfl) (by simp) ?_
                refine AllReadyH.cons (o := ⟨some 110, _, _, _, _, _⟩) rfl (fun K hK => ?_) AllReadyH.nil
                go_simp
                refine hK.out _ _ ?_ (fun hHeld => ?_)
                · (try dsimp only)
                  exact ⟨oldA hk0 hgx7, oldA hk1 hgx7, oldA hk2 hgx7⟩
                clear hK K
                (try simp only [Act.put, List.setIfInBounds_toArray, List.set_cons_zero, List.set_cons_succ])
                refine wpAnyH_ready (rs := [22]) (by kernel_rfl) (by simp) ?_
                refine AllReadyH.cons (o := ⟨some 111, _, _, _, _, _⟩) rfl (fun K hK => ?_) AllReadyH.nil
                refine step_push_one elDiff rfl _ _ rfl w.heap.size (.slice D ds.length dc) ds.length _ rfl (own_below HRB7.out.own (by repeat (first | exact Below.refl _ _ | assumption | refine Below.drew ?_ | refine below_drewN ?_ _ | refine Below.setCell ?_ (by first | exact Nat.le_refl _ | exact Below.size (by assumption) | (simp; done) | (simp; omega) | omega) _ | refine Below.alloc ?_ (by first | exact Nat.le_refl _ | exact Below.size (by assumption) | (simp; done) | (simp; omega) | omega) _))) w6.heap.size (encD ⟨bs x0, bs x1, bs x2, true, false⟩) (heap_alloc_new _ _) rfl rfl (by simp [encD, Value.oneCell']) (by simp only [maxLen]; omega) (by omega) (by simp; omega) ?_
                intro v3 w3 hp3
                obtain ⟨D3, cc3, rfl, _⟩ := own_form hp3.1
                have HPP : Hid (Pushed w.heap.size 145 5 (.slice D ds.length dc) (ds.length + 1) (flat encD ds ++ encD ⟨bs x0, bs x1, bs x2, true, false⟩) (w6.alloc (.cells #[.string (bs x0), .string (bs x1), .string (bs x2), .bool true, .bool false] 145)) (.slice D3 (ds.length + 1) cc3) w3) := ⟨hp3.1, ⟨hp3.2.os, hp3.2.tape, hp3.2.output, hp3.2.size, hp3.2.block⟩⟩
                have hfar : ∀ o u, w6.cell? ⟨gx, o, none⟩ = some u → w3.cell? ⟨gx, o, none⟩ = some u := fun o u hu => (World.cell?_of_block ((HPP.out.2.block gx (by simp; omega) (fun e => hneV e.symm)).trans (Lib.alloc_old w6 _ gx hgx7))).trans hu
                have hbx := (HPP.out.2.block (w.heap.size + 1 + 1) (by simp; omega) (fun e => HRB7.out.neB e.symm)).trans ((Lib.alloc_old w6 _ (w.heap.size + 1 + 1) hgb).trans HRB7.out.box)
                have c3' : w3.cell? ⟨w.heap.size + 1 + 1, 3, none⟩ = some (.slice D ds.length dc) := by rw [cell_of_row w3 _ 3 _ _ _ hbx]; rfl
                have f3' : w3.frozen? ⟨w.heap.size + 1 + 1, 3, none⟩ = false := Lib.frozen_of_heap hbx 3
                have hrbN := HRB7.out.push HPP.out
                have HRBN := Lib.hid hrbN
                clear hp3 hbx hrbN c3
                refine hK.out _ _ ?_ (fun hHeld => ?_)
                · (try dsimp only)
                  exact ⟨hfar _ _ hk0, hfar _ _ hk1, hfar _ _ hk2⟩
                clear hK K
                (try simp only [Act.put, List.setIfInBounds_toArray, List.set_cons_zero, List.set_cons_succ])
                refine wpAnyH_take (i := 23) (oi := ⟨some 112, _, _, _, _, _⟩) (v := ?_) rfl (by kernel_rfl) (by kernel_rfl) (by kernel_rfl) (fun _ _ _ h => h) (Or.inl ⟨by simp [Region.wanted, yielded, undef], ?_⟩) (by assumption) ?_
                rotate_left
                · ((intro w hSw; (try dsimp only at hSw); go_simp) <;> with_reducible rfl)
                (try simp only [Act.put, List.setIfInBounds_toArray, List.set_cons_zero, List.set_cons_succ])
                refine wpAnyH_ready (rs := [24]) (by kernel_rfl) (by simp) ?_
                refine AllReadyH.cons rfl (fun K hK => ?_) AllReadyH.nil
                go_simp
                refine hK.out _ _ ?_ (fun hHeld => ?_)
                · (try dsimp only)
                  exact ⟨keepSet hneB (hfar _ _ hk0), keepSet hneB (hfar _ _ hk1), keepSet hneB (hfar _ _ hk2)⟩
                clear hK K
                (try simp only [Act.put, List.setIfInBounds_toArray, List.set_cons_zero, List.set_cons_succ])
                refine wpAnyH_done (by kernel_rfl) ?_ _
                refine NoPanic.normal ?_
                go_wp2_with fail
                go_roundw
                case rel => exact ⟨ds.length + 1, c, _, _, by go_num, hkm, rfl, hcl, HPN.out, by rw [List.length_append]; rfl, HRBN.out⟩
                case measure => simp [intOf]; omega
              · go_simp
                refine hK.out _ _ ?_ (fun hHeld => ?_)
                · (try dsimp only)
                  exact ⟨oldA hk0 hgx7, oldA hk1 hgx7, oldA hk2 hgx7⟩
                clear hK K
                (try simp only [Act.put, List.setIfInBounds_toArray, List.set_cons_zero, List.set_cons_succ])
                have c3a := oldA (o := .cells #[.string (bs x0), .string (bs x1), .string (bs x2), .bool true, .bool false] 145) c3 hgb
                refine wpAnyH_ready (rs := [1]) (by kernel_rfl) (by simp) ?_
                refine AllReadyH.cons (o := ⟨some 90, _, _, _, _, _⟩) rfl (fun K hK => ?_) AllReadyH.nil
                go_simp
                refine hK.out _ _ ?_ (fun hHeld => ?_)
                · (try dsimp only)
                  exact ⟨oldA hk0 hgx7, oldA hk1 hgx7, oldA hk2 hgx7⟩
                clear hK K
                (try simp only [Act.put, List.setIfInBounds_toArray, List.set_cons_zero, List.set_cons_succ])
                refine wpAnyH_ready (rs := [22]) (by kernel_rfl) (by simp) ?_
                refine AllReadyH.cons (o := ⟨some 111, _, _, _, _, _⟩) rfl (fun K hK => ?_) AllReadyH.nil
                refine step_push_one elDiff rfl _ _ rfl w.heap.size (.slice D ds.length dc) ds.length _ rfl (own_below HRB7.out.own (by repeat (first | exact Below.refl _ _ | assumption | refine Below.drew ?_ | refine below_drewN ?_ _ | refine Below.setCell ?_ (by first | exact Nat.le_refl _ | exact Below.size (by assumption) | (simp; done) | (simp; omega) | omega) _ | refine Below.alloc ?_ (by first | exact Nat.le_refl _ | exact Below.size (by assumption) | (simp; done) | (simp; omega) | omega) _))) w6.heap.size (encD ⟨bs x0, bs x1, bs x2, true, false⟩) (heap_alloc_new _ _) rfl rfl (by simp [encD, Value.oneCell']) (by simp only [maxLen]; omega) (by omega) (by simp; omega) ?_
                intro v3 w3 hp3
                obtain ⟨D3, cc3, rfl, _⟩ := own_form hp3.1
                have HPP : Hid (Pushed w.heap.size 145 5 (.slice D ds.length dc) (ds.length + 1) (flat encD ds ++ encD ⟨bs x0, bs x1, bs x2, true, false⟩) (w6.alloc (.cells #[.string (bs x0), .string (bs x1), .string (bs x2), .bool true, .bool false] 145)) (.slice D3 (ds.length + 1) cc3) w3) := ⟨hp3.1, ⟨hp3.2.os, hp3.2.tape, hp3.2.output, hp3.2.size, hp3.2.block⟩⟩
                have hfar : ∀ o u, w6.cell? ⟨gx, o, none⟩ = some u → w3.cell? ⟨gx, o, none⟩ = some u := fun o u hu => (World.cell?_of_block ((HPP.out.2.block gx (by simp; omega) (fun e => hneV e.symm)).trans (Lib.alloc_old w6 _ gx hgx7))).trans hu
                have hbx := (HPP.out.2.block (w.heap.size + 1 + 1) (by simp; omega) (fun e => HRB7.out.neB e.symm)).trans ((Lib.alloc_old w6 _ (w.heap.size + 1 + 1) hgb).trans HRB7.out.box)
                have c3' : w3.cell? ⟨w.heap.size + 1 + 1, 3, none⟩ = some (.slice D ds.length dc) := by rw [cell_of_row w3 _ 3 _ _ _ hbx]; rfl
                have f3' : w3.frozen? ⟨w.heap.size + 1 + 1, 3, none⟩ = false := Lib.frozen_of_heap hbx 3
                have hrbN := HRB7.out.push HPP.out
                have HRBN := Lib.hid hrbN
                clear hp3 hbx hrbN c3
                refine hK.out _ _ ?_ (fun hHeld => ?_)
                · (try dsimp only)
                  exact ⟨hfar _ _ hk0, hfar _ _ hk1, hfar _ _ hk2⟩
                clear hK K
                (try simp only [Act.put, List.setIfInBounds_toArray, List.set_cons_zero, List.set_cons_succ])
                refine wpAnyH_take (i := 23) (oi := ⟨some 112, _, _, _, _, _⟩) (v := ?_) rfl (by kernel_rfl) (by kernel_rfl) (by kernel_rfl) (fun _ _ _ h => h) (Or.inl ⟨by simp [Region.wanted, yielded, undef], ?_⟩) (by assumption) ?_
                rotate_left
                · ((intro w hSw; (try dsimp only at hSw); go_simp) <;> with_reducible rfl)
                (try simp only [Act.put, List.setIfInBounds_toArray, List.set_cons_zero, List.set_cons_succ])
                refine wpAnyH_ready (rs := [24]) (by kernel_rfl) (by simp) ?_
                refine AllReadyH.cons rfl (fun K hK => ?_) AllReadyH.nil
                go_simp
                refine hK.out _ _ ?_ (fun hHeld => ?_)
                · (try dsimp only)
                  exact ⟨keepSet hneB (hfar _ _ hk0), keepSet hneB (hfar _ _ hk1), keepSet hneB (hfar _ _ hk2)⟩
                clear hK K
                (try simp only [Act.put, List.setIfInBounds_toArray, List.set_cons_zero, List.set_cons_succ])
                refine wpAnyH_done (by kernel_rfl) ?_ _
                refine NoPanic.normal ?_
                go_wp2_with fail
                go_roundw
                case rel => exact ⟨ds.length + 1, c, _, _, by go_num, hkm, rfl, hcl, HPN.out, by rw [List.length_append]; rfl, HRBN.out⟩
                case measure => simp [intOf]; omega
          · go_wp2_with fail
            refine (HCB.out _).mono ?_
            rintro e w6 ⟨v6, a6, ok6, xs, rfl, ho6, hb6, hq6⟩
            have hrb6 := HSB.out.old hb6
            have hsz6 := hb6.size
            cases hx : rdX 3 (l.drop (b + 1)) with
            | none =>
              rw [hx] at hq6
              obtain rfl : ok6 = false := hq6
              have HZ := Lib.hid (readM_none (HP.out.trans (K4d_atx hbt hx)))
              have HRB6 := Lib.hid hrb6
              clear hx ho6 hb6 hrb6
              obtain ⟨r0, r1, r2, r3, r4, rf0, rf1, rf2, rf3, rf4⟩ := HRB6.out.r.cells
              have HK := Lib.hid HRB6.out.r.out0
              go_wp2_with fail
              generalize (((((w6.setCell ⟨w.heap.size, 0, none⟩ (.string ⟨#[]⟩)).setCell ⟨w.heap.size, 1, none⟩ (.string ⟨#[]⟩)).setCell ⟨w.heap.size, 2, none⟩ (.int .i64 0)).setCell ⟨w.heap.size, 3, none⟩ (.slice none 0 0)).setCell ⟨w.heap.size, 4, none⟩ (.int .i64 0)) = W5 at HK ⊢
              obtain ⟨z0, z1, z2, z3, z4, hb5⟩ := HK.out
              refine bodyPost_ret (v := .tuple #[bkV ⟨#[]⟩ ⟨#[]⟩ 0 none 0 0 0, .int .i64 3]) (by simp [results, Try.results163, go_sem, z0, z1, z2, z3, z4]) rfl ?_
              rw [HZ.out]
              exact ⟨none, 0, rfl, own_nilRow _ _ _ _, hb5⟩
            | some p =>
              rw [hx] at hq6
              obtain ⟨rfl, rfl, rfl, hpd, hpl⟩ := hq6
              obtain ⟨xs, rr⟩ := p
              have hnl : xs.length = 3 := rdX_len hx
              have hp2 := HP.out.trans (K4d_step hbt (by omega) hx)
              rw [hm] at hp2
              dsimp only at ho6 hpd hpl hp2 hnl
              obtain ⟨c, hc⟩ : ∃ c, c = l.length - rr.length := ⟨_, rfl⟩
              rw [← hc] at hpd ⊢
              have hcl : c ≤ l.length := by omega
              rw [hpd] at hp2
              obtain ⟨x0, x1, x2, rfl⟩ : ∃ x0 x1 x2, xs = [x0, x1, x2] := by
                match xs, hnl with
                | [x0, x1, x2], _ => exact ⟨x0, x1, x2, rfl⟩
              have HPN : Hid (P0of l = K4d ch [n0, n1] (ds ++ [⟨bs x0, bs x1, bs x2, false, true⟩]) (many - (ds.length + 1)) (l.drop c)) := hp2
              obtain ⟨gx, cx, rfl, hcx, hgx0, hgx7, ⟨cur, hcur⟩, hget⟩ := own_row ho6 (by simp)
              have hk0 : w6.cell? ⟨gx, 0, none⟩ = some (sv x0) := hget 0 x0 rfl
              have hk1 : w6.cell? ⟨gx, 1, none⟩ = some (sv x1) := hget 1 x1 rfl
              have hk2 : w6.cell? ⟨gx, 2, none⟩ = some (sv x2) := hget 2 x2 rfl
              have hneB : gx ≠ w.heap.size + 1 + 1 := by
                intro e
                rw [e, hrb6.box] at hcur
                injection hcur with hcur
                injection hcur with _ h2 _
                exact absurd h2 (by decide)
              have hneV : (Value.slice D ds.length dc).ownBlock ≠ some gx := own_ne_blk hrb6.own hcur (by decide)
              have c3 : w6.cell? ⟨w.heap.size + 1 + 1, 3, none⟩ = some (.slice D ds.length dc) := by rw [cell_of_row w6 _ 3 _ _ _ hrb6.box]; rfl
              have hgb := hrb6.gl
              have hle := hrb6.below.size
              have HRB7 := Lib.hid hrb6
              have hdl : ds.length < 256 := by omega
              clear hrb6 hx hp2 hpd hpl hc hnl hget hcur ho6 hb6
              go_wp2_with fail
              refine wp_region_noPanic ?_
              refine wp_region_held_drew (S := (fun w' => w'.cell? ⟨gx, 0, none⟩ = some (sv x0) ∧ w'.cell? ⟨gx, 1, none⟩ = some (sv x1) ∧ w'.cell? ⟨gx, 2, none⟩ = some (sv x2))) (by kernel_rfl) ?_ (fun hHeld => ?_)
              · (try dsimp only)
                exact ⟨hk0, hk1, hk2⟩
              refine wpAnyH_take (i := 0) (oi := ⟨some 89, _, _, _, _, _⟩) (v := ?_) rfl (by kernel_rfl) (by kernel_rfl) (by kernel_rfl) (fun _ _ _ h => h) (Or.inl ⟨by simp [Region.wanted, yielded, undef], ?_⟩) (by assumption) ?_
              rotate_left
              · ((intro w hSw; (try dsimp only at hSw); go_simp) <;> with_reducible rfl)
              (try simp only [Act.put, List.setIfInBounds_toArray, List.set_cons_zero, List.set_cons_succ])
              refine wpAnyH_take (i := 2) (oi := ⟨some 91, _, _, _, _, _⟩) (v := ?_) rfl (by kernel_rfl) (by kernel_rfl) (by kernel_rfl) (fun _ _ _ h => h) (Or.inl ⟨by simp [Region.wanted, yielded, undef], ?_⟩) (by assumption) ?_
              rotate_left
              · ((intro w hSw; (try dsimp only at hSw); go_simp) <;> with_reducible rfl)
              (try simp only [Act.put, List.setIfInBounds_toArray, List.set_cons_zero, List.set_cons_succ])
              refine wpAnyH_take (i := 3) (oi := ⟨some 92, _, _, _, _, _⟩) (v := ?_) rfl (by kernel_rfl) (by kernel_rfl) (by kernel_rfl) (fun _ _ _ h => h) (Or.inl ⟨by simp [Region.wanted, yielded, undef], ?_⟩) (by assumption) ?_
              rotate_left
              · ((intro w hSw; (try dsimp only at hSw); go_simp) <;> with_reducible rfl)
              (try simp only [Act.put, List.setIfInBounds_toArray, List.set_cons_zero, List.set_cons_succ])
              refine wpAnyH_take (i := 4) (oi := ⟨some 93, _, _, _, _, _⟩) (v := ?_) rfl (by kernel_rfl) (by kernel_rfl) (by kernel_rfl) (fun _ _ _ h => h) (Or.inl ⟨by simp [Region.wanted, yielded, undef], ?_⟩) (by assumption) ?_
              rotate_left
              · ((intro w hSw; (try dsimp only at hSw); go_simp) <;> with_reducible rfl)
              (try simp only [Act.put, List.setIfInBounds_toArray, List.set_cons_zero, List.set_cons_succ])
              refine wpAnyH_take (i := 5) (oi := ⟨some 94, _, _, _, _, _⟩) (v := ?_) rfl (by kernel_rfl) (by kernel_rfl) (by kernel_rfl) (fun _ _ _ h => h) (Or.inl ⟨by simp [Region.wanted, yielded, undef], ?_⟩) (by assumption) ?_
              rotate_left
              · ((intro w hSw; (try dsimp only at hSw); go_simp) <;> with_reducible rfl)
              (try simp only [Act.put, List.setIfInBounds_toArray, List.set_cons_zero, List.set_cons_succ])
              refine wpAnyH_take (i := 6) (oi := ⟨some 95, _, _, _, _, _⟩) (v := ?_) rfl (by kernel_rfl) (by kernel_rfl) (by kernel_rfl) (fun _ _ _ h => h) (Or.inl ⟨by simp [Region.wanted, yielded, undef], ?_⟩) (by assumption) ?_
              rotate_left
              · ((intro w hSw; (try dsimp only at hSw); go_simp) <;> with_reducible rfl)
              (try simp only [Act.put, List.setIfInBounds_toArray, List.set_cons_zero, List.set_cons_succ])
              refine wpAnyH_take (i := 7) (oi := ⟨some 96, _, _, _, _, _⟩) (v := ?_) rfl (by kernel_rfl) (by kernel_rfl) (by kernel_rfl) (fun _ _ _ h => h) (Or.inl ⟨by simp [Region.wanted, yielded, undef], ?_⟩) (by assumption) ?_
              rotate_left
              · ((intro w hSw; (try dsimp only at hSw); go_simp) <;> with_reducible rfl)
              (try simp only [Act.put, List.setIfInBounds_toArray, List.set_cons_zero, List.set_cons_succ])
              refine wpAnyH_take (i := 8) (oi := ⟨some 97, _, _, _, _, _⟩) (v := ?_) rfl (by kernel_rfl) (by kernel_rfl) (by kernel_rfl) (fun _ _ _ h => h) (Or.inl ⟨by simp [Region.wanted, yielded, undef], ?_⟩) (by assumption) ?_
              rotate_left
              · ((intro w hSw; (try dsimp only at hSw); go_simp) <;> with_reducible rfl)
              (try simp only [Act.put, List.setIfInBounds_toArray, List.set_cons_zero, List.set_cons_succ])
              refine wpAnyH_take (i := 9) (oi := ⟨some 98, _, _, _, _, _⟩) (v := ?_) rfl (by kernel_rfl) (by kernel_rfl) (by kernel_rfl) (fun _ _ _ h => h) (Or.inl ⟨by simp [Region.wanted, yielded, undef], ?_⟩) (by assumption) ?_
              rotate_left
              · ((intro w hSw; (try dsimp only at hSw); go_simp) <;> with_reducible rfl)
              (try simp only [Act.put, List.setIfInBounds_toArray, List.set_cons_zero, List.set_cons_succ])
              refine wpAnyH_take (i := 10) (oi := ⟨some 99, _, _, _, _, _⟩) (v := ?_) rfl (by kernel_rfl) (by kernel_rfl) (by kernel_rfl) (fun _ _ _ h => h) (Or.inl ⟨by simp [Region.wanted, yielded, undef], ?_⟩) (by assumption) ?_
              rotate_left
              · ((intro w hSw; (try dsimp only at hSw); go_simp) <;> with_reducible rfl)
              (try simp only [Act.put, List.setIfInBounds_toArray, List.set_cons_zero, List.set_cons_succ])
              refine wpAnyH_take (i := 11) (oi := ⟨some 100, _, _, _, _, _⟩) (v := ?_) rfl (by kernel_rfl) (by kernel_rfl) (by kernel_rfl) (fun _ _ _ h => h) (Or.inl ⟨by simp [Region.wanted, yielded, undef], ?_⟩) (by assumption) ?_
              rotate_left
              · ((intro w hSw; (try dsimp only at hSw); go_simp) <;> with_reducible rfl)
              (try simp only [Act.put, List.setIfInBounds_toArray, List.set_cons_zero, List.set_cons_succ])
              refine wpAnyH_take (i := 12) (oi := ⟨some 101, _, _, _, _, _⟩) (v := ?_) rfl (by kernel_rfl) (by kernel_rfl) (by kernel_rfl) (fun _ _ _ h => h) (Or.inl ⟨by simp [Region.wanted, yielded, undef], ?_⟩) (by assumption) ?_
              rotate_left
              · ((intro w hSw; (try dsimp only at hSw); go_simp) <;> with_reducible rfl)
              (try simp only [Act.put, List.setIfInBounds_toArray, List.set_cons_zero, List.set_cons_succ])
              refine wpAnyH_take (i := 13) (oi := ⟨some 102, _, _, _, _, _⟩) (v := ?_) rfl (by kernel_rfl) (by kernel_rfl) (by kernel_rfl) (fun _ _ _ h => h) (Or.inl ⟨by simp [Region.wanted, yielded, undef], ?_⟩) (by assumption) ?_
              rotate_left
              · ((intro w hSw; (try dsimp only at hSw); go_simp) <;> with_reducible rfl)
              (try simp only [Act.put, List.setIfInBounds_toArray, List.set_cons_zero, List.set_cons_succ])
              refine wpAnyH_take (i := 14) (oi := ⟨some 103, _, _, _, _, _⟩) (v := ?_) rfl (by kernel_rfl) (by kernel_rfl) (by kernel_rfl) (fun _ _ _ h => h) (Or.inl ⟨by simp [Region.wanted, yielded, undef], ?_⟩) (by assumption) ?_
              rotate_left
              · ((intro w hSw; (try dsimp only at hSw); go_simp) <;> with_reducible rfl)
              (try simp only [Act.put, List.setIfInBounds_toArray, List.set_cons_zero, List.set_cons_succ])
              refine wpAnyH_take (i := 15) (oi := ⟨some 104, _, _, _, _, _⟩) (v := ?_) rfl (by kernel_rfl) (by kernel_rfl) (by kernel_rfl) (fun _ _ _ h => h) (Or.inl ⟨by simp [Region.wanted, yielded, undef], ?_⟩) (by assumption) ?_
              rotate_left
              · ((intro w hSw; (try dsimp only at hSw); go_simp) <;> with_reducible rfl)
              (try simp only [Act.put, List.setIfInBounds_toArray, List.set_cons_zero, List.set_cons_succ])
              refine wpAnyH_take (i := 16) (oi := ⟨some 105, _, _, _, _, _⟩) (v := ?_) rfl (by kernel_rfl) (by kernel_rfl) (by kernel_rfl) (fun _ _ _ h => h) (Or.inl ⟨by simp [Region.wanted, yielded, undef], ?_⟩) (by assumption) ?_
              rotate_left
              · ((intro w hSw; (try dsimp only at hSw); go_simp) <;> with_reducible rfl)
              (try simp only [Act.put, List.setIfInBounds_toArray, List.set_cons_zero, List.set_cons_succ])
              refine wpAnyH_take (i := 17) (oi := ⟨some 106, _, _, _, _, _⟩) (v := ?_) rfl (by kernel_rfl) (by kernel_rfl) (by kernel_rfl) (fun _ _ _ h => h) (Or.inl ⟨by simp [Region.wanted, yielded, undef], ?_⟩) (by assumption) ?_
              rotate_left
              · ((intro w hSw; (try dsimp only at hSw); go_simp) <;> with_reducible rfl)
              (try simp only [Act.put, List.setIfInBounds_toArray, List.set_cons_zero, List.set_cons_succ])
              refine wpAnyH_take (i := 18) (oi := ⟨some 107, _, _, _, _, _⟩) (v := ?_) rfl (by kernel_rfl) (by kernel_rfl) (by kernel_rfl) (fun _ _ _ h => h) (Or.inl ⟨by simp [Region.wanted, yielded, undef], ?_⟩) (by assumption) ?_
              rotate_left
              · ((intro w hSw; (try dsimp only at hSw); go_simp) <;> with_reducible rfl)
              (try simp only [Act.put, List.setIfInBounds_toArray, List.set_cons_zero, List.set_cons_succ])
              refine wpAnyH_take (i := 19) (oi := ⟨some 108, _, _, _, _, _⟩) (v := ?_) rfl (by kernel_rfl) (by kernel_rfl) (by kernel_rfl) (fun _ _ _ h => h) (Or.inl ⟨by simp [Region.wanted, yielded, undef], ?_⟩) (by assumption) ?_
              rotate_left
              · ((intro w hSw; (try dsimp only at hSw); go_simp) <;> with_reducible rfl)
              (try simp only [Act.put, List.setIfInBounds_toArray, List.set_cons_zero, List.set_cons_succ])
              refine wpAnyH_take (i := 20) (oi := ⟨some 109, _, _, _, _, _⟩) (v := ?_) rfl (by kernel_rfl) (by kernel_rfl) (by kernel_rfl) (fun _ _ _ h => h) (Or.inl ⟨by simp [Region.wanted, yielded, undef], ?_⟩) (by assumption) ?_
              rotate_left
              · ((intro w hSw; (try dsimp only at hSw); go_simp) <;> with_reducible rfl)
              (try simp only [Act.put, List.setIfInBounds_toArray, List.set_cons_zero, List.set_cons_succ])
              refine wpAnyH_ready (rs := [1, 21]) (by kernel_rfl) (by simp) ?_
              refine AllReadyH.cons (o := ⟨some 90, _, _, _, _, _⟩) rfl (fun K hK => ?_) (AllReadyH.cons (o := ⟨some 110, _, _, _, _, _⟩) rfl (fun K hK => ?_) AllReadyH.nil)
              · go_simp
                refine hK.out _ _ ?_ (fun hHeld => ?_)
                · (try dsimp only)
                  exact ⟨hk0, hk1, hk2⟩
                clear hK K
                (try simp only [Act.put, List.setIfInBounds_toArray, List.set_cons_zero, List.set_cons_succ])
                refine wpAnyH_ready (rs := [21]) (by kernel_rfl) (by simp) ?_
                refine AllReadyH.cons (o := ⟨some 110, _, _, _, _, _⟩) rfl (fun K hK => ?_) AllReadyH.nil
                go_simp
                refine hK.out _ _ ?_ (fun hHeld => ?_)
                · (try dsimp only)
                  exact ⟨oldA hk0 hgx7, oldA hk1 hgx7, oldA hk2 hgx7⟩
                clear hK K
                (try simp only [Act.put, List.setIfInBounds_toArray, List.set_cons_zero, List.set_cons_succ])
                refine wpAnyH_ready (rs := [22]) (by kernel_rfl) (by simp) ?_
                refine AllReadyH.cons (o := ⟨some 111, _, _, _, _, _⟩) rfl (fun K hK => ?_) AllReadyH.nil
                refine step_push_one elDiff rfl _ _ rfl w.heap.size (.slice D ds.length dc) ds.length _ rfl (own_below HRB7.out.own (by repeat (first | exact Below.refl _ _ | assumption | refine Below.drew ?_ | refine below_drewN ?_ _ | refine Below.setCell ?_ (by first | exact Nat.le_refl _ | exact Below.size (by assumption) | (simp; done) | (simp; omega) | omega) _ | refine Below.alloc ?_ (by first | exact Nat.le_refl _ | exact Below.size (by assumption) | (simp; done) | (simp; omega) | omega) _))) w6.heap.size (encD ⟨bs x0, bs x1, bs x2, false, true⟩) (heap_alloc_new _ _) rfl rfl (by simp [encD, Value.oneCell']) (by simp only [maxLen]; omega) (by omega) (by simp; omega) ?_
                intro v3 w3 hp3
                obtain ⟨D3, cc3, rfl, _⟩ := own_form hp3.1
                have HPP : Hid (Pushed w.heap.size 145 5 (.slice D ds.length dc) (ds.length + 1) (flat encD ds ++ encD ⟨bs x0, bs x1, bs x2, false, true⟩) (w6.alloc (.cells #[.string (bs x0), .string (bs x1), .string (bs x2), .bool false, .bool true] 145)) (.slice D3 (ds.length + 1) cc3) w3) := ⟨hp3.1, ⟨hp3.2.os, hp3.2.tape, hp3.2.output, hp3.2.size, hp3.2.block⟩⟩
                have hfar : ∀ o u, w6.cell? ⟨gx, o, none⟩ = some u → w3.cell? ⟨gx, o, none⟩ = some u := fun o u hu => (World.cell?_of_block ((HPP.out.2.block gx (by simp; omega) (fun e => hneV e.symm)).trans (Lib.alloc_old w6 _ gx hgx7))).trans hu
                have hbx := (HPP.out.2.block (w.heap.size + 1 + 1) (by simp; omega) (fun e => HRB7.out.neB e.symm)).trans ((Lib.alloc_old w6 _ (w.heap.size + 1 + 1) hgb).trans HRB7.out.box)
                have c3' : w3.cell? ⟨w.heap.size + 1 + 1, 3, none⟩ = some (.slice D ds.length dc) := by rw [cell_of_row w3 _ 3 _ _ _ hbx]; rfl
                have f3' : w3.frozen? ⟨w.heap.size + 1 + 1, 3, none⟩ = false := Lib.frozen_of_heap hbx 3
                have hrbN := HRB7.out.push HPP.out
                have HRBN := Lib.hid hrbN
                clear hp3 hbx hrbN c3
                refine hK.out _ _ ?_ (fun hHeld => ?_)
                · (try dsimp only)
                  exact ⟨hfar _ _ hk0, hfar _ _ hk1, hfar _ _ hk2⟩
                clear hK K
                (try simp only [Act.put, List.setIfInBounds_toArray, List.set_cons_zero, List.set_cons_succ])
                refine wpAnyH_take (i := 23) (oi := ⟨some 112, _, _, _, _, _⟩) (v := ?_) rfl (by kernel_rfl) (by kernel_rfl) (by kernel_rfl) (fun _ _ _ h => h) (Or.inl ⟨by simp [Region.wanted, yielded, undef], ?_⟩) (by assumption) ?_
                rotate_left
                · ((intro w hSw; (try dsimp only at hSw); go_simp) <;> with_reducible rfl)
                (try simp only [Act.put, List.setIfInBounds_toArray, List.set_cons_zero, List.set_cons_succ])
                refine wpAnyH_ready (rs := [24]) (by kernel_rfl) (by simp) ?_
                refine AllReadyH.cons rfl (fun K hK => ?_) AllReadyH.nil
                go_simp
                refine hK.out _ _ ?_ (fun hHeld => ?_)
                · (try dsimp only)
                  exact ⟨keepSet hneB (hfar _ _ hk0), keepSet hneB (hfar _ _ hk1), keepSet hneB (hfar _ _ hk2)⟩
                clear hK K
                (try simp only [Act.put, List.setIfInBounds_toArray, List.set_cons_zero, List.set_cons_succ])
                refine wpAnyH_done (by kernel_rfl) ?_ _
                refine NoPanic.normal ?_
                go_wp2_with fail
                go_roundw
                case rel => exact ⟨ds.length + 1, c, _, _, by go_num, hkm, rfl, hcl, HPN.out, by rw [List.length_append]; rfl, HRBN.out⟩
                case measure => simp [intOf]; omega
              · go_simp
                refine hK.out _ _ ?_ (fun hHeld => ?_)
                · (try dsimp only)
                  exact ⟨oldA hk0 hgx7, oldA hk1 hgx7, oldA hk2 hgx7⟩
                clear hK K
                (try simp only [Act.put, List.setIfInBounds_toArray, List.set_cons_zero, List.set_cons_succ])
                have c3a := oldA (o := .cells #[.string (bs x0), .string (bs x1), .string (bs x2), .bool false, .bool true] 145) c3 hgb
                refine wpAnyH_ready (rs := [1]) (by kernel_rfl) (by simp) ?_
                refine AllReadyH.cons (o := ⟨some 90, _, _, _, _, _⟩) rfl (fun K hK => ?_) AllReadyH.nil
                go_simp
                refine hK.out _ _ ?_ (fun hHeld => ?_)
                · (try dsimp only)
                  exact ⟨oldA hk0 hgx7, oldA hk1 hgx7, oldA hk2 hgx7⟩
                clear hK K
                (try simp only [Act.put, List.setIfInBounds_toArray, List.set_cons_zero, List.set_cons_succ])
                refine wpAnyH_ready (rs := [22]) (by kernel_rfl) (by simp) ?_
                refine AllReadyH.cons (o := ⟨some 111, _, _, _, _, _⟩) rfl (fun K hK => ?_) AllReadyH.nil
                refine step_push_one elDiff rfl _ _ rfl w.heap.size (.slice D ds.length dc) ds.length _ rfl (own_below HRB7.out.own (by repeat (first | exact Below.refl _ _ | assumption | refine Below.drew ?_ | refine below_drewN ?_ _ | refine Below.setCell ?_ (by first | exact Nat.le_refl _ | exact Below.size (by assumption) | (simp; done) | (simp; omega) | omega) _ | refine Below.alloc ?_ (by first | exact Nat.le_refl _ | exact Below.size (by assumption) | (simp; done) | (simp; omega) | omega) _))) w6.heap.size (encD ⟨bs x0, bs x1, bs x2, false, true⟩) (heap_alloc_new _ _) rfl rfl (by simp [encD, Value.oneCell']) (by simp only [maxLen]; omega) (by omega) (by simp; omega) ?_
                intro v3 w3 hp3
                obtain ⟨D3, cc3, rfl, _⟩ := own_form hp3.1
                have HPP : Hid (Pushed w.heap.size 145 5 (.slice D ds.length dc) (ds.length + 1) (flat encD ds ++ encD ⟨bs x0, bs x1, bs x2, false, true⟩) (w6.alloc (.cells #[.string (bs x0), .string (bs x1), .string (bs x2), .bool false, .bool true] 145)) (.slice D3 (ds.length + 1) cc3) w3) := ⟨hp3.1, ⟨hp3.2.os, hp3.2.tape, hp3.2.output, hp3.2.size, hp3.2.block⟩⟩
                have hfar : ∀ o u, w6.cell? ⟨gx, o, none⟩ = some u → w3.cell? ⟨gx, o, none⟩ = some u := fun o u hu => (World.cell?_of_block ((HPP.out.2.block gx (by simp; omega) (fun e => hneV e.symm)).trans (Lib.alloc_old w6 _ gx hgx7))).trans hu
                have hbx := (HPP.out.2.block (w.heap.size + 1 + 1) (by simp; omega) (fun e => HRB7.out.neB e.symm)).trans ((Lib.alloc_old w6 _ (w.heap.size + 1 + 1) hgb).trans HRB7.out.box)
                have c3' : w3.cell? ⟨w.heap.size + 1 + 1, 3, none⟩ = some (.slice D ds.length dc) := by rw [cell_of_row w3 _ 3 _ _ _ hbx]; rfl
                have f3' : w3.frozen? ⟨w.heap.size + 1 + 1, 3, none⟩ = false := Lib.frozen_of_heap hbx 3
                have hrbN := HRB7.out.push HPP.out
                have HRBN := Lib.hid hrbN
                clear hp3 hbx hrbN c3
                refine hK.out _ _ ?_ (fun hHeld => ?_)
                · (try dsimp only)
                  exact ⟨hfar _ _ hk0, hfar _ _ hk1, hfar _ _ hk2⟩
                clear hK K
                (try simp only [Act.put, List.setIfInBounds_toArray, List.set_cons_zero, List.set_cons_succ])
                refine wpAnyH_take (i := 23) (oi := ⟨some 112, _, _, _, _, _⟩) (v := ?_) rfl (by kernel_rfl) (by kernel_rfl) (by kernel_rfl) (fun _ _ _ h => h) (Or.inl ⟨by simp [Region.wanted, yielded, undef], ?_⟩) (by assumption) ?_
                rotate_left
                · ((intro w hSw; (try dsimp only at hSw); go_simp) <;> with_reducible rfl)
                (try simp only [Act.put, List.setIfInBounds_toArray, List.set_cons_zero, List.set_cons_succ])
                refine wpAnyH_ready (rs := [24]) (by kernel_rfl) (by simp) ?_
                refine AllReadyH.cons rfl (fun K hK => ?_) AllReadyH.nil
                go_simp
                refine hK.out _ _ ?_ (fun hHeld => ?_)
                · (try dsimp only)
                  exact ⟨keepSet hneB (hfar _ _ hk0), keepSet hneB (hfar _ _ hk1), keepSet hneB (hfar _ _ hk2)⟩
                clear hK K
                (try simp only [Act.put, List.setIfInBounds_toArray, List.set_cons_zero, List.set_cons_succ])
                refine wpAnyH_done (by kernel_rfl) ?_ _
                refine NoPanic.normal ?_
                go_wp2_with fail
                go_roundw
                case rel => exact ⟨ds.length + 1, c, _, _, by go_num, hkm, rfl, hcl, HPN.out, by rw [List.length_append]; rfl, HRBN.out⟩
                case measure => simp [intOf]; omega
          · go_wp2_with fail
            refine (HCB.out _).mono ?_
            rintro e w6 ⟨v6, a6, ok6, xs, rfl, ho6, hb6, hq6⟩
            have hrb6 := HSB.out.old hb6
            have hsz6 := hb6.size
            cases hx : rdX 3 (l.drop (b + 1)) with
            | none =>
              rw [hx] at hq6
              obtain rfl : ok6 = false := hq6
              have HZ := Lib.hid (readM_none (HP.out.trans (K4d_atx hbt hx)))
              have HRB6 := Lib.hid hrb6
              clear hx ho6 hb6 hrb6
              obtain ⟨r0, r1, r2, r3, r4, rf0, rf1, rf2, rf3, rf4⟩ := HRB6.out.r.cells
              have HK := Lib.hid HRB6.out.r.out0
              go_wp2_with fail
              generalize (((((w6.setCell ⟨w.heap.size, 0, none⟩ (.string ⟨#[]⟩)).setCell ⟨w.heap.size, 1, none⟩ (.string ⟨#[]⟩)).setCell ⟨w.heap.size, 2, none⟩ (.int .i64 0)).setCell ⟨w.heap.size, 3, none⟩ (.slice none 0 0)).setCell ⟨w.heap.size, 4, none⟩ (.int .i64 0)) = W5 at HK ⊢
              obtain ⟨z0, z1, z2, z3, z4, hb5⟩ := HK.out
              refine bodyPost_ret (v := .tuple #[bkV ⟨#[]⟩ ⟨#[]⟩ 0 none 0 0 0, .int .i64 3]) (by simp [results, Try.results163, go_sem, z0, z1, z2, z3, z4]) rfl ?_
              rw [HZ.out]
              exact ⟨none, 0, rfl, own_nilRow _ _ _ _, hb5⟩
            | some p =>
              rw [hx] at hq6
              obtain ⟨rfl, rfl, rfl, hpd, hpl⟩ := hq6
              obtain ⟨xs, rr⟩ := p
              have hnl : xs.length = 3 := rdX_len hx
              have hp2 := HP.out.trans (K4d_step hbt (by omega) hx)
              rw [hm] at hp2
              dsimp only at ho6 hpd hpl hp2 hnl
              obtain ⟨c, hc⟩ : ∃ c, c = l.length - rr.length := ⟨_, rfl⟩
              rw [← hc] at hpd ⊢
              have hcl : c ≤ l.length := by omega
              rw [hpd] at hp2
              obtain ⟨x0, x1, x2, rfl⟩ : ∃ x0 x1 x2, xs = [x0, x1, x2] := by
                match xs, hnl with
                | [x0, x1, x2], _ => exact ⟨x0, x1, x2, rfl⟩
              have HPN : Hid (P0of l = K4d ch [n0, n1] (ds ++ [⟨bs x0, bs x1, bs x2, true, true⟩]) (many - (ds.length + 1)) (l.drop c)) := hp2
              obtain ⟨gx, cx, rfl, hcx, hgx0, hgx7, ⟨cur, hcur⟩, hget⟩ := own_row ho6 (by simp)
              have hk0 : w6.cell? ⟨gx, 0, none⟩ = some (sv x0) := hget 0 x0 rfl
              have hk1 : w6.cell? ⟨gx, 1, none⟩ = some (sv x1) := hget 1 x1 rfl
              have hk2 : w6.cell? ⟨gx, 2, none⟩ = some (sv x2) := hget 2 x2 rfl
              have hneB : gx ≠ w.heap.size + 1 + 1 := by
                intro e
                rw [e, hrb6.box] at hcur
                injection hcur with hcur
                injection hcur with _ h2 _
                exact absurd h2 (by decide)
              have hneV : (Value.slice D ds.length dc).ownBlock ≠ some gx := own_ne_blk hrb6.own hcur (by decide)
              have c3 : w6.cell? ⟨w.heap.size + 1 + 1, 3, none⟩ = some (.slice D ds.length dc) := by rw [cell_of_row w6 _ 3 _ _ _ hrb6.box]; rfl
              have hgb := hrb6.gl
              have hle := hrb6.below.size
              have HRB7 := Lib.hid hrb6
              have hdl : ds.length < 256 := by omega
              clear hrb6 hx hp2 hpd hpl hc hnl hget hcur ho6 hb6
              go_wp2_with fail
              refine wp_region_noPanic ?_
              refine wp_region_held_drew (S := (fun w' => w'.cell? ⟨gx, 0, none⟩ = some (sv x0) ∧ w'.cell? ⟨gx, 1, none⟩ = some (sv x1) ∧ w'.cell? ⟨gx, 2, none⟩ = some (sv x2))) (by kernel_rfl) ?_ (fun hHeld => ?_)
              · (try dsimp only)
                exact ⟨hk0, hk1, hk2⟩
              refine wpAnyH_take (i := 0) (oi := ⟨some 89, _, _, _, _, _⟩) (v := ?_) rfl (by kernel_rfl) (by kernel_rfl) (by kernel_rfl) (fun _ _ _ h => h) (Or.inl ⟨by simp [Region.wanted, yielded, undef], ?_⟩) (by assumption) ?_
              rotate_left
              · ((intro w hSw; (try dsimp only at hSw); go_simp) <;> with_reducible rfl)
              (try simp only [Act.put, List.setIfInBounds_toArray, List.set_cons_zero, List.set_cons_succ])
              refine wpAnyH_take (i := 2) (oi := ⟨some 91, _, _, _, _, _⟩) (v := ?_) rfl (by kernel_rfl) (by kernel_rfl) (by kernel_rfl) (fun _ _ _ h => h) (Or.inl ⟨by simp [Region.wanted, yielded, undef], ?_⟩) (by assumption) ?_
              rotate_left
              · ((intro w hSw; (try dsimp only at hSw); go_simp) <;> with_reducible rfl)
              (try simp only [Act.put, List.setIfInBounds_toArray, List.set_cons_zero, List.set_cons_succ])
              refine wpAnyH_take (i := 3) (oi := ⟨some 92, _, _, _, _, _⟩) (v := ?_) rfl (by kernel_rfl) (by kernel_rfl) (by kernel_rfl) (fun _ _ _ h => h) (Or.inl ⟨by simp [Region.wanted, yielded, undef], ?_⟩) (by assumption) ?_
              rotate_left
              · ((intro w hSw; (try dsimp only at hSw); go_simp) <;> with_reducible rfl)
              (try simp only [Act.put, List.setIfInBounds_toArray, List.set_cons_zero, List.set_cons_succ])
              refine wpAnyH_take (i := 4) (oi := ⟨some 93, _, _, _, _, _⟩) (v := ?_) rfl (by kernel_rfl) (by kernel_rfl) (by kernel_rfl) (fun _ _ _ h => h) (Or.inl ⟨by simp [Region.wanted, yielded, undef], ?_⟩) (by assumption) ?_
              rotate_left
              · ((intro w hSw; (try dsimp only at hSw); go_simp) <;> with_reducible rfl)
              (try simp only [Act.put, List.setIfInBounds_toArray, List.set_cons_zero, List.set_cons_succ])
              refine wpAnyH_take (i := 5) (oi := ⟨some 94, _, _, _, _, _⟩) (v := ?_) rfl (by kernel_rfl) (by kernel_rfl) (by kernel_rfl) (fun _ _ _ h => h) (Or.inl ⟨by simp [Region.wanted, yielded, undef], ?_⟩) (by assumption) ?_
              rotate_left
              · ((intro w hSw; (try dsimp only at hSw); go_simp) <;> with_reducible rfl)
              (try simp only [Act.put, List.setIfInBounds_toArray, List.set_cons_zero, List.set_cons_succ])
              refine wpAnyH_take (i := 6) (oi := ⟨some 95, _, _, _, _, _⟩) (v := ?_) rfl (by kernel_rfl) (by kernel_rfl) (by kernel_rfl) (fun _ _ _ h => h) (Or.inl ⟨by simp [Region.wanted, yielded, undef], ?_⟩) (by assumption) ?_
              rotate_left
              · ((intro w hSw; (try dsimp only at hSw); go_simp) <;> with_reducible rfl)
              (try simp only [Act.put, List.setIfInBounds_toArray, List.set_cons_zero, List.set_cons_succ])
              refine wpAnyH_take (i := 7) (oi := ⟨some 96, _, _, _, _, _⟩) (v := ?_) rfl (by kernel_rfl) (by kernel_rfl) (by kernel_rfl) (fun _ _ _ h => h) (Or.inl ⟨by simp [Region.wanted, yielded, undef], ?_⟩) (by assumption) ?_
              rotate_left
              · ((intro w hSw; (try dsimp only at hSw); go_simp) <;> with_reducible rfl)
              (try simp only [Act.put, List.setIfInBounds_toArray, List.set_cons_zero, List.set_cons_succ])
              refine wpAnyH_take (i := 8) (oi := ⟨some 97, _, _, _, _, _⟩) (v := ?_) rfl (by kernel_rfl) (by kernel_rfl) (by kernel_rfl) (fun _ _ _ h => h) (Or.inl ⟨by simp [Region.wanted, yielded, undef], ?_⟩) (by assumption) ?_
              rotate_left
              · ((intro w hSw; (try dsimp only at hSw); go_simp) <;> with_reducible rfl)
              (try simp only [Act.put, List.setIfInBounds_toArray, List.set_cons_zero, List.set_cons_succ])
              refine wpAnyH_take (i := 9) (oi := ⟨some 98, _, _, _, _, _⟩) (v := ?_) rfl (by kernel_rfl) (by kernel_rfl) (by kernel_rfl) (fun _ _ _ h => h) (Or.inl ⟨by simp [Region.wanted, yielded, undef], ?_⟩) (by assumption) ?_
              rotate_left
              · ((intro w hSw; (try dsimp only at hSw); go_simp) <;> with_reducible rfl)
              (try simp only [Act.put, List.setIfInBounds_toArray, List.set_cons_zero, List.set_cons_succ])
              refine wpAnyH_take (i := 10) (oi := ⟨some 99, _, _, _, _, _⟩) (v := ?_) rfl (by kernel_rfl) (by kernel_rfl) (by kernel_rfl) (fun _ _ _ h => h) (Or.inl ⟨by simp [Region.wanted, yielded, undef], ?_⟩) (by assumption) ?_
              rotate_left
              · ((intro w hSw; (try dsimp only at hSw); go_simp) <;> with_reducible rfl)
              (try simp only [Act.put, List.setIfInBounds_toArray, List.set_cons_zero, List.set_cons_succ])
              refine wpAnyH_take (i := 11) (oi := ⟨some 100, _, _, _, _, _⟩) (v := ?_) rfl (by kernel_rfl) (by kernel_rfl) (by kernel_rfl) (fun _ _ _ h => h) (Or.inl ⟨by simp [Region.wanted, yielded, undef], ?_⟩) (by assumption) ?_
              rotate_left
              · ((intro w hSw; (try dsimp only at hSw); go_simp) <;> with_reducible rfl)
              (try simp only [Act.put, List.setIfInBounds_toArray, List.set_cons_zero, List.set_cons_succ])
              refine wpAnyH_take (i := 12) (oi := ⟨some 101, _, _, _, _, _⟩) (v := ?_) rfl (by kernel_rfl) (by kernel_rfl) (by kernel_rfl) (fun _ _ _ h => h) (Or.inl ⟨by simp [Region.wanted, yielded, undef], ?_⟩) (by assumption) ?_
              rotate_left
              · ((intro w hSw; (try dsimp only at hSw); go_simp) <;> with_reducible rfl)
              (try simp only [Act.put, List.setIfInBounds_toArray, List.set_cons_zero, List.set_cons_succ])
              refine wpAnyH_take (i := 13) (oi := ⟨some 102, _, _, _, _, _⟩) (v := ?_) rfl (by kernel_rfl) (by kernel_rfl) (by kernel_rfl) (fun _ _ _ h => h) (Or.inl ⟨by simp [Region.wanted, yielded, undef], ?_⟩) (by assumption) ?_
              rotate_left
              · ((intro w hSw; (try dsimp only at hSw); go_simp) <;> with_reducible rfl)
              (try simp only [Act.put, List.setIfInBounds_toArray, List.set_cons_zero, List.set_cons_succ])
              refine wpAnyH_take (i := 14) (oi := ⟨some 103, _, _, _, _, _⟩) (v := ?_) rfl (by kernel_rfl) (by kernel_rfl) (by kernel_rfl) (fun _ _ _ h => h) (Or.inl ⟨by simp [Region.wanted, yielded, undef], ?_⟩) (by assumption) ?_
              rotate_left
              · ((intro w hSw; (try dsimp only at hSw); go_simp) <;> with_reducible rfl)
              (try simp only [Act.put, List.setIfInBounds_toArray, List.set_cons_zero, List.set_cons_succ])
              refine wpAnyH_take (i := 15) (oi := ⟨some 104, _, _, _, _, _⟩) (v := ?_) rfl (by kernel_rfl) (by kernel_rfl) (by kernel_rfl) (fun _ _ _ h => h) (Or.inl ⟨by simp [Region.wanted, yielded, undef], ?_⟩) (by assumption) ?_
              rotate_left
              · ((intro w hSw; (try dsimp only at hSw); go_simp) <;> with_reducible rfl)
              (try simp only [Act.put, List.setIfInBounds_toArray, List.set_cons_zero, List.set_cons_succ])
              refine wpAnyH_take (i := 16) (oi := ⟨some 105, _, _, _, _, _⟩) (v := ?_) rfl (by kernel_rfl) (by kernel_rfl) (by kernel_rfl) (fun _ _ _ h => h) (Or.inl ⟨by simp [Region.wanted, yielded, undef], ?_⟩) (by assumption) ?_
              rotate_left
              · ((intro w hSw; (try dsimp only at hSw); go_simp) <;> with_reducible rfl)
              (try simp only [Act.put, List.setIfInBounds_toArray, List.set_cons_zero, List.set_cons_succ])
              refine wpAnyH_take (i := 17) (oi := ⟨some 106, _, _, _, _, _⟩) (v := ?_) rfl (by kernel_rfl) (by kernel_rfl) (by kernel_rfl) (fun _ _ _ h => h) (Or.inl ⟨by simp [Region.wanted, yielded, undef], ?_⟩) (by assumption) ?_
              rotate_left
              · ((intro w hSw; (try dsimp only at hSw); go_simp) <;> with_reducible rfl)
              (try simp only [Act.put, List.setIfInBounds_toArray, List.set_cons_zero, List.set_cons_succ])
              refine wpAnyH_take (i := 18) (oi := ⟨some 107, _, _, _, _, _⟩) (v := ?_) rfl (by kernel_rfl) (by kernel_rfl) (by kernel_rfl) (fun _ _ _ h => h) (Or.inl ⟨by simp [Region.wanted, yielded, undef], ?_⟩) (by assumption) ?_
              rotate_left
              · ((intro w hSw; (try dsimp only at hSw); go_simp) <;> with_reducible rfl)
              (try simp only [Act.put, List.setIfInBounds_toArray, List.set_cons_zero, List.set_cons_succ])
              refine wpAnyH_take (i := 19) (oi := ⟨some 108, _, _, _, _, _⟩) (v := ?_) rfl (by kernel_rfl) (by kernel_rfl) (by kernel_rfl) (fun _ _ _ h => h) (Or.inl ⟨by simp [Region.wanted, yielded, undef], ?_⟩) (by assumption) ?_
              rotate_left
              · ((intro w hSw; (try dsimp only at hSw); go_simp) <;> with_reducible rfl)
              (try simp only [Act.put, List.setIfInBounds_toArray, List.set_cons_zero, List.set_cons_succ])
              refine wpAnyH_take (i := 20) (oi := ⟨some 109, _, _, _, _, _⟩) (v := ?_) rfl (by kernel_rfl) (by kernel_rfl) (by kernel_rfl) (fun _ _ _ h => h) (Or.inl ⟨by simp [Region.wanted, yielded, undef], ?_⟩) (by assumption) ?_
              rotate_left
              · ((intro w hSw; (try dsimp only at hSw); go_simp) <;> with_reducible rfl)
              (try simp only [Act.put, List.setIfInBounds_toArray, List.set_cons_zero, List.set_cons_succ])
              refine wpAnyH_ready (rs := [1, 21]) (by kernel_rfl) (by simp) ?_
              refine AllReadyH.cons (o := ⟨some 90, _, _, _, _, _⟩) rfl (fun K hK => ?_) (AllReadyH.cons (o := ⟨some 110, _, _, _, _, _⟩) rfl (fun K hK => ?_) AllReadyH.nil)
              · go_simp
                refine hK.out _ _ ?_ (fun hHeld => ?_)
                · (try dsimp only)
                  exact ⟨hk0, hk1, hk2⟩
                clear hK K
                (try simp only [Act.put, List.setIfInBounds_toArray, List.set_cons_zero, List.set_cons_succ])
                refine wpAnyH_ready (rs := [21]) (by kernel_rfl) (by simp) ?_
                refine AllReadyH.cons (o := ⟨some 110, _, _, _, _, _⟩) rfl (fun K hK => ?_) AllReadyH.nil
                go_simp
                refine hK.out _ _ ?_ (fun hHeld => ?_)
                · (try dsimp only)
                  exact ⟨oldA hk0 hgx7, oldA hk1 hgx7, oldA hk2 hgx7⟩
                clear hK K
                (try simp only [Act.put, List.setIfInBounds_toArray, List.set_cons_zero, List.set_cons_succ])
                refine wpAnyH_ready (rs := [22]) (by kernel_rfl) (by simp) ?_
                refine AllReadyH.cons (o := ⟨some 111, _, _, _, _, _⟩) rfl (fun K hK => ?_) AllReadyH.nil
                refine step_push_one elDiff rfl _ _ rfl w.heap.size (.slice D ds.length dc) ds.length _ rfl (own_below HRB7.out.own (by repeat (first | exact Below.refl _ _ | assumption | refine Below.drew ?_ | refine below_drewN ?_ _ | refine Below.setCell ?_ (by first | exact Nat.le_refl _ | exact Below.size (by assumption) | (simp; done) | (simp; omega) | omega) _ | refine Below.alloc ?_ (by first | exact Nat.le_refl _ | exact Below.size (by assumption) | (simp; done) | (simp; omega) | omega) _))) w6.heap.size (encD ⟨bs x0, bs x1, bs x2, true, true⟩) (heap_alloc_new _ _) rfl rfl (by simp [encD, Value.oneCell']) (by simp only [maxLen]; omega) (by omega) (by simp; omega) ?_
                intro v3 w3 hp3
                obtain ⟨D3, cc3, rfl, _⟩ := own_form hp3.1
                have HPP : Hid (Pushed w.heap.size 145 5 (.slice D ds.length dc) (ds.length + 1) (flat encD ds ++ encD ⟨bs x0, bs x1, bs x2, true, true⟩) (w6.alloc (.cells #[.string (bs x0), .string (bs x1), .string (bs x2), .bool true, .bool true] 145)) (.slice D3 (ds.length + 1) cc3) w3) := ⟨hp3.1, ⟨hp3.2.os, hp3.2.tape, hp3.2.output, hp3.2.size, hp3.2.block⟩⟩
                have hfar : ∀ o u, w6.cell? ⟨gx, o, none⟩ = some u → w3.cell? ⟨gx, o, none⟩ = some u := fun o u hu => (World.cell?_of_block ((HPP.out.2.block gx (by simp; omega) (fun e => hneV e.symm)).trans (Lib.alloc_old w6 _ gx hgx7))).trans hu
                have hbx := (HPP.out.2.block (w.heap.size + 1 + 1) (by simp; omega) (fun e => HRB7.out.neB e.symm)).trans ((Lib.alloc_old w6 _ (w.heap.size + 1 + 1) hgb).trans HRB7.out.box)
                have c3' : w3.cell? ⟨w.heap.size + 1 + 1, 3, none⟩ = some (.slice D ds.length dc) := by rw [cell_of_row w3 _ 3 _ _ _ hbx]; rfl
                have f3' : w3.frozen? ⟨w.heap.size + 1 + 1, 3, none⟩ = false := Lib.frozen_of_heap hbx 3
                have hrbN := HRB7.out.push HPP.out
                have HRBN := Lib.hid hrbN
                clear hp3 hbx hrbN c3
                refine hK.out _ _ ?_ (fun hHeld => ?_)
                · (try dsimp only)
                  exact ⟨hfar _ _ hk0, hfar _ _ hk1, hfar _ _ hk2⟩
                clear hK K
                (try simp only [Act.put, List.setIfInBounds_toArray, List.set_cons_zero, List.set_cons_succ])
                refine wpAnyH_take (i := 23) (oi := ⟨some 112, _, _, _, _, _⟩) (v := ?_) rfl (by kernel_rfl) (by kernel_rfl) (by kernel_rfl) (fun _ _ _ h => h) (Or.inl ⟨by simp [Region.wanted, yielded, undef], ?_⟩) (by assumption) ?_
                rotate_left
                · ((intro w hSw; (try dsimp only at hSw); go_simp) <;> with_reducible rfl)
                (try simp only [Act.put, List.setIfInBounds_toArray, List.set_cons_zero, List.set_cons_succ])
                refine wpAnyH_ready (rs := [24]) (by kernel_rfl) (by simp) ?_
                refine AllReadyH.cons rfl (fun K hK => ?_) AllReadyH.nil
                go_simp
                refine hK.out _ _ ?_ (fun hHeld => ?_)
                · (try dsimp only)
                  exact ⟨keepSet hneB (hfar _ _ hk0), keepSet hneB (hfar _ _ hk1), keepSet hneB (hfar _ _ hk2)⟩
                clear hK K
                (try simp only [Act.put, List.setIfInBounds_toArray, List.set_cons_zero, List.set_cons_succ])
                refine wpAnyH_done (by kernel_rfl) ?_ _
                refine NoPanic.normal ?_
                go_wp2_with fail
                go_roundw
                case rel => exact ⟨ds.length + 1, c, _, _, by go_num, hkm, rfl, hcl, HPN.out, by rw [List.length_append]; rfl, HRBN.out⟩
                case measure => simp [intOf]; omega
              · go_simp
                refine hK.out _ _ ?_ (fun hHeld => ?_)
                · (try dsimp only)
                  exact ⟨oldA hk0 hgx7, oldA hk1 hgx7, oldA hk2 hgx7⟩
                clear hK K
                (try simp only [Act.put, List.setIfInBounds_toArray, List.set_cons_zero, List.set_cons_succ])
                have c3a := oldA (o := .cells #[.string (bs x0), .string (bs x1), .string (bs x2), .bool true, .bool true] 145) c3 hgb
                refine wpAnyH_ready (rs := [1]) (by kernel_rfl) (by simp) ?_
                refine AllReadyH.cons (o := ⟨some 90, _, _, _, _, _⟩) rfl (fun K hK => ?_) AllReadyH.nil
                go_simp
                refine hK.out _ _ ?_ (fun hHeld => ?_)
                · (try dsimp only)
                  exact ⟨oldA hk0 hgx7, oldA hk1 hgx7, oldA hk2 hgx7⟩
                clear hK K
                (try simp only [Act.put, List.setIfInBounds_toArray, List.set_cons_zero, List.set_cons_succ])
                refine wpAnyH_ready (rs := [22]) (by kernel_rfl) (by simp) ?_
                refine AllReadyH.cons (o := ⟨some 111, _, _, _, _, _⟩) rfl (fun K hK => ?_) AllReadyH.nil
                refine step_push_one elDiff rfl _ _ rfl w.heap.size (.slice D ds.length dc) ds.length _ rfl (own_below HRB7.out.own (by repeat (first | exact Below.refl _ _ | assumption | refine Below.drew ?_ | refine below_drewN ?_ _ | refine Below.setCell ?_ (by first | exact Nat.le_refl _ | exact Below.size (by assumption) | (simp; done) | (simp; omega) | omega) _ | refine Below.alloc ?_ (by first | exact Nat.le_refl _ | exact Below.size (by assumption) | (simp; done) | (simp; omega) | omega) _))) w6.heap.size (encD ⟨bs x0, bs x1, bs x2, true, true⟩) (heap_alloc_new _ _) rfl rfl (by simp [encD, Value.oneCell']) (by simp only [maxLen]; omega) (by omega) (by simp; omega) ?_
                intro v3 w3 hp3
                obtain ⟨D3, cc3, rfl, _⟩ := own_form hp3.1
                have HPP : Hid (Pushed w.heap.size 145 5 (.slice D ds.length dc) (ds.length + 1) (flat encD ds ++ encD ⟨bs x0, bs x1, bs x2, true, true⟩) (w6.alloc (.cells #[.string (bs x0), .string (bs x1), .string (bs x2), .bool true, .bool true] 145)) (.slice D3 (ds.length + 1) cc3) w3) := ⟨hp3.1, ⟨hp3.2.os, hp3.2.tape, hp3.2.output, hp3.2.size, hp3.2.block⟩⟩
                have hfar : ∀ o u, w6.cell? ⟨gx, o, none⟩ = some u → w3.cell? ⟨gx, o, none⟩ = some u := fun o u hu => (World.cell?_of_block ((HPP.out.2.block gx (by simp; omega) (fun e => hneV e.symm)).trans (Lib.alloc_old w6 _ gx hgx7))).trans hu
                have hbx := (HPP.out.2.block (w.heap.size + 1 + 1) (by simp; omega) (fun e => HRB7.out.neB e.symm)).trans ((Lib.alloc_old w6 _ (w.heap.size + 1 + 1) hgb).trans HRB7.out.box)
                have c3' : w3.cell? ⟨w.heap.size + 1 + 1, 3, none⟩ = some (.slice D ds.length dc) := by rw [cell_of_row w3 _ 3 _ _ _ hbx]; rfl
                have f3' : w3.frozen? ⟨w.heap.size + 1 + 1, 3, none⟩ = false := Lib.frozen_of_heap hbx 3
                have hrbN := HRB7.out.push HPP.out
                have HRBN := Lib.hid hrbN
                clear hp3 hbx hrbN c3
                refine hK.out _ _ ?_ (fun hHeld => ?_)
                · (try dsimp only)
                  exact ⟨hfar _ _ hk0, hfar _ _ hk1, hfar _ _ hk2⟩
                clear hK K
                (try simp only [Act.put, List.setIfInBounds_toArray, List.set_cons_zero, List.set_cons_succ])
                refine wpAnyH_take (i := 23) (oi := ⟨some 112, _, _, _, _, _⟩) (v := ?_) rfl (by kernel_rfl) (by kernel_rfl) (by kernel_rfl) (fun _ _ _ h => h) (Or.inl ⟨by simp [Region.wanted, yielded, undef], ?_⟩) (by assumption) ?_
                rotate_left
                · ((intro w hSw; (try dsimp only at hSw); go_simp) <;> with_reducible rfl)
                (try simp only [Act.put, List.setIfInBounds_toArray, List.set_cons_zero, List.set_cons_succ])
                refine wpAnyH_ready (rs := [24]) (by kernel_rfl) (by simp) ?_
                refine AllReadyH.cons rfl (fun K hK => ?_) AllReadyH.nil
                go_simp
                refine hK.out _ _ ?_ (fun hHeld => ?_)
                · (try dsimp only)
                  exact ⟨keepSet hneB (hfar _ _ hk0), keepSet hneB (hfar _ _ hk1), keepSet hneB (hfar _ _ hk2)⟩
                clear hK K
                (try simp only [Act.put, List.setIfInBounds_toArray, List.set_cons_zero, List.set_cons_succ])
                refine wpAnyH_done (by kernel_rfl) ?_ _
                refine NoPanic.normal ?_
                go_wp2_with fail
                go_roundw
                case rel => exact ⟨ds.length + 1, c, _, _, by go_num, hkm, rfl, hcl, HPN.out, by rw [List.length_append]; rfl, HRBN.out⟩
                case measure => simp [intOf]; omega
        · have hke : ds.length = many := by omega
          subst hke
          rw [Nat.sub_self, K4d_zero] at HP
          by_cases h8 : b + 8 = l.length
          case neg =>
            have HZ := Lib.hid (readM_none (HP.out.trans (by unfold K5; rw [if_neg (by rw [List.length_drop]; omega)])))
            have q1 : (((b : Int) + 8) == (l.length : Int)) = false := by rw [beq_eq_false_iff_ne]; omega
            have q2 : (((b : Int) + 8) != (l.length : Int)) = true := by rw [bne_iff_ne]; omega
            clear h8
            obtain ⟨r0, r1, r2, r3, r4, rf0, rf1, rf2, rf3, rf4⟩ := HSB.out.r.cells
            have HK := Lib.hid HSB.out.r.out0
            go_wp2_with fail
            generalize (((((wr.setCell ⟨w.heap.size, 0, none⟩ (.string ⟨#[]⟩)).setCell ⟨w.heap.size, 1, none⟩ (.string ⟨#[]⟩)).setCell ⟨w.heap.size, 2, none⟩ (.int .i64 0)).setCell ⟨w.heap.size, 3, none⟩ (.slice none 0 0)).setCell ⟨w.heap.size, 4, none⟩ (.int .i64 0)) = W5 at HK ⊢
            obtain ⟨z0, z1, z2, z3, z4, hb5⟩ := HK.out
            refine bodyPost_ret (v := .tuple #[bkV ⟨#[]⟩ ⟨#[]⟩ 0 none 0 0 0, .int .i64 3]) (by simp [results, Try.results163, go_sem, z0, z1, z2, z3, z4]) rfl ?_
            rw [HZ.out]
            exact ⟨none, 0, rfl, own_nilRow _ _ _ _, hb5⟩
          have q1 : (((b : Int) + 8) == (l.length : Int)) = true := by rw [beq_iff_eq]; omega
          have q2 : (((b : Int) + 8) != (l.length : Int)) = false := by rw [bne_eq_false_iff_eq]; omega
          obtain ⟨sm, hsm⟩ : ∃ sm, sm = be ((l.drop b).take 4) := ⟨_, rfl⟩
          obtain ⟨lk, hlk⟩ : ∃ lk, lk = be ((l.drop (b + 4)).take 4) := ⟨_, rfl⟩
          have hP : P0of l = some ⟨bs n0, bs n1, ch, ds, sm, lk⟩ := by
            rw [HP.out, hsm, hlk, ← List.drop_drop]
            unfold K5
            rw [if_pos (by rw [List.length_drop]; omega)]
            rfl
          have HO1 : Hid (∀ W : World, Calls Try.prog 185 #[.string ((bs l).extract b (b + 4))] W fun e w' => e = .returned (.int .i64 sm) ∧ W = w') := fun W => by
            have hc := bs_cut l b (b + 4)
            rw [show b + 4 - b = 4 from by omega] at hc
            rw [hsm]
            exact l01Of_str _ _ hc W (by rw [List.length_take]; omega)
          have HO2 : Hid (∀ W : World, Calls Try.prog 185 #[.string ((bs l).extract (b + 4) l.length)] W fun e w' => e = .returned (.int .i64 lk) ∧ W = w') := fun W => by
            have hc := bs_cut l (b + 4) l.length
            rw [show l.length - (b + 4) = 4 from by omega] at hc
            rw [hlk]
            exact l01Of_str _ _ hc W (by rw [List.length_take]; omega)
          have HM := Lib.hid (readM_of hP)
          obtain ⟨z1, z2, z3⟩ := P0_sizes _ hP
          obtain ⟨j0, j1, j2, j3, j4, rf⟩ := HSB.out.boxCells
          have f4 := rf 4
          have hsb8 := HSB.out.field 4 (.int .i64 sm) (sm' := sm) rfl
          have hdl255 : ds.length ≤ 255 := by omega
          have HBK := Lib.hid (fun W hrd => specBackupOK_any (bs n0) (bs n1) ch D ds dc sm W hrd (by omega) (Nat.le_trans z1 (by simp only [maxLen]; omega)) (Nat.le_trans z2 (by simp only [maxLen]; omega)) z3)
          have HSB8 := Lib.hid hsb8
          clear hP hsm hlk rf z1 z2 z3 hsb8 HSB HP hkm hk
          go_wp2_with (go_at_call 185; with_reducible refine (HO1.out _).mono ?_; rintro e w' ⟨rfl, rfl⟩)
          refine (HBK.out _ (by exact Rd.own HSB8.out.own)).mono ?_
          rintro e w10 ⟨rfl, hb10⟩
          have HSB10 := Lib.hid (HSB8.out.old hb10)
          have H8 := Lib.hid h8
          clear hb10 f4 j0 j1 j2 j3 j4 q1 q2 h8
          cases hbk : bkB (bs n0) (bs n1) ch ds sm with
          | false =>
            have HZ := Lib.hid (HM.out.trans (finM_bad hbk))
            clear hbk
            obtain ⟨r0, r1, r2, r3, r4, rf0, rf1, rf2, rf3, rf4⟩ := HSB10.out.r.cells
            have HK := Lib.hid HSB10.out.r.out0
            go_wp2_with fail
            generalize (((((w10.setCell ⟨w.heap.size, 0, none⟩ (.string ⟨#[]⟩)).setCell ⟨w.heap.size, 1, none⟩ (.string ⟨#[]⟩)).setCell ⟨w.heap.size, 2, none⟩ (.int .i64 0)).setCell ⟨w.heap.size, 3, none⟩ (.slice none 0 0)).setCell ⟨w.heap.size, 4, none⟩ (.int .i64 0)) = W5 at HK ⊢
            obtain ⟨z0, z1, z2, z3, z4, hb5⟩ := HK.out
            refine bodyPost_ret (v := .tuple #[bkV ⟨#[]⟩ ⟨#[]⟩ 0 none 0 0 0, .int .i64 3]) (by simp [results, Try.results163, go_sem, z0, z1, z2, z3, z4]) rfl ?_
            rw [HZ.out]
            exact ⟨none, 0, rfl, own_nilRow _ _ _ _, hb5⟩
          | true =>
            have HBKT := Lib.hid hbk
            have HR9 := Lib.hid (Bk.ok_r (m := ⟨bs n0, bs n1, ch, D, ds, dc, sm⟩) hbk)
            obtain ⟨L, hL⟩ : ∃ L, L = linkM (bs n0) (bs n1) ch ds sm := ⟨_, rfl⟩
            have HLK : Hid (∀ W : World, Below w10.heap.size w10 W → Calls Try.prog 212 #[bkV (bs n0) (bs n1) ch D ds.length dc sm] W fun e w' => e = .returned (.int .i64 L) ∧ Below W.heap.size W w') := fun W hb => by
              rw [hL]
              exact l06Link_any (bs n0) (bs n1) ch D ds dc sm W (Rd.own (HSB10.out.old hb).own) (by exact HR9.out.bkok)
            have HWW : Hid (∀ W : World, Below w10.heap.size w10 W → W.cell? ⟨w.heap.size + 1 + 1, 0, none⟩ = some (.string (bs n0)) ∧ W.cell? ⟨w.heap.size + 1 + 1, 1, none⟩ = some (.string (bs n1)) ∧ W.cell? ⟨w.heap.size + 1 + 1, 2, none⟩ = some (.int .i64 ch) ∧ W.cell? ⟨w.heap.size + 1 + 1, 3, none⟩ = some (.slice D ds.length dc) ∧ W.cell? ⟨w.heap.size + 1 + 1, 4, none⟩ = some (.int .i64 sm)) := fun W hb => by
              obtain ⟨i0, i1, i2, i3, i4, _⟩ := (HSB10.out.old hb).boxCells
              exact ⟨i0, i1, i2, i3, i4⟩
            have HL := Lib.hid hL
            obtain ⟨i0, i1, i2, i3, i4⟩ := HWW.out w10 (Below.refl _ _)
            have h8 := H8.out
            have b1 : (0 : Int) ≤ (b : Int) + 4 := by omega
            have b2 : (b : Int) + 4 ≤ (l.length : Int) := by omega
            have b3 : ((b : Int) + 4).toNat = b + 4 := by omega
            have b4 : IntKind.i64.wrap ((b : Int) + 4) = (b : Int) + 4 := IntWalk.i64_in _ (by omega)
            clear hbk hL h8
            by_cases heq : lk = L
            case neg =>
              have HZ := Lib.hid (HM.out.trans (finM_sum HBKT.out (by show ¬ lk = linkM _ _ _ _ _; rw [← HL.out]; exact heq)))
              have q1 : ((L : Int) == (lk : Int)) = false := by rw [beq_eq_false_iff_ne]; omega
              have q2 : ((L : Int) != (lk : Int)) = true := by rw [bne_iff_ne]; omega
              clear heq
              go_wp2_with fail
              go_region_held3 (fun w' => w'.cell? ⟨w.heap.size + 1 + 1, 0, none⟩ = some (.string (bs n0)) ∧ w'.cell? ⟨w.heap.size + 1 + 1, 1, none⟩ = some (.string (bs n1)) ∧ w'.cell? ⟨w.heap.size + 1 + 1, 2, none⟩ = some (.int .i64 ch) ∧ w'.cell? ⟨w.heap.size + 1 + 1, 3, none⟩ = some (.slice D ds.length dc) ∧ w'.cell? ⟨w.heap.size + 1 + 1, 4, none⟩ = some (.int .i64 sm))
                ((refine HWW.out _ ?_; first | exact hbL | (repeat (first | exact Below.refl _ _ | assumption | refine Below.drew ?_ | refine below_drewN ?_ _ | refine Below.setCell ?_ (by first | exact Nat.le_refl _ | exact Below.size (by assumption) | (simp; done) | (simp; omega) | omega) _ | refine Below.alloc ?_ (by first | exact Nat.le_refl _ | exact Below.size (by assumption) | (simp; done) | (simp; omega) | omega) _))))
                (first
                  | (go_at_call 212; refine (HLK.out _ (by first | exact Below.refl _ _ | exact (Below.refl _ _).drew | (repeat (first | exact Below.refl _ _ | assumption | refine Below.drew ?_ | refine below_drewN ?_ _ | refine Below.setCell ?_ (by first | exact Nat.le_refl _ | exact Below.size (by assumption) | (simp; done) | (simp; omega) | omega) _ | refine Below.alloc ?_ (by first | exact Nat.le_refl _ | exact Below.size (by assumption) | (simp; done) | (simp; omega) | omega) _)))).mono ?_; rintro e w12 ⟨rfl, hb12⟩; have hbL : Below w10.heap.size w10 w12 := Below.trans (by first | exact Below.refl _ _ | exact (Below.refl _ _).drew | (repeat (first | exact Below.refl _ _ | assumption | refine Below.drew ?_ | refine below_drewN ?_ _ | refine Below.setCell ?_ (by first | exact Nat.le_refl _ | exact Below.size (by assumption) | (simp; done) | (simp; omega) | omega) _ | refine Below.alloc ?_ (by first | exact Nat.le_refl _ | exact Below.size (by assumption) | (simp; done) | (simp; omega) | omega) _))) (hb12.mono (by first | exact Nat.le_refl _ | omega | (simp; done) | (simp; omega))))
                  | (go_at_call 185; with_reducible refine (HO2.out _).mono ?_; rintro e w' ⟨rfl, rfl⟩)
                  | fail)
              all_goals
                have HSB12 := Lib.hid (HSB10.out.old hbL)
                obtain ⟨r0, r1, r2, r3, r4, rf0, rf1, rf2, rf3, rf4⟩ := HSB12.out.r.cells
                have HK := Lib.hid HSB12.out.r.out0
                go_wp2_with fail
                generalize (((((w12.setCell ⟨w.heap.size, 0, none⟩ (.string ⟨#[]⟩)).setCell ⟨w.heap.size, 1, none⟩ (.string ⟨#[]⟩)).setCell ⟨w.heap.size, 2, none⟩ (.int .i64 0)).setCell ⟨w.heap.size, 3, none⟩ (.slice none 0 0)).setCell ⟨w.heap.size, 4, none⟩ (.int .i64 0)) = W5 at HK ⊢
                obtain ⟨z0, z1, z2, z3, z4, hb5⟩ := HK.out
                refine bodyPost_ret (v := .tuple #[bkV ⟨#[]⟩ ⟨#[]⟩ 0 none 0 0 0, .int .i64 8]) (by simp [results, Try.results163, go_sem, z0, z1, z2, z3, z4]) rfl ?_
                rw [HZ.out]
                exact ⟨none, 0, rfl, own_nilRow _ _ _ _, hb5⟩
            case pos =>
              have HZ := Lib.hid (HM.out.trans (finM_ok HBKT.out (by show lk = linkM _ _ _ _ _; rw [← HL.out]; exact heq)))
              have q1 : ((L : Int) == (lk : Int)) = true := by rw [beq_iff_eq]; omega
              have q2 : ((L : Int) != (lk : Int)) = false := by rw [bne_eq_false_iff_eq]; omega
              clear heq
              go_wp2_with fail
              go_region_held3 (fun w' => w'.cell? ⟨w.heap.size + 1 + 1, 0, none⟩ = some (.string (bs n0)) ∧ w'.cell? ⟨w.heap.size + 1 + 1, 1, none⟩ = some (.string (bs n1)) ∧ w'.cell? ⟨w.heap.size + 1 + 1, 2, none⟩ = some (.int .i64 ch) ∧ w'.cell? ⟨w.heap.size + 1 + 1, 3, none⟩ = some (.slice D ds.length dc) ∧ w'.cell? ⟨w.heap.size + 1 + 1, 4, none⟩ = some (.int .i64 sm))
                ((refine HWW.out _ ?_; first | exact hbL | (repeat (first | exact Below.refl _ _ | assumption | refine Below.drew ?_ | refine below_drewN ?_ _ | refine Below.setCell ?_ (by first | exact Nat.le_refl _ | exact Below.size (by assumption) | (simp; done) | (simp; omega) | omega) _ | refine Below.alloc ?_ (by first | exact Nat.le_refl _ | exact Below.size (by assumption) | (simp; done) | (simp; omega) | omega) _))))
                (first
                  | (go_at_call 212; refine (HLK.out _ (by first | exact Below.refl _ _ | exact (Below.refl _ _).drew | (repeat (first | exact Below.refl _ _ | assumption | refine Below.drew ?_ | refine below_drewN ?_ _ | refine Below.setCell ?_ (by first | exact Nat.le_refl _ | exact Below.size (by assumption) | (simp; done) | (simp; omega) | omega) _ | refine Below.alloc ?_ (by first | exact Nat.le_refl _ | exact Below.size (by assumption) | (simp; done) | (simp; omega) | omega) _)))).mono ?_; rintro e w12 ⟨rfl, hb12⟩; have hbL : Below w10.heap.size w10 w12 := Below.trans (by first | exact Below.refl _ _ | exact (Below.refl _ _).drew | (repeat (first | exact Below.refl _ _ | assumption | refine Below.drew ?_ | refine below_drewN ?_ _ | refine Below.setCell ?_ (by first | exact Nat.le_refl _ | exact Below.size (by assumption) | (simp; done) | (simp; omega) | omega) _ | refine Below.alloc ?_ (by first | exact Nat.le_refl _ | exact Below.size (by assumption) | (simp; done) | (simp; omega) | omega) _))) (hb12.mono (by first | exact Nat.le_refl _ | omega | (simp; done) | (simp; omega))))
                  | (go_at_call 185; with_reducible refine (HO2.out _).mono ?_; rintro e w' ⟨rfl, rfl⟩)
                  | fail)
              all_goals
                have HSB12 := Lib.hid (HSB10.out.old hbL)
                obtain ⟨r0, r1, r2, r3, r4, rf0, rf1, rf2, rf3, rf4⟩ := HSB12.out.r.cells
                obtain ⟨k0, k1, k2, k3, k4, _⟩ := HSB12.out.boxCells
                have HK := Lib.hid (HSB12.out.out5 (.string (bs n0)) (.string (bs n1)) (.int .i64 ch) (.slice D ds.length dc) (.int .i64 sm))
                go_wp2_with fail
                generalize (((((w12.setCell ⟨w.heap.size, 0, none⟩ (.string (bs n0))).setCell ⟨w.heap.size, 1, none⟩ (.string (bs n1))).setCell ⟨w.heap.size, 2, none⟩ (.int .i64 ch)).setCell ⟨w.heap.size, 3, none⟩ (.slice D ds.length dc)).setCell ⟨w.heap.size, 4, none⟩ (.int .i64 sm)) = W5 at HK ⊢
                obtain ⟨z0, z1, z2, z3, z4, hb5, ho5⟩ := HK.out
                refine bodyPost_ret (v := .tuple #[bkV (bs n0) (bs n1) ch D ds.length dc sm, .int .i64 0]) (by simp [results, Try.results163, go_sem, z0, z1, z2, z3, z4]) rfl ?_
                rw [HZ.out]
                exact ⟨D, dc, rfl, ho5, hb5⟩
end Go.Proofs.Ytlfnpnkpjdmonaa
