import Derived.Test.YtlfnpnkpjdmonaaRestLaw
set_option linter.unusedVariables false
set_option linter.unusedSimpArgs false
namespace Go.Proofs.Ytlfnpnkpjdmonaa
open Go.RowKit

/-! ### the reference: the sum of pairs, a backup laid on, all of a chain -/
set_option maxRecDepth 100000 in
set_option maxHeartbeats 4000000 in
theorem l06Sum_any (A : Option Addr) (c : Nat) (l : List Pr) (w : World) (hx : Rd w w.heap.size A (flat encP l)) (hl : l.length ≤ 4096) (hs : ∀ p ∈ l, pairB p = true) :
    Calls Try.prog 243 #[.slice A l.length c] w fun e w' => e = .returned (.int .i64 (sumP l)) ∧ Below w.heap.size w w' := by
  have HX := Lib.hid hx
  have HS := Lib.hid hs
  have H0 : Hid ((w.alloc (.cells #[] 5)).ownsRow w.heap.size 5 1 (.slice (some ⟨w.heap.size, 0, none⟩) 0 0) 0 []) := own_empty_at (Nat.le_refl _) (heap_alloc_new _ _)
  have HB0 : Hid (Below w.heap.size w (w.alloc (.cells #[] 5))) := by show Below _ _ _; repeat (first | exact Below.refl _ _ | assumption | refine Below.drew ?_ | refine below_drewN ?_ _ | refine Below.setCell ?_ (by first | exact Nat.le_refl _ | exact Below.size (by assumption) | (simp; done) | (simp; omega) | omega) _ | refine Below.alloc ?_ (by first | exact Nat.le_refl _ | exact Below.size (by assumption) | (simp; done) | (simp; omega) | omega) _)
  clear hx hs
  go_enter Try.func243, Try.ntmps243
  go_wp2_with fail
  go_loopw [3, 4] (fun v i wr => ∃ k : Nat, k ≤ l.length ∧ i = .int .i64 k ∧ wr.ownsRow w.heap.size 5 1 v (sumB (l.take k)).length ((sumB (l.take k)).map bv) ∧ Below w.heap.size w wr) (fun _ i _ => l.length - (intOf i).toNat)
  case atStart => exact ⟨0, Nat.zero_le _, rfl, H0.out, HB0.out⟩
  case round =>
    obtain ⟨k, hk, rfl, ho, hb⟩ := hrel
    have HO := Lib.hid ho
    have HB := Lib.hid hb
    obtain ⟨A0, n0, rfl, _⟩ := own_form ho
    have hsl := sumB_len (l := l.take k) (fun q hq => HS.out q (List.mem_of_mem_take hq))
    rw [List.length_take] at hsl
    have HSL : Hid ((sumB (l.take k)).length ≤ 512000) := by show _ ≤ _; omega
    have hsw := hb.size
    clear ho hsl H0
    by_cases hlt : k < l.length
    · obtain ⟨ad, rfl, hla, hca, hcb⟩ := (HX.out.below hb).pr hlt
      have hpb := HS.out _ (List.getElem_mem hlt)
      have HE : Hid (sumB (l.take (k + 1)) = sumB (l.take k) ++ pairF l[k]) := by
        show _ = _
        unfold sumB
        rw [flatMap_take _ _ _ hlt]
      obtain ⟨p, hp⟩ : ∃ p, p = l[k] := ⟨_, rfl⟩
      rw [← hp] at hca hcb hpb HE
      have hps := hpb
      simp only [pairB, Bool.and_eq_true, decide_eq_true_eq] at hps
      have hk1 : p.1.size ≤ 4194304 := by omega
      have hk2 : p.2.size ≤ 4194304 := by omega
      have HPB := Lib.hid (pairF_len hpb)
      have hlw : ad.block < wr.heap.size := by omega
      have HW : Hid (∀ w' : World, Below w.heap.size wr w' → w'.cell? (ad.add (k * 2)) = some (.string p.1) ∧ w'.cell? ⟨(ad.add (k * 2)).block, (ad.add (k * 2)).off + 1, none⟩ = some (.string p.2)) := fun w' hb' => ⟨(hb'.cell (by rw [add_block]; exact hla)).trans hca, (hb'.cell (by show (ad.add (k * 2)).block < _; rw [add_block]; exact hla)).trans hcb⟩
      clear hp hpb hps hb
      go_wp2_with fail
      go_region_held3 (fun w' => w'.cell? (ad.add (k * 2)) = some (.string p.1) ∧ w'.cell? ⟨(ad.add (k * 2)).block, (ad.add (k * 2)).off + 1, none⟩ = some (.string p.2))
        ((refine HW.out _ ?_; first | exact hbP | exact hbF.mono hsw | (repeat (first | exact Below.refl _ _ | assumption | refine Below.drew ?_ | refine below_drewN ?_ _ | refine Below.setCell ?_ (by first | exact Nat.le_refl _ | exact Below.size (by assumption) | (simp; done) | (simp; omega) | omega) _ | refine Below.alloc ?_ (by first | exact Nat.le_refl _ | exact Below.size (by assumption) | (simp; done) | (simp; omega) | omega) _))))
        (first
          | (refine step_push_row elByte rfl _ _ rfl w.heap.size _ (sumB (l.take k)).length ((sumB (l.take k)).map bv) rfl (own_below HO.out hbF) _ A20 (pairF p).length c20 ((pairF p).map bv) rfl (Rd.own ho20) (by simp) (bv_one _) (by have := HSL.out; have := HPB.out; simp only [maxLen]; omega) (by have := HSL.out; have := HPB.out; omega) (by have := hbF.size; omega) (own_nilcap ho20) ?_; intro v21 w21 hp21; have hbP := hp21.below (own_below HO.out hbF) (hbF.mono hsw) (by have := hbF.size; omega))
          | (go_at_call 127; refine (l01F2 p.1 p.2 _ _ (by first | exact rd_alloc _ _ _ _ _ rfl rfl | exact rd_alloc _ _ _ _ _ (by simp) rfl) hk1 hk2).mono ?_; rintro e w20 ⟨v20, rfl, ho20, hb20⟩; obtain ⟨A20, c20, rfl, _⟩ := own_form ho20; have hbF : Below wr.heap.size wr w20 := Below.trans (show Below wr.heap.size wr _ by repeat (first | exact Below.refl _ _ | assumption | refine Below.drew ?_ | refine below_drewN ?_ _ | refine Below.setCell ?_ (by first | exact Nat.le_refl _ | exact Below.size (by assumption) | (simp; done) | (simp; omega) | omega) _ | refine Below.alloc ?_ (by first | exact Nat.le_refl _ | exact Below.size (by assumption) | (simp; done) | (simp; omega) | omega) _)) (hb20.mono (by simp)))
          | fail)
      have hop : w21.ownsRow w.heap.size 5 1 v21 (sumB (l.take (k + 1))).length ((sumB (l.take (k + 1))).map bv) := by
        rw [HE.out]
        exact pushed_own hp21 (by rw [List.length_append])
      have HOP := Lib.hid hop
      have HBP := Lib.hid (HB.out.trans hbP)
      clear hop hp21 hbP hbF ho20
      go_wp2_with fail
      go_roundw
      case rel => exact ⟨k + 1, hlt, by go_num, HOP.out, HBP.out⟩
      case measure => simp [intOf]; omega
    · have hkl : k = l.length := by omega
      subst hkl
      rw [List.take_length] at HO HSL ⊢
      have HC := Lib.hid (l01Check_any A0 n0 (sumB l) wr (Rd.own HO.out) (by have := HSL.out; omega))
      clear hb
      go_wp2_with fail
      refine HC.out.mono ?_
      rintro e w2 ⟨rfl, hb2⟩
      have HB2 := Lib.hid (below_after HB.out hb2)
      clear hb2
      go_wp2_with fail
      go_ret
      exact ⟨rfl, HB2.out⟩
def ReplS (q : List Pr × Int) (w : World) (e : Ending) (w' : World) : Prop := ∃ v, e = .returned (.tuple #[v, .int .i64 q.2]) ∧ (q.2 = 0 → ∃ g c, v = .slice (some ⟨g, 0, none⟩) q.1.length c ∧ q.1.length ≤ c ∧ Rd w' w'.heap.size (some ⟨g, 0, none⟩) (flat encP q.1)) ∧ Below w.heap.size w w'
theorem repl_bad {q : List Pr × Int} {w w' : World} {v : Value} {n : Int} {l : List Pr} (h : q = (l, n)) (hn : n ≠ 0) (hb : Below w.heap.size w w') : ReplS q w (.returned (.tuple #[v, .int .i64 n])) w' := by
  subst h
  exact ⟨v, rfl, fun e => absurd e hn, hb⟩
set_option maxRecDepth 100000 in
set_option maxHeartbeats 2000000 in
theorem l06Replay_any (g0 c0 : Nat) (l : List Pr) (last : ByteArray) (ch : Int) (m : Bk) (w : World) (hx : Rd w w.heap.size (some ⟨g0, 0, none⟩) (flat encP l)) (hc : l.length ≤ c0) (hy : Rd w w.heap.size m.D (flat encD m.ds)) (hl : Told l) (hm : BkR m) :
    Calls Try.prog 232 #[.slice (some ⟨g0, 0, none⟩) l.length c0, .string last, .int .i64 ch, m.v] w (ReplS (repR l last ch m) w) := by
  have HR0 : Hid (repR l last ch m = if m.f = last then if m.ch = ch then if (appR l m.ds).2 = 0 then if (sumP (appR l m.ds).1 : Int) = m.sm then appR l m.ds else (l, 8) else appR l m.ds else (l, 14) else (l, 13)) := rfl
  have HT := Lib.hid (appR_told hl hm.dk)
  have HL := Lib.hid hl
  have HM := Lib.hid hm
  obtain ⟨f, t, mc, D, ds, dc, sm⟩ := m
  simp only at HR0 HT hy
  obtain ⟨w1, hw1⟩ : ∃ W : World, W = w.alloc (.cells #[.string f, .string t, .int .i64 mc, .slice D ds.length dc, .int .i64 sm] 86) := ⟨_, rfl⟩
  have hb1 : Below w.heap.size w w1 := by rw [hw1]; exact (Below.refl _ _).alloc (Nat.le_refl _) _
  have hbx : w1.heap[w.heap.size]? = some (.cells #[.string f, .string t, .int .i64 mc, .slice D ds.length dc, .int .i64 sm] 86 (0, 0)) := by rw [hw1]; exact heap_alloc_new _ _
  have hs1 : w.heap.size < w1.heap.size := by rw [hw1]; simp
  obtain ⟨k0, k1, k2, k3, k4⟩ := bk_cells hbx
  rw [hw1] at k0 k1 k2 k3 k4
  have HX := Lib.hid (hx.next hb1)
  have HY := Lib.hid (hy.next hb1)
  have HB1 := Lib.hid hb1
  have HBX := Lib.hid hbx
  have HW1 := Lib.hid hw1
  clear hx hy hb1 hbx hw1 hl hm
  by_cases h1 : ¬ f = last
  · obtain ⟨q1, q2⟩ := neL h1
    have HN : Hid (repR l last ch ⟨f, t, mc, D, ds, dc, sm⟩ = (l, 13)) := HR0.out.trans (if_neg h1)
    go_enter Try.func232, Try.ntmps232
    go_wp2_with fail
    rw [← HW1.out]
    go_ret2
    exact repl_bad HN.out (by decide) HB1.out
  obtain rfl : f = last := Classical.not_not.1 h1
  clear h1
  have hq1 : (f.toList != f.toList) = false := by simp
  by_cases h2 : ¬ mc = ch
  · have q2 : (mc != ch) = true := by simpa using h2
    have HN : Hid (repR l f ch ⟨f, t, mc, D, ds, dc, sm⟩ = (l, 14)) := HR0.out.trans ((if_pos rfl).trans (if_neg h2))
    go_enter Try.func232, Try.ntmps232
    go_wp2_with fail
    rw [← HW1.out]
    go_ret2
    exact repl_bad HN.out (by decide) HB1.out
  obtain rfl : mc = ch := Classical.not_not.1 h2
  clear h2
  have hq2 : (mc != mc) = false := by simp
  have HR1 : Hid (repR l f mc ⟨f, t, mc, D, ds, dc, sm⟩ = if (appR l ds).2 = 0 then if (sumP (appR l ds).1 : Int) = sm then appR l ds else (l, 8) else appR l ds) := HR0.out.trans ((if_pos rfl).trans (if_pos rfl))
  have hC : Calls Try.prog 258 #[.slice (some ⟨g0, 0, none⟩) l.length c0, .slice D ds.length dc] w1 (ReplS (appR l ds) w1) := l05Apply_any g0 c0 0 dc l D ds w1 HX.out hc HY.out HL.out.len HM.out.dl HM.out.dk
  have HC := Lib.hid hC
  clear hC
  generalize appR l ds = q at HC HR1 HT
  obtain ⟨o, er⟩ := q
  go_enter Try.func232, Try.ntmps232
  go_wp2_with fail
  rw [← HW1.out]
  refine HC.out.mono ?_
  rintro e w2 ⟨v, rfl, hv, hb2⟩
  have HV := Lib.hid hv
  have HB2 := Lib.hid (below_after HB1.out hb2)
  have HBX2 := Lib.hid ((hb2.block _ hs1).trans HBX.out)
  have hs2 := hb2.size
  clear hv hb2 HC k0 k1 k2 k3 k4
  by_cases her : er = 0
  · subst her
    obtain ⟨g, c, rfl, hcc, ho⟩ := HV.out rfl
    obtain ⟨k0, k1, k2, k3, k4⟩ := bk_cells HBX2.out
    have HO := Lib.hid ho
    have hol : o.length ≤ 60 := HT.out.len
    clear ho
    go_wp2_with fail
    go_region_held3 (fun w' => w'.cell? ⟨w.heap.size, 4, none⟩ = some (.int .i64 sm))
      (first | assumption | exact (hb3.cell (p := ⟨w.heap.size, 4, none⟩) (show w.heap.size < w2.heap.size by omega)).trans k4)
      (first | (go_at_call 243; refine (l06Sum_any (some ⟨g, 0, none⟩) c o _ (by exact HO.out) (by omega) HT.out.fine).mono ?_; rintro e w3 ⟨rfl, hb3⟩) | fail)
    have hb3' : Below w2.heap.size w2 w3 := Below.trans (below_drewN (Below.refl _ _) 1) hb3
    have HB3 := Lib.hid (below_after HB2.out hb3')
    have HO3 := Lib.hid (HO.out.next hb3')
    clear hb3 hb3'
    by_cases hsm : ¬ (sumP o : Int) = sm
    · have q3 : ((sumP o : Int) != sm) = true := by simpa using hsm
      have HN : Hid (repR l f mc ⟨f, t, mc, D, ds, dc, sm⟩ = (l, 8)) := by show repR _ _ _ _ = _; have h := HR1.out; simpa [hsm] using h
      go_wp2_with fail
      go_ret2
      exact repl_bad HN.out (by decide) HB3.out
    · obtain rfl : (sumP o : Int) = sm := Classical.not_not.1 hsm
      clear hsm
      have q3 : ((sumP o : Int) != (sumP o : Int)) = false := by simp
      have HN : Hid (repR l f mc ⟨f, t, mc, D, ds, dc, sumP o⟩ = (o, 0)) := by show repR _ _ _ _ = _; have h := HR1.out; simpa using h
      go_wp2_with fail
      go_ret2
      rw [HN.out]
      exact ⟨_, rfl, fun _ => ⟨g, c, rfl, hcc, HO3.out⟩, HB3.out⟩
  · have hne : (er != 0) = true := by simpa using her
    have HN : Hid (repR l f mc ⟨f, t, mc, D, ds, dc, sm⟩ = (o, er)) := HR1.out.trans (if_neg her)
    go_wp2_with fail
    go_ret2
    exact repl_bad HN.out her HB2.out
end Go.Proofs.Ytlfnpnkpjdmonaa
namespace Go.Proofs.Ytlfnpnkpjdmonaa
open Go.RowKit

/-! ### the reference: all of a chain -/
theorem slink_any (m : Bk) (w : World) (hd : Rd w w.heap.size m.D (flat encD m.ds)) (hr : BkR m) : Calls Try.prog 212 #[m.v] w fun e w' => e = .returned (.int .i64 m.link) ∧ Below w.heap.size w w' := by
  have h := l06Link_any m.f m.t m.ch.toNat m.D m.ds m.dc m.sm.toNat w hd hr.bkok
  rw [Int.toNat_of_nonneg hr.c0, Int.toNat_of_nonneg hr.s0] at h
  exact h
theorem okB_any (m : Bk) (w : World) (hd : Rd w w.heap.size m.D (flat encD m.ds)) (hr : BkR m) (ho : m.ok = true) : Calls Try.prog 147 #[m.v] w fun e w' => e = .returned (.bool true) ∧ Below w.heap.size w w' := by
  obtain ⟨h1, h2, h3, h4, h5⟩ := hr.sz hd
  have h := specBackupOK_any m.f m.t m.ch m.D m.ds m.dc m.sm w hd (by omega) h2 h3 h5
  rw [show bkB m.f m.t m.ch m.ds m.sm = true from ho] at h
  exact h
set_option maxRecDepth 100000 in
set_option maxHeartbeats 4000000 in
theorem specReplayAll_any (A : Option Addr) (c : Nat) (ms : List Bk) (w : World) (hx : BRd w w.heap.size A ms) (hr : ∀ m ∈ ms, BkR m) (hk : ∀ m ∈ ms, m.ok = true) (hl : ms.length ≤ 20) :
    Calls Try.prog 179 #[.slice A ms.length c] w (MadeT (repA [] ⟨#[]⟩ 0 ms).1 (repA [] ⟨#[]⟩ 0 ms).2 w) := by
  have HX := Lib.hid hx
  have HR := Lib.hid hr
  have HK := Lib.hid hk
  clear hx hr hk
  go_enter Try.func179, Try.ntmps179
  go_wp2_with fail
  go_loopw [4] (fun i wr => ∃ k : Nat, k ≤ ms.length ∧ i = .int .i64 k ∧ Below w.heap.size w wr) (fun i _ => ms.length - (intOf i).toNat)
  case atStart => exact ⟨0, Nat.zero_le _, rfl, Below.refl _ _⟩
  case round =>
    obtain ⟨k, hk, rfl, hb⟩ := hrel
    have HB := Lib.hid hb
    by_cases hlt : k < ms.length
    · obtain ⟨ad, rfl, hbl, c0, c1, c2, c3, c4⟩ := (HX.out.1.below hb).bk hlt
      have HC := Lib.hid (okB_any ms[k] wr ((HX.out.2 _ (List.getElem_mem hlt)).next hb) (HR.out _ (List.getElem_mem hlt)) (HK.out _ (List.getElem_mem hlt)))
      generalize ms[k] = m at c0 c1 c2 c3 c4 HC
      clear hb
      go_wp2_with fail
      refine HC.out.mono ?_
      rintro e w2 ⟨rfl, hb2⟩
      have HB2 := Lib.hid (below_after HB.out hb2)
      clear hb2
      go_wp2_with fail
      go_roundw
      case rel => exact ⟨k + 1, hlt, by go_num, HB2.out⟩
      case measure => simp [intOf]; omega
    · have H0 : Hid (Below w.heap.size w (wr.alloc (.cells #[] 82))) := by show Below _ _ _; exact below_after hb ((Below.refl _ _).alloc (Nat.le_refl _) _)
      have HD0 : Hid (Rd (wr.alloc (.cells #[] 82)) (wr.alloc (.cells #[] 82)).heap.size (some ⟨wr.heap.size, 0, none⟩) (flat encP [])) := fun h => absurd rfl h
      clear hb
      go_wp2_with fail
      go_loopw [5, 6, 7, 8] (fun v ls ch i w5 => ∃ (j g c' : Nat) (l : List Pr) (last : ByteArray) (chn : Int), j ≤ ms.length ∧ i = .int .i64 j ∧ v = .slice (some ⟨g, 0, none⟩) l.length c' ∧ ls = .string last ∧ ch = .int .i64 chn ∧ l.length ≤ c' ∧ Told l ∧ repA [] ⟨#[]⟩ 0 ms = repA l last chn (ms.drop j) ∧ Rd w5 w5.heap.size (some ⟨g, 0, none⟩) (flat encP l) ∧ Below w.heap.size w w5) (fun _ _ _ i _ => ms.length - (intOf i).toNat)
      case atStart => exact ⟨0, wr.heap.size, 0, [], ⟨#[]⟩, 0, Nat.zero_le _, rfl, rfl, rfl, rfl, Nat.zero_le _, ⟨by simp, trivial, by simp⟩, rfl, HD0.out, H0.out⟩
      case round =>
        obtain ⟨j, g, c', l, last, chn, hj, rfl, rfl, rfl, rfl, hcc, htl, hre, hrd, hb⟩ := hrel
        have HT := Lib.hid htl
        have HE := Lib.hid hre
        have HO := Lib.hid hrd
        have HB5 := Lib.hid hb
        have hl60 := htl.len
        clear htl hre hrd HD0 H0
        by_cases hlt2 : j < ms.length
        · obtain ⟨ad, rfl, hbl, c0, c1, c2, c3, c4⟩ := (HX.out.1.below hb).bk hlt2
          have hmem := List.getElem_mem hlt2
          have hdr := List.drop_eq_getElem_cons hlt2
          have hrm := HR.out _ hmem
          have HDM := Lib.hid ((HX.out.2 _ hmem).next hb)
          have HC := Lib.hid (l06Replay_any g c' l last chn ms[j] wr HO.out hcc HDM.out HT.out hrm)
          have HTN := Lib.hid (repR_told (last := last) (chain := chn) HT.out hrm)
          have HE2 : Hid (repA [] ⟨#[]⟩ 0 ms = if (repR l last chn ms[j]).2 = 0 then repA (repR l last chn ms[j]).1 ms[j].t ms[j].link (ms.drop (j + 1)) else ([], (repR l last chn ms[j]).2)) := by show repA _ _ _ _ = _; rw [HE.out, hdr, repA]
          have HLK := Lib.hid (fun (W : World) (h : Below wr.heap.size wr W) => slink_any ms[j] W (HDM.out.next h) hrm)
          obtain ⟨m, hm⟩ : ∃ m, m = ms[j] := ⟨_, rfl⟩
          rw [← hm] at c0 c1 c2 c3 c4 HC HE2 HLK HTN
          have HMM := Lib.hid hm
          generalize repR l last chn m = q at HC HTN HE2
          obtain ⟨o, er⟩ := q
          clear hm hdr hrm hmem HDM hb
          go_wp2_with fail
          refine HC.out.mono ?_
          rintro e w6 ⟨v6, rfl, hv6, hb6⟩
          have HV := Lib.hid hv6
          have HB6 := Lib.hid (below_after HB5.out hb6)
          have HLK6 := Lib.hid (HLK.out w6 hb6)
          clear hv6 HC c0 c1 c2 c3 c4 HLK
          by_cases her : er = 0
          · subst her
            obtain ⟨g6, c6, rfl, hc6, ho6⟩ := HV.out rfl
            obtain ⟨ad', had, hbl', c0, c1, c2, c3, c4⟩ := (HX.out.1.below HB6.out).bk hlt2
            cases had
            rw [← HMM.out] at c0 c1 c2 c3 c4
            have HO6 := Lib.hid ho6
            clear ho6 hb6
            go_wp2_with fail
            refine HLK6.out.mono ?_
            rintro e w7 ⟨rfl, hb7⟩
            have HB7 := Lib.hid (below_after HB6.out hb7)
            have HO7 := Lib.hid (HO6.out.next hb7)
            clear hb7
            have HE3 : Hid (repA [] ⟨#[]⟩ 0 ms = repA o m.t m.link (ms.drop (j + 1))) := by show repA _ _ _ _ = _; have h := HE2.out; simpa using h
            go_wp2_with fail
            go_roundw
            case rel => exact ⟨j + 1, g6, c6, o, m.t, m.link, hlt2, by go_num, rfl, rfl, rfl, hc6, HTN.out, HE3.out, HO7.out, HB7.out⟩
            case measure => simp [intOf]; omega
          · have hne : (er != 0) = true := by simpa using her
            have HN : Hid (repA [] ⟨#[]⟩ 0 ms = ([], er)) := HE2.out.trans (if_neg her)
            have HBN : Hid (Below w.heap.size w (w6.alloc (.cells #[] 82))) := by show Below _ _ _; exact HB6.out.alloc HB6.out.size _
            have HON : Hid ((w6.alloc (.cells #[] 82)).ownsRow w.heap.size 82 2 (.slice (some ⟨w6.heap.size, 0, none⟩) 0 0) 0 []) := own_empty_at HB6.out.size (heap_alloc_new _ _)
            go_wp2_with fail
            go_ret2
            rw [HN.out]
            exact ⟨_, rfl, HON.out, HBN.out⟩
        · have hjj : j = ms.length := by omega
          have HRES : Hid (repA [] ⟨#[]⟩ 0 ms = (l, 0)) := by show repA _ _ _ _ = _; rw [HE.out, hjj, List.drop_length]; rfl
          have HBN : Hid (Below w.heap.size w (wr.alloc (.cells #[] 82))) := by show Below _ _ _; exact HB5.out.alloc HB5.out.size _
          have HON : Hid ((wr.alloc (.cells #[] 82)).ownsRow w.heap.size 82 2 (.slice (some ⟨wr.heap.size, 0, none⟩) 0 0) 0 []) := own_empty_at HB5.out.size (heap_alloc_new _ _)
          have HRD : Hid (Rd (wr.alloc (.cells #[] 82)) (wr.alloc (.cells #[] 82)).heap.size (some ⟨g, 0, none⟩) (flat encP l)) := HO.out.next ((Below.refl _ _).alloc (Nat.le_refl _) _)
          have hfl := flat_length encP_len l
          clear hb
          go_wp2_with (at_builtin; refine push_row elPair rfl _ _ rfl w.heap.size _ 0 [] rfl HON.out _ (some ⟨g, 0, none⟩) l.length c' (flat encP l) rfl HRD.out hfl (pr_one _) (by simp only [maxLen]; omega) (by omega) HBN.out.size (fun h => by cases h) ?_)
          intro v2 w2 hp
          have hbA := hp.below HON.out HBN.out HBN.out.size
          have HP := Lib.hid hp.1
          have HBA := Lib.hid hbA
          clear hp hbA
          go_wp2_with fail
          go_ret2
          rw [HRES.out]
          exact ⟨v2, rfl, own_to HP.out (by first | rfl | (show _ = l.length; omega)) (by simp), HBA.out⟩
end Go.Proofs.Ytlfnpnkpjdmonaa
namespace Go.Proofs.Ytlfnpnkpjdmonaa
open Go.RowKit

/-! ### restoring an archive: the reference -/
theorem readsA_ok : ∀ (xs : List ByteArray) (acc : List Bq), (∀ q ∈ acc, q.ok = true) → ∀ q ∈ (readsA acc xs).1, q.ok = true
  | [], acc, h => h
  | x :: xs, acc, h => by
    rw [readsA]
    split
    · intro q hq; simp at hq
    · split
      · rename_i h0
        refine readsA_ok xs _ fun q hq => ?_
        rcases List.mem_append.1 hq with hq | hq
        · exact h q hq
        · rw [List.mem_singleton.1 hq]; exact readM_ok h0
      · intro q hq; simp at hq
theorem repA_told : ∀ (ms : List Bk) (l : List Pr) (last : ByteArray) (ch : Int), Told l → (∀ m ∈ ms, BkR m) → Told (repA l last ch ms).1
  | [], l, _, _, h, _ => h
  | m :: ms, l, last, ch, h, hr => by
    rw [repA]
    split
    · exact repA_told ms _ _ _ (repR_told h (hr m (List.mem_cons_self ..))) fun x hx => hr x (List.mem_cons_of_mem _ hx)
    · exact ⟨by simp, trivial, by simp⟩
theorem restM_len (xs : List ByteArray) : (restM xs).1.length ≤ 60 := by
  unfold restM
  split
  · simp
  · split
    · simp
    · split
      · refine (repA_told _ [] _ _ ⟨by simp, trivial, by simp⟩ fun m hm => ?_).len
        obtain ⟨q, hq, rfl⟩ := List.mem_map.1 hm
        exact bkR_read rfl (readsA_ok xs [] (by simp) q hq)
      · simp
theorem BsIn.oks {w wr : World} {v : Value} {ys : List Bk} {qs : List Bq} (h : BsIn w wr v ys qs) : ∀ y ∈ ys, y.ok = true := by
  intro y hy
  have h1 : y.data ∈ ys.map Bk.data := List.mem_map_of_mem hy
  rw [h.same] at h1
  obtain ⟨q, hq, e⟩ := List.mem_map.1 h1
  obtain ⟨h1, h2, h3, h4, h5⟩ := bk_same e
  unfold Bk.ok
  rw [← h1, ← h2, ← h3, ← h4, ← h5]
  exact h.ok q hq
set_option maxRecDepth 100000 in
set_option maxHeartbeats 4000000 in
theorem specRest_any (A : Option Addr) (c : Nat) (xs : List ByteArray) (w : World) (hx : Rd w w.heap.size A (xs.map Value.string)) (hl : xs.length ≤ 17592186044416) (hs : ∀ s ∈ xs, s.size ≤ 1048576) :
    Calls Try.prog 96 #[.slice A xs.length c] w (RestPost (restM xs) w) := by
  have HON : Hid (∀ (W : World) (_ : Below w.heap.size w W), (W.alloc (.cells #[] 82)).ownsRow w.heap.size 82 2 (.slice (some ⟨W.heap.size, 0, none⟩) 0 0) 0 []) := fun W h => own_empty_at h.size (heap_alloc_new _ _)
  have HBN : Hid (∀ (W : World) (_ : Below w.heap.size w W), Below w.heap.size w (W.alloc (.cells #[] 82))) := fun W h => h.alloc h.size _
  have HBB : Hid (Below w.heap.size w w) := Below.refl _ _
  by_cases h1 : 4096 < xs.length
  · have HN : Hid (restM xs = ([], 2)) := if_pos h1
    go_enter Try.func96, Try.ntmps96
    go_wp2_with fail
    go_ret2
    exact rest_bad HN.out (HON.out _ HBB.out) (HBN.out _ HBB.out)
  by_cases h2 : 20 < xs.length
  · have HN : Hid (restM xs = ([], 6)) := (if_neg h1).trans (if_pos h2)
    go_enter Try.func96, Try.ntmps96
    go_wp2_with fail
    go_ret2
    exact rest_bad HN.out (HON.out _ HBB.out) (HBN.out _ HBB.out)
  have HQ : Hid (restM xs = if (readsA [] xs).2 = 0 then repA [] ⟨#[]⟩ 0 ((readsA [] xs).1.map Bq.bk) else ([], (readsA [] xs).2)) := (if_neg h1).trans (if_neg h2)
  have HX := Lib.hid hx
  have HS := Lib.hid hs
  have H0 := Lib.hid (BsIn.nil w)
  clear hx hs
  go_enter Try.func96, Try.ntmps96
  go_wp2_with fail
  go_loopw [4, 5] (fun v i wr => ∃ (k : Nat) (ys : List Bk) (qs : List Bq), k ≤ xs.length ∧ i = .int .i64 k ∧ ys.length = k ∧ readsA [] xs = readsA qs (xs.drop k) ∧ BsIn w wr v ys qs) (fun _ i _ => xs.length - (intOf i).toNat)
  case atStart => exact ⟨0, [], [], Nat.zero_le _, rfl, rfl, rfl, H0.out⟩
  case round =>
    obtain ⟨k, ys, qs, hk, rfl, hyl, hrd, hin⟩ := hrel
    have HRD := Lib.hid hrd
    have HIN := Lib.hid hin
    have HYL := Lib.hid hyl
    obtain ⟨A0, n0, rfl, _⟩ := own_form hin.own
    clear hrd hyl H0
    by_cases hlt : k < xs.length
    · obtain ⟨ad, rfl, hbl, h0⟩ := (HX.out.below hin.below).at_ (map_at (f := Value.string) hlt)
      have HST := Lib.hid (reads_step (acc := qs) hlt)
      have hsz := HS.out _ (List.getElem_mem hlt)
      obtain ⟨x, hx⟩ : ∃ x, x = xs[k] := ⟨_, rfl⟩
      rw [← hx] at h0 HST hsz
      clear hx hin
      by_cases hbig : 65536 < x.size
      · have HN : Hid (restM xs = ([], 2)) := by show restM xs = _; rw [HQ.out, HRD.out, HST.out, if_pos hbig]; rfl
        have HB := Lib.hid HIN.out.below
        go_wp2_with fail
        go_ret2
        exact rest_bad HN.out (HON.out _ HB.out) (HBN.out _ HB.out)
      · have HST2 : Hid (readsA qs (xs.drop k) = if (readM x.data.toList).2 = 0 then readsA (qs ++ [(readM x.data.toList).1]) (xs.drop (k + 1)) else ([], (readM x.data.toList).2)) := HST.out.trans (if_neg hbig)
        obtain ⟨l, hlx⟩ : ∃ l, x = bs l := ⟨x.data.toList, by cases x; rfl⟩
        subst hlx
        have hll : l.length ≤ 65536 := by simp [ByteArray.size] at hbig; omega
        have HRB := Lib.hid (fun W => l06Read_any l W hll)
        have HDS := Lib.hid (rdAll_ds l)
        have HOKQ := Lib.hid (readM_ok (l := l))
        rw [show (bs l).data.toList = l from rfl] at HST2
        have hra : rdAll l = readM l := if_neg (by omega)
        rw [hra] at HDS
        clear hra HST
        generalize readM l = q at HST2 HRB HDS HOKQ
        obtain ⟨q, er⟩ := q
        go_wp2_with fail
        refine (HRB.out wr).mono ?_
        rintro e w2 ⟨D, dc, rfl, ho2, hb2⟩
        have HR2 := Lib.hid ho2
        have HB2 := Lib.hid hb2
        have HIN2 := Lib.hid (HIN.out.old hb2)
        have hz2 := hb2.size
        clear ho2 hb2
        obtain ⟨w3, hw3⟩ : ∃ W : World, W = w2.alloc (.cells #[.string q.f, .string q.t, .int .i64 q.ch, .slice D q.ds.length dc, .int .i64 q.sm] 86) := ⟨_, rfl⟩
        have hb3 : Below w2.heap.size w2 w3 := by rw [hw3]; exact (Below.refl _ _).alloc (Nat.le_refl _) _
        have hbx : w3.heap[w2.heap.size]? = some (.cells #[.string q.f, .string q.t, .int .i64 q.ch, .slice D q.ds.length dc, .int .i64 q.sm] 86 (0, 0)) := by rw [hw3]; exact heap_alloc_new _ _
        have HR3 := Lib.hid (own_below HR2.out hb3)
        have HIN3 := Lib.hid (HIN2.out.old hb3)
        have hz3 : w2.heap.size < w3.heap.size := by rw [hw3]; simp
        by_cases her : er = 0
        · subst her
          have HOK := Lib.hid (HOKQ.out rfl)
          have HST3 : Hid (readsA [] xs = readsA (qs ++ [q]) (xs.drop (k + 1))) := HRD.out.trans (HST2.out.trans (if_pos rfl))
          obtain ⟨k0, k1, k2, k3, k4⟩ := bk_cells hbx
          rw [hw3] at k0 k1 k2 k3 k4
          have HW3 := Lib.hid hw3
          have HOW : Hid ((w2.alloc (.cells #[.string q.f, .string q.t, .int .i64 q.ch, .slice D q.ds.length dc, .int .i64 q.sm] 86)).ownsRow w.heap.size 86 5 (.slice A0 ys.length n0) ys.length (flat encBk ys)) := by rw [← hw3]; exact HIN3.out.own
          have hzz : w.heap.size ≤ (w2.alloc (.cells #[.string q.f, .string q.t, .int .i64 q.ch, .slice D q.ds.length dc, .int .i64 q.sm] 86)).heap.size := by rw [← hw3]; have := HIN3.out.below.size; omega
          clear hw3 hb3 hbx HRB HOKQ HST2
          go_wp2_with (at_builtin; refine push_one elBackup rfl _ _ rfl w.heap.size (.slice A0 ys.length n0) ys.length (flat encBk ys) rfl HOW.out [.string q.f, .string q.t, .int .i64 q.ch, .slice D q.ds.length dc, .int .i64 q.sm] _ rfl (by rw [World.size_alloc]; rfl) rfl (by simp [Value.oneCell']) (by have := HYL.out; simp only [maxLen]; omega) (by have := HYL.out; omega) hzz ?_)
          intro v4 w4 hp
          rw [← HW3.out] at hp
          have HIN4 := Lib.hid (HIN3.out.push (y := ⟨q.f, q.t, q.ch, D, q.ds, dc, q.sm⟩) (q := q) (own_mono HR3.out (by have := HIN.out.below.size; omega)) rfl HOK.out hp)
          clear hp
          go_wp2_with fail
          go_roundw
          case rel => exact ⟨k + 1, ys ++ [⟨q.f, q.t, q.ch, D, q.ds, dc, q.sm⟩], qs ++ [q], hlt, by go_num, by have := HYL.out; simp [this], HST3.out, HIN4.out⟩
          case measure => simp [intOf]; omega
        · have hne : (er != 0) = true := by simpa using her
          have HN : Hid (restM xs = ([], er)) := by show restM xs = _; rw [HQ.out, HRD.out, HST2.out, if_neg her]; exact if_neg her
          have HB := Lib.hid HIN3.out.below
          have HZ : Hid (w3.heap.size = w2.heap.size + 1) := by show _ = _; rw [hw3]; simp
          have HW3 := Lib.hid hw3
          clear hw3 hb3 hbx HRB HOKQ HST2
          go_wp2_with fail
          rw [← HW3.out]
          have ho := HON.out _ HB.out
          rw [HZ.out] at ho
          go_ret2
          exact rest_bad HN.out ho (HBN.out _ HB.out)
    · have hkk : k = xs.length := by omega
      have HE : Hid (readsA [] xs = (qs, 0)) := by show readsA [] xs = _; rw [HRD.out, hkk, List.drop_length]; rfl
      have HRES : Hid (restM xs = repA [] ⟨#[]⟩ 0 ys) := by
        show restM xs = _
        rw [HQ.out, HE.out, if_pos rfl]
        exact repA_data _ _ _ (by rw [HIN.out.same, List.map_map]; rfl)
      have HC := Lib.hid (specReplayAll_any A0 n0 ys wr ⟨Rd.own HIN.out.own, fun m hm => Rd.own (HIN.out.rows m hm)⟩ HIN.out.good HIN.out.oks (by have := HYL.out; omega))
      have HB := Lib.hid HIN.out.below
      clear hin
      go_wp2_with fail
      refine HC.out.mono ?_
      rintro e w2 ⟨v, rfl, ho, hb2⟩
      have HO := Lib.hid ho
      have HB2 := Lib.hid hb2
      clear ho hb2 HC
      go_wp2_with fail
      go_ret2
      show MadeT _ _ _ _ _
      rw [HRES.out]
      exact ⟨v, rfl, own_mono HO.out HB.out.size, below_after HB.out HB2.out⟩
end Go.Proofs.Ytlfnpnkpjdmonaa
namespace Go.Proofs.Ytlfnpnkpjdmonaa
open Go.RowKit

/-! ### the law's own helpers at pairs -/
def Marked2 (k : Int) (j : Nat) (cs : List Value) : Prop := ∀ i, i < j → cs[i * 2]? = some (.string (mkT (k + 2 * i))) ∧ cs[i * 2 + 1]? = some (.string (mkT (k + 2 * i + 1)))
theorem Marked2.step {k : Int} {j : Nat} {cs : List Value} (h : Marked2 k j cs) (hl : j * 2 + 2 ≤ cs.length) : Marked2 k (j + 1) ((cs.set (j * 2) (.string (mkT (k + 2 * j)))).set (j * 2 + 1) (.string (mkT (k + 2 * j + 1)))) := by
  intro i hi
  by_cases e : i = j
  · subst e
    refine ⟨?_, ?_⟩
    · rw [List.getElem?_set_ne (by omega), List.getElem?_set_self (by omega)]
    · rw [List.getElem?_set_self (by rw [List.length_set]; omega)]
  · rw [List.getElem?_set_ne (by omega), List.getElem?_set_ne (by omega), List.getElem?_set_ne (by omega), List.getElem?_set_ne (by omega)]
    exact h i (by omega)
theorem grown_drop {w w1 w2 : World} {row : Option Nat} (h : w.grownBy w1 row) (hb : Below w1.heap.size w1 w2) : w.grownBy w2 row := grown_after h (grown_below hb _)
set_option maxRecDepth 100000 in
set_option maxHeartbeats 4000000 in
theorem markPairS_any (base : Nat) (v : Value) (n : Nat) (xs : List Value) (k : Int) (w : World) (hv : w.ownsRow base 82 2 v n xs) (hl : n ≤ 1048576) (h0 : 0 ≤ k) (h1 : k ≤ 1048576) :
    Calls Try.prog 100 #[v, .int .i64 k] w fun e w' => e = .returned (.int .i64 (k + 2 * n)) ∧ (∃ cs, w'.ownsRow base 82 2 v n cs ∧ Marked2 k n cs) ∧ w.grownBy w' v.ownBlock := by
  rcases hv.2 with ⟨rfl, rfl⟩ | ⟨g, cap, cur, rfl, hbase, hg, hc⟩
  · go_enter Try.func100, Try.ntmps100
    go_wp2
    go_loopw [1, 5] (fun l i wr => i = .int .i64 0 ∧ l = .int .i64 k ∧ wr = w) (fun _ i _ => 0)
    case atStart => exact ⟨rfl, rfl, rfl⟩
    case round =>
      obtain ⟨rfl, rfl, rfl⟩ := hrel
      go_wp2
      go_ret
      exact ⟨ret_i (by omega), ⟨xs, hv, fun i hi => by omega⟩, World.grownBy.refl _ _⟩
  · have HV := Lib.hid hv
    clear hv hc hg
    go_enter Try.func100, Try.ntmps100
    go_wp2
    go_loopw [1, 5] (fun l i wr => ∃ (j : Nat) (cs : List Value), j ≤ n ∧ i = .int .i64 j ∧ l = .int .i64 (k + 2 * j) ∧ wr.ownsRow base 82 2 (.slice (some ⟨g, 0, none⟩) n cap) n cs ∧ Marked2 k j cs ∧ w.grownBy wr (some g)) (fun _ i _ => n - (intOf i).toNat)
    case atStart => exact ⟨0, xs, Nat.zero_le _, rfl, by simp, HV.out, fun i hi => by omega, World.grownBy.refl _ _⟩
    case round =>
      obtain ⟨j, cs, hj, rfl, rfl, ho, hmk, hgr⟩ := hrel
      by_cases hlt : j < n
      · have HO := Lib.hid ho
        have HGR := Lib.hid hgr
        clear ho hgr
        have HLN : Hid (cs.length = n * 2) := HO.out.1
        have HMK := Lib.hid hmk
        clear hmk
        have HG0 : Hid (w.grownBy wr (some g)) := HGR.out
        have HO0 := HO
        go_wp2_with fail
        refine (markText_any _ _ (by omega)).mono ?_
        rintro e w1 ⟨rfl, hb1⟩
        have ho1 := own_below HO0.out hb1
        have hln : j * 2 + 2 ≤ n * 2 := by omega
        have hle : _ = n * 2 := ho1.1
        have HG1 : Hid (w.grownBy (w1.setCell ⟨g, j * 2, none⟩ (.string (mkT (k + 2 * j)))) (some g)) := grown_after (grown_after HG0.out (grown_below hb1 _)) (grown_set _ _ _ _)
        have HO1 := Lib.hid (ho1.stored (j * 2) (.string (mkT (k + 2 * j)))).1
        have f0 : w1.frozen? ⟨g, j * 2, none⟩ = false := ho1.frozenAt (j * 2)
        have hcu : ∃ u, w1.cell? ⟨g, j * 2, none⟩ = some u := by
          rw [ho1.cellAt (j * 2) (by omega)]
          exact ⟨_, List.getElem?_eq_getElem (by omega)⟩
        obtain ⟨u0, c0⟩ := hcu
        clear ho1 hb1 hln hle HO0 HG0
        go_wp2_with fail
        refine (markText_any _ _ (by omega)).mono ?_
        rintro e w2 ⟨rfl, hb2⟩
        have ho2 := own_below HO1.out hb2
        have hln : j * 2 + 2 ≤ n * 2 := by omega
        have hle : _ = n * 2 := ho2.1
        have HG2 : Hid (w.grownBy (w2.setCell ⟨g, j * 2 + 1, none⟩ (.string (mkT (k + 2 * j + 1)))) (some g)) := grown_after (grown_after HG1.out (grown_below hb2 _)) (grown_set _ _ _ _)
        have HO2 := Lib.hid (ho2.stored (j * 2 + 1) (.string (mkT (k + 2 * j + 1)))).1
        have f1 : w2.frozen? ⟨g, j * 2 + 1, none⟩ = false := ho2.frozenAt (j * 2 + 1)
        have hcu : ∃ u, w2.cell? ⟨g, j * 2 + 1, none⟩ = some u := by
          rw [ho2.cellAt (j * 2 + 1) (by omega)]
          exact ⟨_, List.getElem?_eq_getElem (by omega)⟩
        obtain ⟨u1, c1⟩ := hcu
        clear ho2 hb2 hln hle HO1 HG1
        go_wp2_with fail
        go_roundw
        case rel => exact ⟨j + 1, _, by omega, by go_num, by go_num, HO2.out, HMK.out.step (by have := HLN.out; omega), HG2.out⟩
        case measure => simp [intOf]; omega
      · have HO := Lib.hid ho
        clear ho
        have hjn : j = n := by omega
        subst hjn
        go_wp2
        go_ret
        exact ⟨ret_i (by omega), ⟨cs, HO.out, hmk⟩, hgr⟩
set_option maxRecDepth 100000 in
set_option maxHeartbeats 4000000 in
theorem heldPairS_any (base : Nat) (v : Value) (n : Nat) (xs : List Value) (k : Int) (w : World) (hv : w.ownsRow base 82 2 v n xs) (hm : Marked2 k n xs) (hl : n ≤ 1048576) (h0 : 0 ≤ k) (h1 : k ≤ 1048576) :
    Calls Try.prog 101 #[v, .int .i64 k] w fun e w' => e = .returned (.int .i64 (k + 2 * n)) ∧ Below w.heap.size w w' := by
  rcases hv.2 with ⟨rfl, rfl⟩ | ⟨g, cap, cur, rfl, hbase, hg, hc⟩
  · go_enter Try.func101, Try.ntmps101
    go_wp2
    go_loopw [1, 5] (fun l i wr => i = .int .i64 0 ∧ l = .int .i64 k ∧ wr = w) (fun _ i _ => 0)
    case atStart => exact ⟨rfl, rfl, rfl⟩
    case round =>
      obtain ⟨rfl, rfl, rfl⟩ := hrel
      go_wp2
      go_ret
      exact ⟨ret_i (by omega), Below.refl _ _⟩
  · have hgl : g < w.heap.size := (Array.getElem?_eq_some_iff.1 hg).1
    have HV := Lib.hid hv
    have HM := Lib.hid hm
    clear hv hc hg hm
    go_enter Try.func101, Try.ntmps101
    go_wp2
    go_loopw [1, 5] (fun l i wr => ∃ j : Nat, j ≤ n ∧ i = .int .i64 j ∧ l = .int .i64 (k + 2 * j) ∧ Below w.heap.size w wr) (fun _ i _ => n - (intOf i).toNat)
    case atStart => exact ⟨0, Nat.zero_le _, rfl, by simp, Below.refl _ _⟩
    case round =>
      obtain ⟨j, hj, rfl, rfl, hb⟩ := hrel
      by_cases hlt : j < n
      · have hs := hb.size
        have ho := own_below HV.out hb
        have hln : xs.length = n * 2 := ho.1
        have hm := HM.out j hlt
        have c0 : wr.cell? ⟨g, j * 2, none⟩ = some (.string (mkT (k + 2 * j))) := (ho.cellAt (j * 2) (by omega)).trans hm.1
        have c1 : wr.cell? ⟨g, j * 2 + 1, none⟩ = some (.string (mkT (k + 2 * j + 1))) := (ho.cellAt (j * 2 + 1) (by omega)).trans hm.2
        clear ho hln hm
        have hgw : g < wr.heap.size := by omega
        have HC : Hid (∀ W : World, Below wr.heap.size wr W → W.cell? ⟨g, j * 2, none⟩ = some (.string (mkT (k + 2 * j))) ∧ W.cell? ⟨g, j * 2 + 1, none⟩ = some (.string (mkT (k + 2 * j + 1)))) := fun W hB => ⟨(hB.cell hgw).trans c0, (hB.cell hgw).trans c1⟩
        have HB := Lib.hid hb
        clear hb
        clear c1
        go_wp2_with fail
        go_region_held3 (fun w' => w'.cell? ⟨g, j * 2, none⟩ = some (.string (mkT (k + 2 * j))))
          ((first | assumption | (refine (HC.out _ ?_).1; exact hb2)))
          (first | (go_at_call 110; refine (markText_any _ _ (by omega)).mono ?_; rintro e w2 ⟨rfl, hb2'⟩; have hb2 : Below wr.heap.size wr w2 := Below.trans (by first | exact Below.refl _ _ | exact (Below.refl _ _).drew) (hb2'.mono (by first | exact Nat.le_refl _ | (simp; done)))))
        all_goals
          have HB2 := Lib.hid hb2
          obtain ⟨-, d1⟩ := HC.out _ HB2.out
          clear hb2' hb2 c0
          go_wp2_with fail
          go_region_held3 (fun w' => w'.cell? ⟨g, j * 2 + 1, none⟩ = some (.string (mkT (k + 2 * j + 1))))
            ((first | assumption | (refine (HC.out _ ?_).2; exact hb3)))
            (first | (go_at_call 110; refine (markText_any _ _ (by omega)).mono ?_; rintro e w3 ⟨rfl, hb3'⟩; have hb3 : Below wr.heap.size wr w3 := HB2.out.drew.trans (hb3'.mono (by first | exact HB2.out.size | exact HB2.out.drew.size))))
          all_goals
            have HB3 := Lib.hid (HB.out.trans (hb3.mono hs))
            clear hb3' hb3 d1
            go_wp2_with fail
            go_roundw
            case rel => exact ⟨j + 1, by omega, by go_num, by go_num, HB3.out⟩
            case measure => simp [intOf]; omega
      · have hjn : j = n := by omega
        subst hjn
        go_wp2
        go_ret
        exact ⟨ret_i (by omega), hb⟩
end Go.Proofs.Ytlfnpnkpjdmonaa
