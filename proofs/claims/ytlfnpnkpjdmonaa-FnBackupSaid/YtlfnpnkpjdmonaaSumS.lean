import Derived.Test.YtlfnpnkpjdmonaaArch
set_option linter.unusedVariables false
set_option linter.unusedSimpArgs false
namespace Go.Proofs.Ytlfnpnkpjdmonaa
open Go.RowKit

/-! ### the reference: the sum of pairs, a link; backups in memory -/
set_option maxRecDepth 100000 in
set_option maxHeartbeats 4000000 in
theorem l06Sum_any (A : Option Addr) (c : Nat) (l : List Pr) (w : World) (hx : Rd w w.heap.size A (flat encP l)) (hl : l.length ≤ 4096) (hs : ∀ p ∈ l, pairB p = true) :
    Calls Try.prog 243 #[.slice A l.length c] w fun e w' => e = .returned (.int .i64 (sumP l)) ∧ Below w.heap.size w w' := by
  have HX := Lib.hid hx
  have HS := Lib.hid hs
  have H0 : Hid ((w.alloc (.cells #[] 5)).ownsRow w.heap.size 5 1 (.slice (some ⟨w.heap.size, 0, none⟩) 0 0) 0 []) := own_empty_at (Nat.le_refl _) (heap_alloc_new _ _)
  have HB0 : Hid (Below w.heap.size w (w.alloc (.cells #[] 5))) := by show Below _ _ _; repeat (first | exact Below.refl _ _ | assumption | refine Below.drew ?_ | refine below_drewN ?_ _ | refine Below.setCell ?_ (by first | exact Nat.le_refl _ | exact Below.size (by assumption) | (simp; done) | (simp; omega) | omega) _ | refine Below.alloc ?_ (by first | exact Nat.le_refl _ | exact Below.size (by assumption) | (simp; done) | (simp; omega) | omega) _)
  clear hx hs
  go_enter Try.func243, Try.ntmps243
  go_wp2_with fail
  go_loopw [3, 4] (fun v i wr => ∃ k : Nat, k ≤ l.length ∧ i = .int .i64 k ∧ wr.ownsRow w.heap.size 5 1 v (sumB (l.take k)).length ((sumB (l.take k)).map bv) ∧ Below w.heap.size w wr) (fun _ i _ => l.length - (intOf i).toNat)
  case atStart => exact ⟨0, Nat.zero_le _, rfl, H0.out, HB0.out⟩
  case round =>
    obtain ⟨k, hk, rfl, ho, hb⟩ := hrel
    have HO := Lib.hid ho
    have HB := Lib.hid hb
    obtain ⟨A0, n0, rfl, _⟩ := own_form ho
    have hsl := sumB_len (l := l.take k) (fun q hq => HS.out q (List.mem_of_mem_take hq))
    rw [List.length_take] at hsl
    have HSL : Hid ((sumB (l.take k)).length ≤ 512000) := by show _ ≤ _; omega
    have hsw := hb.size
    clear ho hsl H0
    by_cases hlt : k < l.length
    · obtain ⟨ad, rfl, hla, hca, hcb⟩ := (HX.out.below hb).pr hlt
      have hpb := HS.out _ (List.getElem_mem hlt)
      have HE : Hid (sumB (l.take (k + 1)) = sumB (l.take k) ++ pairF l[k]) := by
        show _ = _
        unfold sumB
        rw [flatMap_take _ _ _ hlt]
      obtain ⟨p, hp⟩ : ∃ p, p = l[k] := ⟨_, rfl⟩
      rw [← hp] at hca hcb hpb HE
      have hps := hpb
      simp only [pairB, Bool.and_eq_true, decide_eq_true_eq] at hps
      have hk1 : p.1.size ≤ 4194304 := by omega
      have hk2 : p.2.size ≤ 4194304 := by omega
      have HPB := Lib.hid (pairF_len hpb)
      have hlw : ad.block < wr.heap.size := by omega
      have HW : Hid (∀ w' : World, Below w.heap.size wr w' → w'.cell? (ad.add (k * 2)) = some (.string p.1) ∧ w'.cell? ⟨(ad.add (k * 2)).block, (ad.add (k * 2)).off + 1, none⟩ = some (.string p.2)) := fun w' hb' => ⟨(hb'.cell (by rw [add_block]; exact hla)).trans hca, (hb'.cell (by show (ad.add (k * 2)).block < _; rw [add_block]; exact hla)).trans hcb⟩
      clear hp hpb hps hb
      go_wp2_with fail
      go_region_held3 (fun w' => w'.cell? (ad.add (k * 2)) = some (.string p.1) ∧ w'.cell? ⟨(ad.add (k * 2)).block, (ad.add (k * 2)).off + 1, none⟩ = some (.string p.2))
        ((refine HW.out _ ?_; first | exact hbP | exact hbF.mono hsw | (repeat (first | exact Below.refl _ _ | assumption | refine Below.drew ?_ | refine below_drewN ?_ _ | refine Below.setCell ?_ (by first | exact Nat.le_refl _ | exact Below.size (by assumption) | (simp; done) | (simp; omega) | omega) _ | refine Below.alloc ?_ (by first | exact Nat.le_refl _ | exact Below.size (by assumption) | (simp; done) | (simp; omega) | omega) _))))
        (first
          | (refine step_push_row elByte rfl _ _ rfl w.heap.size _ (sumB (l.take k)).length ((sumB (l.take k)).map bv) rfl (own_below HO.out hbF) _ A20 (pairF p).length c20 ((pairF p).map bv) rfl (Rd.own ho20) (by simp) (bv_one _) (by have := HSL.out; have := HPB.out; simp only [maxLen]; omega) (by have := HSL.out; have := HPB.out; omega) (by have := hbF.size; omega) (own_nilcap ho20) ?_; intro v21 w21 hp21; have hbP := hp21.below (own_below HO.out hbF) (hbF.mono hsw) (by have := hbF.size; omega))
          | (go_at_call 127; refine (l01F2 p.1 p.2 _ _ (by first | exact rd_alloc _ _ _ _ _ rfl rfl | exact rd_alloc _ _ _ _ _ (by simp) rfl) hk1 hk2).mono ?_; rintro e w20 ⟨v20, rfl, ho20, hb20⟩; obtain ⟨A20, c20, rfl, _⟩ := own_form ho20; have hbF : Below wr.heap.size wr w20 := Below.trans (show Below wr.heap.size wr _ by repeat (first | exact Below.refl _ _ | assumption | refine Below.drew ?_ | refine below_drewN ?_ _ | refine Below.setCell ?_ (by first | exact Nat.le_refl _ | exact Below.size (by assumption) | (simp; done) | (simp; omega) | omega) _ | refine Below.alloc ?_ (by first | exact Nat.le_refl _ | exact Below.size (by assumption) | (simp; done) | (simp; omega) | omega) _)) (hb20.mono (by simp)))
          | fail)
      have hop : w21.ownsRow w.heap.size 5 1 v21 (sumB (l.take (k + 1))).length ((sumB (l.take (k + 1))).map bv) := by
        rw [HE.out]
        exact pushed_own hp21 (by rw [List.length_append])
      have HOP := Lib.hid hop
      have HBP := Lib.hid (HB.out.trans hbP)
      clear hop hp21 hbP hbF ho20
      go_wp2_with fail
      go_roundw
      case rel => exact ⟨k + 1, hlt, by go_num, HOP.out, HBP.out⟩
      case measure => simp [intOf]; omega
    · have hkl : k = l.length := by omega
      subst hkl
      rw [List.take_length] at HO HSL ⊢
      have HC := Lib.hid (l01Check_any A0 n0 (sumB l) wr (Rd.own HO.out) (by have := HSL.out; omega))
      clear hb
      go_wp2_with fail
      refine HC.out.mono ?_
      rintro e w2 ⟨rfl, hb2⟩
      have HB2 := Lib.hid (below_after HB.out hb2)
      clear hb2
      go_wp2_with fail
      go_ret
      exact ⟨rfl, HB2.out⟩
theorem slink_any (m : Bk) (w : World) (hd : Rd w w.heap.size m.D (flat encD m.ds)) (hr : BkR m) : Calls Try.prog 212 #[m.v] w fun e w' => e = .returned (.int .i64 m.link) ∧ Below w.heap.size w w' := by
  have h := l06Link_any m.f m.t m.ch.toNat m.D m.ds m.dc m.sm.toNat w hd hr.bkok
  rw [Int.toNat_of_nonneg hr.c0, Int.toNat_of_nonneg hr.s0] at h
  exact h
theorem okB_any (m : Bk) (w : World) (hd : Rd w w.heap.size m.D (flat encD m.ds)) (hr : BkR m) (ho : m.ok = true) : Calls Try.prog 147 #[m.v] w fun e w' => e = .returned (.bool true) ∧ Below w.heap.size w w' := by
  obtain ⟨h1, h2, h3, h4, h5⟩ := hr.sz hd
  have h := specBackupOK_any m.f m.t m.ch m.D m.ds m.dc m.sm w hd (by omega) h2 h3 h5
  rw [show bkB m.f m.t m.ch m.ds m.sm = true from ho] at h
  exact h
theorem elBackup : ElT Try.prog 83 86 5 72 := by
  obtain ⟨i0, h1, h2, h3, h4⟩ := info_parts infoBackup
  exact ⟨i0, _, Try.underlying83, h1, h2, h3, h4, by simp [Value.cells], by omega⟩
theorem bk_cells {w : World} {g : Nat} {a0 a1 a2 a3 a4 : Value} {T : TypeId} (h : w.heap[g]? = some (.cells #[a0, a1, a2, a3, a4] T (0, 0))) : w.cell? ⟨g, 0, none⟩ = some a0 ∧ w.cell? ⟨g, 1, none⟩ = some a1 ∧ w.cell? ⟨g, 2, none⟩ = some a2 ∧ w.cell? ⟨g, 3, none⟩ = some a3 ∧ w.cell? ⟨g, 4, none⟩ = some a4 :=
  ⟨by rw [cell_of_row w _ 0 _ _ _ h]; rfl, by rw [cell_of_row w _ 1 _ _ _ h]; rfl, by rw [cell_of_row w _ 2 _ _ _ h]; rfl, by rw [cell_of_row w _ 3 _ _ _ h]; rfl, by rw [cell_of_row w _ 4 _ _ _ h]; rfl⟩
end Go.Proofs.Ytlfnpnkpjdmonaa
