import Derived.Test.YtlfnpnkpjdmonaaKept
set_option linter.unusedVariables false
set_option linter.unusedSimpArgs false
namespace Go.Proofs.Ytlfnpnkpjdmonaa
open Go.RowKit

/-! ### they are copied, and held against each other -/
set_option maxRecDepth 100000 in
theorem eqKept_eq (nm : ByteArray) (t : Int) (A B : Option Addr) (c d : Nat) (ps : List Pr) (w : World) (hx : Rd w w.heap.size A (flat encP ps)) (hy : Rd w w.heap.size B (flat encP ps)) (hl : ps.length ≤ maxLen) :
    Calls Try.prog 193 #[kpV ⟨nm, t, A, c, ps⟩, kpV ⟨nm, t, B, d, ps⟩] w fun e w' => e = .returned (.bool true) ∧ Below w.heap.size w w' := by
  have hb1 : Below w.heap.size w ((w.alloc (.cells #[.string nm, .int .i64 t, .slice A ps.length c] 131)).alloc (.cells #[.string nm, .int .i64 t, .slice B ps.length d] 131)) := by repeat (first | exact Below.refl _ _ | assumption | refine Below.drew ?_ | refine below_drewN ?_ _ | refine Below.setCell ?_ (by first | exact Nat.le_refl _ | exact Below.size (by assumption) | (simp; done) | (simp; omega) | omega) _ | refine Below.alloc ?_ (by first | exact Nat.le_refl _ | exact Below.size (by assumption) | (simp; done) | (simp; omega) | omega) _)
  have HX := Lib.hid (hx.next hb1)
  have HY := Lib.hid (hy.next hb1)
  have HB := Lib.hid hb1
  clear hx hy hb1
  have e1 : (t != t) = false := by simp
  go_enter Try.func193, Try.ntmps193
  go_wp2_with fail
  refine (eqPairS_eq _ _ _ _ ps _ HX.out HY.out hl).mono ?_
  rintro e w1 ⟨rfl, hb⟩
  have hb2 := below_after HB.out hb
  clear hb
  go_wp2
  go_ret
  exact ⟨rfl, hb2⟩
theorem data_at {l l' : List Kp} (h : l.map Kp.data = l'.map Kp.data) {i : Nat} (hi : i < l.length) (hi' : i < l'.length) : l[i].data = l'[i].data := by
  have e1 : (l.map Kp.data)[i]? = some l[i].data := by simp [hi]
  have e2 : (l'.map Kp.data)[i]? = some l'[i].data := by simp [hi']
  rw [h, e2] at e1
  exact (Option.some.inj e1).symm
theorem kp_eta {k k' : Kp} (h : k.data = k'.data) : k' = ⟨k.name, k.tick, k'.A, k'.c, k.ps⟩ := by
  cases k; cases k'
  simp only [Kp.data, Prod.mk.injEq] at h
  obtain ⟨rfl, rfl, rfl⟩ := h
  rfl
theorem eqKept_any (k k' : Kp) (h : k.data = k'.data) (w : World) (hx : Rd w w.heap.size k.A (flat encP k.ps)) (hy : Rd w w.heap.size k'.A (flat encP k'.ps)) (hl : k.ps.length ≤ maxLen) :
    Calls Try.prog 193 #[kpV k, kpV k'] w fun e w' => e = .returned (.bool true) ∧ Below w.heap.size w w' := by
  have e := kp_eta h
  obtain ⟨nm, t, A, c, ps⟩ := k
  obtain ⟨nm', t', B, d, ps'⟩ := k'
  simp only [Kp.mk.injEq, true_and] at e
  obtain ⟨rfl, rfl, rfl⟩ := e
  exact eqKept_eq _ _ _ _ _ _ _ w hx hy hl
set_option maxRecDepth 100000 in
theorem eqKeptS_eq (A B : Option Addr) (c d n : Nat) (xs ys : List Kp) (hn : n = xs.length) (hn' : n = ys.length) (w : World) (hx : KRd w w.heap.size A xs) (hy : KRd w w.heap.size B ys) (he : xs.map Kp.data = ys.map Kp.data) (hl : n ≤ maxLen) (hs : ∀ k ∈ xs, k.ps.length ≤ maxLen) :
    Calls Try.prog 122 #[.slice A n c, .slice B n d] w fun e w' => e = .returned (.bool true) ∧ Below w.heap.size w w' := by
  unfold maxLen at hl
  have HX := Lib.hid hx
  have HY := Lib.hid hy
  have HE := Lib.hid (And.intro he (And.intro hs (And.intro hn hn')))
  clear hx hy he hs hn hn'
  go_enter Try.func122, Try.ntmps122
  go_wp2
  go_loopw [5] (fun i wr => ∃ k : Nat, k ≤ n ∧ i = .int .i64 k ∧ Below w.heap.size w wr) (fun i _ => n - (intOf i).toNat)
  case atStart => exact ⟨0, Nat.zero_le _, rfl, Below.refl _ _⟩
  case round =>
    obtain ⟨k, hk, rfl, hb⟩ := hrel
    by_cases hlt : k < n
    · have hlx : k < xs.length := by have := HE.out.2.2.1; omega
      have hly : k < ys.length := by have := HE.out.2.2.2; omega
      obtain ⟨ad, rfl, hbl, hca, hcb, hcc⟩ := (HX.out.1.below hb).kp hlx
      obtain ⟨bd, rfl, hbl', hda, hdb, hdc⟩ := (HY.out.1.below hb).kp hly
      have hcl := hb.size
      have hcon : ∀ W : World, Rd W W.heap.size xs[k].A (flat encP xs[k].ps) → Rd W W.heap.size ys[k].A (flat encP ys[k].ps) → Calls Try.prog 193 #[kpV xs[k], kpV ys[k]] W fun e w' => e = .returned (.bool true) ∧ Below W.heap.size W w' := fun W g1 g2 => eqKept_any xs[k] ys[k] (data_at HE.out.1 hlx hly) W g1 g2 (HE.out.2.1 _ (List.getElem_mem _))
      have HC := Lib.hid hcon
      clear hcon
      have HN := Lib.hid (And.intro (HX.out.2 xs[k] (List.getElem_mem _)) (HY.out.2 ys[k] (List.getElem_mem _)))
      generalize hgx : xs[k] = x at *
      generalize hgy : ys[k] = y at *
      clear hgx hgy
      go_wp2
      go_region_held3 (fun w' => w'.cell? (ad.add (k * 3)) = some (.string x.name) ∧ w'.cell? ⟨(ad.add (k * 3)).block, (ad.add (k * 3)).off + 1, none⟩ = some (.int .i64 x.tick) ∧ w'.cell? ⟨(ad.add (k * 3)).block, (ad.add (k * 3)).off + 1 + 1, none⟩ = some (.slice x.A x.ps.length x.c) ∧ w'.cell? (bd.add (k * 3)) = some (.string y.name) ∧ w'.cell? ⟨(bd.add (k * 3)).block, (bd.add (k * 3)).off + 1, none⟩ = some (.int .i64 y.tick) ∧ w'.cell? ⟨(bd.add (k * 3)).block, (bd.add (k * 3)).off + 1 + 1, none⟩ = some (.slice y.A y.ps.length y.c))
        (refine ⟨?_, ?_, ?_, ?_, ?_, ?_⟩ <;> first | assumption | (exact (hb2.cell (by simp only [add_block, World.size_drew]; omega)).trans (by assumption)))
        (first | (go_at_call 193; refine (HC.out _ ((HN.out.1.next hb).next (below_after (Below.refl _ _) ((Below.refl _ _).drew))) ((HN.out.2.next hb).next (below_after (Below.refl _ _) ((Below.refl _ _).drew)))).mono ?_; rintro e w2 ⟨rfl, hb2⟩))
      have hb3 := below_after hb.drew hb2
      clear hb2
      go_wp2_with fail
      go_roundw
      case rel => exact ⟨k + 1, by omega, by go_num, hb3⟩
      case measure => simp [intOf]; omega
    · go_wp2
      go_ret
      exact ⟨rfl, hb⟩
end Go.Proofs.Ytlfnpnkpjdmonaa
